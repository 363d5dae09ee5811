/- What strconv.FormatUint at base 16 returns of a number below 2^32. Conditions: the listed tables. -/
import Derived.Test.YtdgloipckcjhaaaDoorTable
import Derived.Test.YtdgloipckcjhaaaDoorPlHex
import Derived.Test.YtdgloipckcjhaaaDoorShelf
import Derived.OwnWalk
import Derived.Laws.IdiomStrings
namespace Go.Proofs.YtdgloipckcjhaaaDoor
open Go.RowKit

theorem pow2_any (w : World) : Calls Tryd.prog 83 #[.int .i64 16] w fun e w' => e = .returned (.bool true) ∧ w = w' := by
  have h : bits .and .i64 16 15 = 0 := by decide
  go_enter Tryd.func83, Tryd.ntmps83
  go_wp2
  go_ret
  exact ⟨rfl, rfl⟩
set_option maxHeartbeats 400000 in
theorem tz64_any (w : World) (h : w.cell? ⟨8, 15, none⟩ = some (.int .u8 4)) : Calls Tryd.prog 93 #[.int .u64 16] w fun e w' => e = .returned (.int .i64 4) ∧ w = w' := by
  have hq : IntKind.u64.wrap (bits .and .u64 16 (IntKind.u64.wrap (-16)) * 285870213051353865) / 288230376151711744 = 15 := by decide +kernel
  go_enter Tryd.func93, Tryd.ntmps93
  go_wp2
  go_ret
  exact ⟨rfl, rfl⟩
theorem tz_any (w : World) (h : w.cell? ⟨8, 15, none⟩ = some (.int .u8 4)) : Calls Tryd.prog 84 #[.int .u64 16] w fun e w' => e = .returned (.int .i64 4) ∧ w = w' := by
  go_enter Tryd.func84, Tryd.ntmps84
  go_wp2_with (go_at_call 93; refine (tz64_any _ h).mono ?_; rintro e w' ⟨rfl, rfl⟩)
  go_ret
  exact ⟨rfl, rfl⟩

/-- The digit at the walk's own index. -/
theorem idx_dig {n : Nat} (h : n < 16) (W : World) : (Instr.index 9 (.string ⟨#[48, 49, 50, 51, 52, 53, 54, 55, 56, 57, 97, 98, 99, 100, 101, 102, 103, 104, 105, 106, 107, 108, 109, 110, 111, 112, 113, 114, 115, 116, 117, 118, 119, 120, 121, 122]⟩) (.int .u64 (n : Int))).run Tryd.prog W = .ok (.int .u8 ((Hx.dig n).toNat : Int)) W := by
  rw [run_index_string _ _ _ _ _ Tryd.underlying9, dif_pos ⟨by omega, by show (n : Int) < 36; omega⟩]
  congr 3
  have : n = 0 ∨ n = 1 ∨ n = 2 ∨ n = 3 ∨ n = 4 ∨ n = 5 ∨ n = 6 ∨ n = 7 ∨ n = 8 ∨ n = 9 ∨ n = 10 ∨ n = 11 ∨ n = 12 ∨ n = 13 ∨ n = 14 ∨ n = 15 := by omega
  rcases this with rfl | rfl | rfl | rfl | rfl | rfl | rfl | rfl | rfl | rfl | rfl | rfl | rfl | rfl | rfl | rfl <;> rfl
theorem mask64 (n : Nat) (h : n < 4294967296) : bits .and .u64 (n : Int) 15 = ((n % 16 : Nat) : Int) := by
  rw [show (15 : Int) = ((15 : Nat) : Int) from rfl, u64_and_nat n 15 (by omega) (by decide), nat_mask4]

theorem slice65 (g j : Nat) (hj : j < 65) (w : World) : (Instr.sliceAt 109 (.pointer (some ⟨g, 0, none⟩)) (some (.int .i64 (j : Int))) none none).run Tryd.prog w = .ok (.slice (some ⟨g, j, none⟩) (65 - j) (65 - j)) w := by
  have hl : Tryd.prog.arrayLen 109 = 65 := by kernel_rfl
  have he : Tryd.prog.elem 109 = 5 := by kernel_rfl
  have hs : (sizeOf 5).run Tryd.prog w = .ok 1 w := by kernel_rfl
  rw [run_sliceAt_array_l w 109 ⟨g, 0, none⟩ (by rw [hl, he]; exact Tryd.underlying109) .i64 j (by omega) (by rw [hl]; omega), hl, he, hs]
  show Result.ok (slicedAt ⟨g, 0, none⟩ j 65 65 1) w = _
  unfold slicedAt
  rw [if_neg (by omega), show (⟨g, 0, none⟩ : Addr).add (j * 1) = ⟨g, j, none⟩ by unfold Addr.add; split <;> simp_all]
theorem conv_at {w : World} {g j n : Nat} {l : List UInt8} (hl : l.length = n) (h : ∀ i (hi : i < l.length), w.cell? ⟨g, j + i, none⟩ = some (.int .u8 (l[i].toNat : Int))) :
    (convert 33 9 (.slice (some ⟨g, j, none⟩) n n)).run Tryd.prog w = .ok (.string ⟨l.toArray⟩) w := by
  subst hl
  refine run_convert_bytes_back w 33 9 5 ⟨g, j, none⟩ _ l Tryd.underlying33 Tryd.underlying5 Tryd.underlying9 fun i hi => ?_
  rw [show (⟨g, j, none⟩ : Addr).add i = ⟨g, j + i, none⟩ by unfold Addr.add; split <;> simp_all]
  exact h i hi

set_option maxRecDepth 100000 in
set_option maxHeartbeats 1000000 in
theorem fbits_any (u : Nat) (w : World) (hu : u < 4294967296) (h : w.cell? ⟨8, 15, none⟩ = some (.int .u8 4)) (hg : 8 < w.heap.size) :
    Calls Tryd.prog 68 #[.slice none 0 0, .int .u64 (u : Int), .int .i64 16, .bool false, .bool false] w fun e w' => e = .returned (.tuple #[.slice none 0 0, .string ⟨(Hx.fmt u).toArray⟩]) ∧ Below w.heap.size w w' := by
  have HA := Lib.hid (Blk.new w 109)
  have HB := Lib.hid (fun o => (Below.refl w.heap.size w).alloc (Nat.le_refl _) o)
  have HT := Lib.hid (fun o => (World.cell?_alloc_lt w o ⟨8, 15, none⟩ hg).trans h)
  clear h
  go_enter Tryd.func68, Tryd.ntmps68
  go_wp2_with (first
    | (go_at_call 83; refine (pow2_any _).mono ?_; rintro e w' ⟨rfl, rfl⟩)
    | (go_at_call 84; refine (tz_any _ (HT.out _)).mono ?_; rintro e w' ⟨rfl, rfl⟩))
  clear HT
  go_loopw [1, 13] (fun uu i wr => ∃ t j v : Nat, j + t ≤ 64 ∧ 64 ≤ j + t ∧ t ≤ 7 ∧ i = .int .i64 ((j : Int) + 1) ∧ uu = .int .u64 v ∧ v < 4294967296 ∧ Hid (v = u / 16 ^ t) ∧ Hid (∀ s, s < t → 16 ≤ u / 16 ^ s) ∧ Below w.heap.size w wr ∧
    ∃ cs, Blk wr w.heap.size 109 cs ∧ Hid (cs.size = 65) ∧ Hid (∀ s, s < t → cs[64 - s]? = some (.int .u8 ((Hx.dig (u / 16 ^ s % 16)).toNat : Int)))) (fun uu _ _ => (intOf uu).toNat)
  case atStart => exact ⟨0, 64, u, by omega, by omega, by omega, rfl, rfl, hu, Lib.hid (by simp), Lib.hid (fun s hs => by omega), HB.out _, _, HA.out _, Lib.hid rfl, Lib.hid (fun s hs => by omega)⟩
  case round =>
    obtain ⟨t, j, v, hj1, hj2, ht, rfl, rfl, hv, HV, HS, hbel, cs, hblk, HZ, HC⟩ := hrel
    have HK := Lib.hid hblk
    have HL := Lib.hid hbel
    clear hblk hbel
    have hv0 : ∃ v0, cs[j]? = some v0 := ⟨cs[j]'(by rw [HZ.out]; omega), by simp⟩
    obtain ⟨v0, hv0⟩ := hv0
    have hcell := (HK.out.cell j).trans hv0
    have hfr := HK.out.frozen j
    clear hv0
    by_cases hge : 16 ≤ v
    · have ht6 : t ≤ 6 := by
        refine Nat.le_of_not_lt fun hlt => ?_
        obtain rfl : t = 7 := by omega
        have := HV.out
        omega
      have hmk := mask64 v hv
      have hidx := idx_dig (n := v % 16) (by omega)
      rw [show ((v % 16 : Nat) : Int) = (v : Int) % 16 from rfl] at hmk hidx
      have HV2 : Hid (v / 16 = u / 16 ^ (t + 1)) := Lib.hid (by rw [HV.out, Nat.div_div_eq_div_mul, ← Nat.pow_succ])
      have HS2 : Hid (∀ s, s < t + 1 → 16 ≤ u / 16 ^ s) := Lib.hid (fun s hs => by
        by_cases e : s = t
        · subst e; rw [← HV.out]; exact hge
        · exact HS.out s (by omega))
      go_wp2
      go_roundw
      case rel =>
        refine ⟨t + 1, j - 1, v / 16, by omega, by omega, by omega, ?_, ?_, by omega, HV2, HS2, HL.out.setCell (Nat.le_refl _) _, _, HK.out.set j _, Lib.hid (by simp [HZ.out]), Lib.hid (fun s hs => ?_)⟩
        · congr 1; omega
        · go_num
        · rw [Array.getElem?_setIfInBounds]
          by_cases e : s = t
          · subst e
            rw [if_pos (by omega), if_pos (by rw [HZ.out]; omega), HV.out]
          · rw [if_neg (by omega)]; exact HC.out s (by omega)
      case measure => simp [intOf]; omega
    · have hidx := idx_dig (n := v) (by omega)
      have d1 : decide (16 ≤ (v : Int)) = false := by simp; omega
      have hfin : Hx.fmt u = Hx.hexK (t + 1) u := Hx.fmt_of t u (by rw [← HV.out]; omega) HS.out
      have hsl := slice65 w.heap.size j (by omega)
      have hcv : (convert 33 9 (.slice (some ⟨w.heap.size, j, none⟩) (65 - j) (65 - j))).run Tryd.prog (wr.setCell ⟨w.heap.size, j, none⟩ (.int .u8 ((Hx.dig v).toNat : Int))) = .ok (.string ⟨(Hx.fmt u).toArray⟩) (wr.setCell ⟨w.heap.size, j, none⟩ (.int .u8 ((Hx.dig v).toNat : Int))) := by
        rw [hfin]
        refine conv_at (by rw [Hx.hexK_length]; omega) (fun i hi => ?_)
        have hi' : i < t + 1 := by rw [Hx.hexK_length] at hi; exact hi
        have hat := Hx.hexK_at (t + 1) u i hi'
        rw [List.getElem?_eq_getElem hi] at hat
        rw [(HK.out.set j _).cell (j + i), Option.some.inj hat, Array.getElem?_setIfInBounds]
        by_cases e : i = 0
        · subst e
          rw [if_pos (by omega), if_pos (by rw [HZ.out]; omega), show t + 1 - 1 - 0 = t by omega, ← HV.out, Nat.mod_eq_of_lt (by omega : v < 16)]
        · rw [if_neg (by omega), show j + i = 64 - (t + 1 - 1 - i) by omega]
          exact HC.out (t + 1 - 1 - i) (by omega)
      have HC2 := Lib.hid hcv
      have HS2 := Lib.hid hsl
      clear hcv hsl hfin
      have hsl := HS2.out
      have hcv := HC2.out
      go_wp2
      go_ret2
      exact ⟨rfl, HL.out.setCell (Nat.le_refl _) _⟩
end Go.Proofs.YtdgloipckcjhaaaDoor
