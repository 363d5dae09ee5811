/- What the matrix functions of crc return: of, twice, step. Conditions: the matrix lies in memory. -/
import Derived.Test.YtdgloipckcjhaaaDoorMore
import Derived.Test.YtdgloipckcjhaaaDoorBlk
import Derived.Deep.RegionHeld3
import Derived.IntWalk
namespace Go.Proofs.YtdgloipckcjhaaaDoor
open Go.RowKit

/-- A matrix in a block of its own. -/
structure MatAt (w : World) (b : Nat) (m : Nat → Nat) : Prop where
  cell : ∀ i, i < 32 → w.cell? ⟨b, i, none⟩ = some (.int .u32 (m i : Nat))
  lt : ∀ i, i < 32 → m i < 4294967296
  room : b < w.heap.size
theorem MatAt.below {w w' : World} {b B : Nat} {m : Nat → Nat} (h : MatAt w b m) (hb : Below B w w') (hB : B ≤ w'.heap.size) (hl : b < B) : MatAt w' b m :=
  ⟨fun i hi => (hb.cell (p := ⟨b, i, none⟩) hl).trans (h.cell i hi), h.lt, by omega⟩

theorem ofM_lt {m : Nat → Nat} (hm : ∀ i, i < 32 → m i < 4294967296) (r : Nat) : ∀ k, k ≤ 32 → Crc.ofM m r k < 4294967296 := by
  intro k
  induction k with
  | zero => intro _; exact (by decide : 0 < 4294967296)
  | succ k ih =>
    intro hk
    refine Nat.xor_lt_two_pow (n := 32) (ih (by omega)) ?_
    split
    · exact hm k (by omega)
    · decide
theorem bit_eq {r : Nat} (hr : r < 4294967296) (k : Nat) : bits .and .u32 ((r : Int) / 2 ^ k) 1 = ((r / 2 ^ k % 2 : Nat) : Int) := by
  have h1 : ((r : Int) / 2 ^ k) = ((r / 2 ^ k : Nat) : Int) := by rw [Int.natCast_ediv, Int.natCast_pow]; rfl
  have h2 : r / 2 ^ k < 4294967296 := Nat.lt_of_le_of_lt (Nat.div_le_self _ _) hr
  rw [h1, show (1 : Int) = ((1 : Nat) : Int) from rfl, u32_and_nat _ _ h2 (by decide), nat_mask1]

set_option maxHeartbeats 400000 in
theorem of_any (b : Nat) (m : Nat → Nat) (r : Nat) (w : World) (hr : r < 4294967296) (h : MatAt w b m) :
    Calls Tryd.prog 30 #[.pointer (some ⟨b, 0, none⟩), .int .u32 (r : Int)] w fun e w' => e = .returned (.int .u32 (Crc.ofM m r 32 : Nat)) ∧ w = w' := by
  have HX := Lib.hid h
  clear h
  go_enter Tryd.func30, Tryd.ntmps30
  go_wp2
  go_loop [5, 7] (fun o i => ∃ k : Nat, k ≤ 32 ∧ i = .int .i64 k ∧ o = .int .u32 ((Crc.ofM m r k : Nat) : Int)) (fun _ i => 32 - (intOf i).toNat)
  case atStart => exact ⟨0, Nat.zero_le _, rfl, rfl⟩
  case round =>
    obtain ⟨k, hk, rfl, rfl⟩ := hrel
    by_cases hlt : k < 32
    · have hc := HX.out.cell k hlt
      have ho := ofM_lt HX.out.lt r k (by omega)
      have hx := u32_xor_nat _ _ ho (HX.out.lt k hlt)
      have hb := bit_eq hr k
      rcases Nat.mod_two_eq_zero_or_one (r / 2 ^ k) with e | e
      · have hS : Crc.ofM m r (k + 1) = Crc.ofM m r k := by simp [Crc.ofM, e]
        rw [e] at hb
        have HS := Lib.hid hS
        clear hS e hx
        go_wp2
        go_round
        case rel => exact ⟨k + 1, by omega, by go_num, by rw [HS.out]⟩
        case measure => simp [intOf]; omega
      · have hS : Crc.ofM m r (k + 1) = Crc.ofM m r k ^^^ m k := by simp [Crc.ofM, e]
        rw [e] at hb
        have HS := Lib.hid hS
        clear hS e
        go_wp2
        go_round
        case rel => exact ⟨k + 1, by omega, by go_num, by rw [HS.out]⟩
        case measure => simp [intOf]; omega
    · obtain rfl : k = 32 := by omega
      go_wp2
      go_ret
      exact ⟨rfl, rfl⟩

theorem cs_some {cs : Array Value} {k : Nat} (h : cs.size = 32) (hk : k < 32) : ∃ v, cs[k]? = some v := ⟨cs[k], by simp⟩
theorem cs_set {cs : Array Value} {k j : Nat} {v : Value} (h : cs.size = 32) (hk : k < 32) : (cs.setIfInBounds k v)[j]? = if j = k then some v else cs[j]? := by
  rw [Array.getElem?_setIfInBounds]
  by_cases e : k = j
  · subst e; simp [h, hk]
  · rw [if_neg e, if_neg (fun h => e h.symm)]

set_option maxHeartbeats 1000000 in
theorem twice_any (b : Nat) (m : Nat → Nat) (w : World) (h : MatAt w b m) :
    Calls Tryd.prog 29 #[.pointer (some ⟨b, 0, none⟩)] w fun e w' => ∃ g, e = .returned (.pointer (some ⟨g, 0, none⟩)) ∧ MatAt w' g (fun i => Crc.ofM m (m i) 32) ∧ Below w.heap.size w w' := by
  have HX := Lib.hid h
  clear h
  have HA := Lib.hid (Blk.new w 59)
  have HB := Lib.hid (fun o => (Below.refl w.heap.size w).alloc (Nat.le_refl _) o)
  go_enter Tryd.func29, Tryd.ntmps29
  go_wp2
  go_loopw [5] (fun i wr => ∃ k : Nat, k ≤ 32 ∧ i = .int .i64 k ∧ Below w.heap.size w wr ∧ ∃ cs, Blk wr w.heap.size 59 cs ∧ cs.size = 32 ∧ ∀ j, j < k → cs[j]? = some (.int .u32 (Crc.ofM m (m j) 32 : Nat))) (fun i _ => 32 - (intOf i).toNat)
  case atStart => exact ⟨0, Nat.zero_le _, rfl, HB.out _, _, HA.out _, rfl, fun j hj => by omega⟩
  case round =>
    obtain ⟨k, hk, rfl, hbel, cs, hblk, hsz, hcs⟩ := hrel
    have HM := Lib.hid (HX.out.below hbel hbel.size HX.out.room)
    have HK := Lib.hid hblk
    have HL := Lib.hid hbel
    have HC := Lib.hid hcs
    have HZ := Lib.hid hsz
    clear hcs hblk hbel hsz
    by_cases hlt : k < 32
    · have hc := HM.out.cell k hlt
      obtain ⟨v0, hv0⟩ := cs_some HZ.out hlt
      have hcell := (HK.out.cell k).trans hv0
      have hfr := HK.out.frozen k
      have hml := HM.out.lt k hlt
      clear hv0
      generalize hx : m k = x at *
      have HXX := Lib.hid hx
      clear hx
      go_wp2_with (go_at_call 30; refine (of_any _ _ _ _ hml HM.out).mono ?_; rintro e w' ⟨rfl, rfl⟩)
      go_roundw
      case rel =>
        refine ⟨k + 1, by omega, by go_num, HL.out.setCell (Nat.le_refl _) _, _, HK.out.set k _, by simp [HZ.out], fun j hj => ?_⟩
        rw [cs_set HZ.out hlt]
        by_cases e : j = k
        · rw [if_pos e, e, HXX.out]
        · rw [if_neg e]; exact HC.out j (by omega)
      case measure => simp [intOf]; omega
    · obtain rfl : k = 32 := by omega
      go_wp2
      go_ret
      exact ⟨w.heap.size, rfl, ⟨fun i hi => (HK.out.cell i).trans (HC.out i hi), fun i hi => ofM_lt HX.out.lt _ 32 (Nat.le_refl _), HK.out.lt⟩, HL.out⟩

theorem MatAt.congr {w : World} {b : Nat} {m m' : Nat → Nat} (h : MatAt w b m) (e : ∀ i, i < 32 → m i = m' i) : MatAt w b m' :=
  ⟨fun i hi => by rw [← e i hi]; exact h.cell i hi, fun i hi => by rw [← e i hi]; exact h.lt i hi, h.room⟩
theorem pow_lt32 {i : Nat} (h : i < 32) : 2 ^ i < 4294967296 := (Nat.pow_lt_pow_right (by decide) h : 2 ^ i < 2 ^ 32)
theorem shl_eq {k : Nat} (h : k < 31) : IntKind.u32.wrap (2 ^ k) = ((2 ^ k : Nat) : Int) := by
  have := pow_lt32 (i := k) (by omega)
  rw [IntKind.wrap_u32', show ((2 : Int) ^ k) = ((2 ^ k : Nat) : Int) by rw [Int.natCast_pow]; rfl]
  exact Int.emod_eq_of_lt (Int.natCast_nonneg _) (Int.ofNat_lt.2 this)
theorem step_two {j : Nat} : Crc.step (2 ^ (j + 1)) = 2 ^ j := by
  rw [Nat.pow_succ]; exact Crc.step_double _

set_option maxHeartbeats 1000000 in
theorem step_any (w : World) :
    Calls Tryd.prog 28 #[] w fun e w' => ∃ g, e = .returned (.pointer (some ⟨g, 0, none⟩)) ∧ MatAt w' g (fun i => Crc.stepn 1 (2 ^ i)) ∧ Below w.heap.size w w' := by
  have HA := Lib.hid (Blk.new w 59)
  have HB := Lib.hid (fun o => (Below.refl w.heap.size w).alloc (Nat.le_refl _) o)
  go_enter Tryd.func28, Tryd.ntmps28
  go_wp2
  go_loopw [4] (fun i wr => ∃ k : Nat, k ≤ 31 ∧ i = .int .i64 k ∧ Below w.heap.size w wr ∧ ∃ cs, Blk wr w.heap.size 59 cs ∧ cs.size = 32 ∧ ∀ j, j < k + 1 → cs[j]? = some (.int .u32 (Crc.step (2 ^ j) : Nat))) (fun i _ => 31 - (intOf i).toNat)
  case atStart =>
    refine ⟨0, Nat.zero_le _, rfl, HB.out _, _, HA.out _, rfl, fun j hj => ?_⟩
    obtain rfl : j = 0 := by omega
    rfl
  case round =>
    obtain ⟨k, hk, rfl, hbel, cs, hblk, hsz, hcs⟩ := hrel
    have HK := Lib.hid hblk
    have HL := Lib.hid hbel
    have HC := Lib.hid hcs
    have HZ := Lib.hid hsz
    clear hcs hblk hbel hsz
    by_cases hlt : k < 31
    · obtain ⟨v0, hv0⟩ := cs_some HZ.out (show k + 1 < 32 by omega)
      have hcell := (HK.out.cell (k + 1)).trans hv0
      have hfr := HK.out.frozen (k + 1)
      have hsh := shl_eq hlt
      clear hv0
      go_wp2
      go_roundw
      case rel =>
        refine ⟨k + 1, by omega, by go_num, HL.out.setCell (Nat.le_refl _) _, _, HK.out.set (k + 1) _, by simp [HZ.out], fun j hj => ?_⟩
        rw [cs_set HZ.out (by omega)]
        by_cases e : j = k + 1
        · rw [if_pos e, e, step_two, Int.natCast_pow]
          rfl
        · rw [if_neg e]; exact HC.out j (by omega)
      case measure => simp [intOf]; omega
    · obtain rfl : k = 31 := by omega
      go_wp2
      go_ret
      refine ⟨w.heap.size, rfl, ⟨fun i hi => (HK.out.cell i).trans (HC.out i hi), fun i hi => Crc.step_lt (pow_lt32 hi), HK.out.lt⟩, HL.out⟩

theorem twice_stepn (j b : Nat) (w : World) (h : MatAt w b (fun i => Crc.stepn j (2 ^ i))) :
    Calls Tryd.prog 29 #[.pointer (some ⟨b, 0, none⟩)] w fun e w' => ∃ g, e = .returned (.pointer (some ⟨g, 0, none⟩)) ∧ MatAt w' g (fun i => Crc.stepn (j * 2) (2 ^ i)) ∧ Below w.heap.size w w' := by
  refine (twice_any b _ w h).mono ?_
  rintro e w' ⟨g, he, hm, hb⟩
  refine ⟨g, he, hm.congr fun i hi => ?_, hb⟩
  rw [Crc.ofM_stepn j _ (h.lt i hi), ← Crc.stepn_add, Nat.mul_two]
theorem of_stepn (j b r : Nat) (w : World) (hr : r < 4294967296) (h : MatAt w b (fun i => Crc.stepn j (2 ^ i))) :
    Calls Tryd.prog 30 #[.pointer (some ⟨b, 0, none⟩), .int .u32 (r : Int)] w fun e w' => e = .returned (.int .u32 (Crc.stepn j r : Nat)) ∧ w = w' := by
  refine (of_any b _ r w hr h).mono ?_
  rintro e w' ⟨he, rfl⟩
  rw [Crc.ofM_stepn j _ hr] at he
  exact ⟨he, rfl⟩
end Go.Proofs.YtdgloipckcjhaaaDoor
