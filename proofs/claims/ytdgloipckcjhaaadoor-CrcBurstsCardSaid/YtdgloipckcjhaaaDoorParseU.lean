/- What strconv.ParseUint at base 16 and 32 bits returns of eight lower hexadecimal digits. Condition: the text is such. -/
import Derived.Test.YtdgloipckcjhaaaDoorHexA
import Derived.Lib.ConvBytes
import Derived.Lib.AtoiErrMem
namespace Go.Proofs.YtdgloipckcjhaaaDoor
open Go.RowKit

theorem lower_any (c : Nat) (w : World) (h1 : 97 ≤ c) (h2 : c ≤ 102) : Calls Tryd.prog 59 #[.int .u8 (c : Int)] w fun e w' => e = .returned (.int .u8 (c : Int)) ∧ w = w' := by
  have hb : bits .or .u8 (c : Int) 32 = (c : Int) := by
    rw [show (32 : Int) = ((32 : Nat) : Int) from rfl, u8_or_nat c 32 (by omega) (by decide)]
    have : c = 97 ∨ c = 98 ∨ c = 99 ∨ c = 100 ∨ c = 101 ∨ c = 102 := by omega
    rcases this with rfl | rfl | rfl | rfl | rfl | rfl <;> rfl
  go_enter Tryd.func59, Tryd.ntmps59
  go_wp2
  go_ret
  exact ⟨by simp, rfl⟩

theorem unhex_step {l : List UInt8} {k : Nat} (h : k < l.length) : Hx.unhex (l.take (k + 1)) = Hx.unhex (l.take k) * 16 + Hx.val (l.getD k 0) := by
  rw [List.take_succ_eq_append_getElem h, Hx.unhex_snoc, List.getD_eq_getElem?_getD, List.getElem?_eq_getElem h]
  rfl
theorem hex_at {l : List UInt8} (h : l.all Hx.isHex = true) {k : Nat} (hk : k < l.length) : Hx.isHex (l.getD k 0) = true := by
  rw [List.getD_eq_getElem?_getD, List.getElem?_eq_getElem hk]
  exact List.all_eq_true.1 h _ (List.getElem_mem _)
theorem hex_form {c : UInt8} (h : Hx.isHex c = true) : (48 ≤ c.toNat ∧ c.toNat ≤ 57 ∧ Hx.val c = c.toNat - 48) ∨ (97 ≤ c.toNat ∧ c.toNat ≤ 102 ∧ Hx.val c = c.toNat - 87) := by
  unfold Hx.isHex at h
  simp only [Bool.or_eq_true, Bool.and_eq_true, decide_eq_true_eq, UInt8.le_iff_toNat_le] at h
  have h' : 48 ≤ c.toNat ∧ c.toNat ≤ 57 ∨ 97 ≤ c.toNat ∧ c.toNat ≤ 102 := h
  rcases h' with ⟨h1, h2⟩ | ⟨h1, h2⟩
  · exact .inl ⟨h1, h2, by unfold Hx.val; rw [if_neg (by omega)]⟩
  · exact .inr ⟨h1, h2, by unfold Hx.val; rw [if_pos h1]⟩
theorem take_hex {l : List UInt8} (h : l.all Hx.isHex = true) (k : Nat) : Hx.unhex (l.take k) < 16 ^ k := by
  have h1 : (l.take k).all Hx.isHex = true := List.all_eq_true.2 fun c hc => List.all_eq_true.1 h c (List.mem_of_mem_take hc)
  exact Nat.lt_of_lt_of_le (Hx.hexK_unhex _ h1).2 (Nat.pow_le_pow_right (by decide) (List.length_take_le _ _))

set_option maxRecDepth 100000 in
set_option maxHeartbeats 2000000 in
theorem parseI_any (s : ByteArray) (w : World) (hs : s.size = 8) (hx : s.data.toList.all Hx.isHex = true) :
    Calls Tryd.prog 46 #[.string s, .int .i64 16, .int .i64 32] w fun e w' => e = .returned (.tuple #[.int .u64 (Hx.unhex s.data.toList : Nat), .nilIface]) ∧ Below w.heap.size w w' := by
  have hlen : s.data.toList.length = 8 := by rw [← Lib.size_eq]; exact hs
  have hne : s.toList.isEmpty = false := by
    rw [Lib.toList_data]
    cases h : s.data.toList with
    | nil => rw [h] at hlen; cases hlen
    | cons => rfl
  have hcv := Lib.run_convert_string_bytes (P := Tryd.prog) w 9 33 5 s (u := .string) Tryd.underlying9 Tryd.underlying33 Tryd.underlying5
  have hB : ∀ j, j < s.size → (Lib.bytesWorld w 5 s).cell? ⟨w.heap.size, j, none⟩ = some (.int .u8 (s.data.toList.getD j 0).toNat) := fun j hj => Lib.bytesWorld_cell w 5 s j hj
  have hbel := Lib.bytesWorld_below w 5 s
  generalize Lib.bytesWorld w 5 s = W1 at hcv hB hbel
  rw [hs] at hcv
  have HB : Hid (∀ j, j < 8 → W1.cell? ⟨w.heap.size, j, none⟩ = some (.int .u8 (s.data.toList.getD j 0).toNat)) := Lib.hid (fun j hj => hB j (by omega))
  have HL := Lib.hid hbel
  generalize hl : s.data.toList = l at *
  have HX := Lib.hid hx
  have HLEN := Lib.hid hlen
  clear hB hbel hl hx hs
  generalize grownCap w 8 0 5 = cap at hcv
  go_enter Tryd.func46, Tryd.ntmps46
  go_wp2
  clear hcv
  go_loop [12, 13, 101] (fun vu vn vi => ∃ (k acc : Nat) (a : Int), k ≤ 8 ∧ vu = .bool false ∧ vn = .int .u64 a ∧ vi = .int .i64 k ∧ Hid (a = (acc : Int) ∧ acc < 4294967296 ∧ acc = Hx.unhex (l.take k))) (fun _ _ vi => 8 - (intOf vi).toNat)
  case atStart => exact ⟨0, 0, 0, by omega, rfl, rfl, rfl, Lib.hid ⟨rfl, by decide, rfl⟩⟩
  case round =>
    obtain ⟨k, acc, a, hk, rfl, rfl, rfl, hh⟩ := hrel
    obtain ⟨ha, hacc, hdec⟩ := hh.out
    clear hh
    have a0 : 0 ≤ a := by omega
    have a1 : a < 4294967296 := by omega
    by_cases hkn : k < 8
    · have hc := HB.out k hkn
      have hst := unhex_step (l := l) (k := k) (by rw [HLEN.out]; omega)
      have hlt := take_hex HX.out (k + 1)
      have hle : 16 ^ (k + 1) ≤ 4294967296 := Nat.pow_le_pow_right (by decide) (show k + 1 ≤ 8 by omega)
      have hfm := hex_form (hex_at HX.out (k := k) (by rw [HLEN.out]; omega))
      generalize l.getD k 0 = c at hc hst hfm
      have hc256 : c.toNat < 256 := c.toNat_lt
      rw [← hdec] at hst
      rcases hfm with ⟨hd0, hd1, hv⟩ | ⟨hd0, hd1, hv⟩
      · have HN : Hid (a * 16 + ((c.toNat : Int) - 48) = ((acc * 16 + (c.toNat - 48) : Nat) : Int) ∧ acc * 16 + (c.toNat - 48) < 4294967296 ∧ acc * 16 + (c.toNat - 48) = Hx.unhex (l.take (k + 1))) := Lib.hid ⟨by omega, by omega, by omega⟩
        have iov : a * 16 + ((c.toNat : Int) - 48) < 4294967296 := by omega
        have icut : a < 1152921504606846976 := by omega
        clear hdec hst hlt hle hv ha hacc
        go_wp2
        go_round
        case rel => exact ⟨k + 1, acc * 16 + (c.toNat - 48), a * 16 + ((c.toNat : Int) - 48), by omega, rfl, (by first | rfl | (congr 1; omega)), (by first | rfl | (congr 1; omega)), HN⟩
        case measure => simp [intOf]; omega
      · have HN : Hid (a * 16 + ((c.toNat : Int) - 97 + 10) = ((acc * 16 + (c.toNat - 87) : Nat) : Int) ∧ acc * 16 + (c.toNat - 87) < 4294967296 ∧ acc * 16 + (c.toNat - 87) = Hx.unhex (l.take (k + 1))) := Lib.hid ⟨by omega, by omega, by omega⟩
        have iov : a * 16 + ((c.toNat : Int) - 97 + 10) < 4294967296 := by omega
        have icut : a < 1152921504606846976 := by omega
        clear hdec hst hlt hle hv ha hacc
        go_wp2_with (go_at_call 59; refine (lower_any _ _ hd0 hd1).mono ?_; rintro e w' ⟨rfl, rfl⟩)
        go_round
        case rel => exact ⟨k + 1, acc * 16 + (c.toNat - 87), a * 16 + ((c.toNat : Int) - 97 + 10), by omega, rfl, (by first | rfl | (congr 1; omega)), (by first | rfl | (congr 1; omega)), HN⟩
        case measure => simp [intOf]; omega
    · obtain rfl : k = 8 := by omega
      have hfin : a = ((Hx.unhex l : Nat) : Int) := by
        rw [ha, hdec, List.take_of_length_le (by rw [HLEN.out]; omega)]
      have HF := Lib.hid hfin
      clear ha hacc hdec hfin
      go_wp2
      go_ret2
      exact ⟨by rw [← HF.out]; rfl, HL.out⟩

set_option maxHeartbeats 400000 in
theorem parseU_any (s : ByteArray) (w : World) (hs : s.size = 8) (hx : s.data.toList.all Hx.isHex = true) :
    Calls Tryd.prog 34 #[.string s, .int .i64 16, .int .i64 32] w fun e w' => e = .returned (.tuple #[.int .u64 (Hx.unhex s.data.toList : Nat), .nilIface]) ∧ Below w.heap.size w w' := by
  have H := Lib.hid (parseI_any s w hs hx)
  generalize Hx.unhex s.data.toList = u at H
  clear hs hx
  go_enter Tryd.func34, Tryd.ntmps34
  go_wp2_with (go_at_call 46; refine H.out.mono ?_; rintro e w' ⟨rfl, hb⟩)
  go_ret2
  exact ⟨rfl, hb⟩
end Go.Proofs.YtdgloipckcjhaaaDoor
