/- What the reference's Parse of checksums returns. Condition: the text is no longer than an int can say. -/
import Derived.Test.YtdgloipckcjhaaaDoorParse
namespace Go.Proofs.YtdgloipckcjhaaaDoor
open Go.RowKit

theorem hex_not {c : UInt8} (h : Hx.isHex c = false) : c.toNat < 48 ∨ (57 < c.toNat ∧ c.toNat < 97) ∨ 102 < c.toNat := by
  unfold Hx.isHex at h
  simp only [Bool.or_eq_false_iff, Bool.and_eq_false_iff, decide_eq_false_iff_not, UInt8.le_iff_toNat_le] at h
  have h' : (¬ 48 ≤ c.toNat ∨ ¬ c.toNat ≤ 57) ∧ (¬ 97 ≤ c.toNat ∨ ¬ c.toNat ≤ 102) := h
  omega
theorem all_take {l : List UInt8} {k : Nat} (hk : k < l.length) (h : (l.take k).all Hx.isHex = true) (hc : Hx.isHex (l.getD k 0) = true) : (l.take (k + 1)).all Hx.isHex = true := by
  rw [List.take_succ_eq_append_getElem hk, List.all_append, h]
  rw [List.getD_eq_getElem?_getD, List.getElem?_eq_getElem hk] at hc
  simpa using hc
theorem all_not {l : List UInt8} {k : Nat} (hk : k < l.length) (hc : Hx.isHex (l.getD k 0) = false) : l.all Hx.isHex = false := by
  rw [List.getD_eq_getElem?_getD, List.getElem?_eq_getElem hk] at hc
  rw [List.all_eq_false]
  exact ⟨_, List.getElem_mem hk, by simpa using hc⟩

set_option maxRecDepth 100000 in
set_option maxHeartbeats 1000000 in
theorem refParse_any (s : ByteArray) (w : World) :
    Calls Tryd.prog 17 #[.string s] w fun e w' => e = .returned (parseV s.data.toList) ∧ w = w' := by
  have hl : s.data.toList.length = s.size := by rw [← Lib.size_eq]
  by_cases h8 : s.size = 8
  · have b8 : ((s.size : Int) != 8) = false := by rw [h8]; rfl
    have idx : ∀ (k : Nat) (hk : k < 8), (Instr.index 9 (.string s) (.int .i64 (k : Int))).run Tryd.prog w = .ok (.int .u8 ((s.data.toList.getD k 0).toNat : Int)) w := fun k hk => by
      rw [run_index_string _ _ _ _ _ Tryd.underlying9, dif_pos ⟨by omega, by omega⟩]
      congr 3
      rw [List.getD_eq_getElem?_getD, List.getElem?_eq_getElem (by omega)]
      rfl
    have IDX := Lib.hid idx
    have HLEN : Hid (s.data.toList.length = 8) := Lib.hid (by omega)
    generalize s.data.toList = l at *
    clear idx hl h8
    go_enter Tryd.func17, Tryd.ntmps17
    go_wp2
    go_loop [4, 5] (fun vn vi => ∃ (k acc : Nat) (a : Int), k ≤ 8 ∧ vn = .int .u32 a ∧ vi = .int .i64 k ∧ Hid (a = (acc : Int) ∧ acc = Hx.unhex (l.take k)) ∧ Hid ((l.take k).all Hx.isHex = true)) (fun _ vi => 8 - (intOf vi).toNat)
    case atStart => exact ⟨0, 0, 0, by omega, rfl, rfl, Lib.hid ⟨rfl, rfl⟩, Lib.hid rfl⟩
    case round =>
      obtain ⟨k, acc, a, hk, rfl, rfl, hh, HA⟩ := hrel
      obtain ⟨ha, hdec⟩ := hh.out
      clear hh
      have hlt0 := (Hx.hexK_unhex _ HA.out).2
      rw [← hdec] at hlt0
      have hle0 : 16 ^ (l.take k).length ≤ 16 ^ 8 := Nat.pow_le_pow_right (by decide) (by rw [List.length_take]; omega)
      have a0 : 0 ≤ a := by omega
      have a1 : a < 4294967296 := by omega
      clear hlt0 hle0
      by_cases hkn : k < 8
      · have hix := IDX.out k hkn
        have hkl : k < l.length := by rw [HLEN.out]; exact hkn
        have hst := unhex_step (l := l) (k := k) hkl
        cases hc : Hx.isHex (l.getD k 0) with
        | true =>
          have HA2 := all_take hkl HA.out hc
          have hlt := (Hx.hexK_unhex _ HA2).2
          have hle : 16 ^ (l.take (k + 1)).length ≤ 16 ^ 8 := Nat.pow_le_pow_right (by decide) (by rw [List.length_take]; omega)
          have hfm := hex_form hc
          have HA3 := Lib.hid HA2
          clear HA2 hc hkl
          generalize l.getD k 0 = c at hix hst hfm
          have hc256 : c.toNat < 256 := c.toNat_lt
          rw [← hdec] at hst
          rcases hfm with ⟨hd0, hd1, hv⟩ | ⟨hd0, hd1, hv⟩
          · have HN : Hid (a * 16 + ((c.toNat : Int) - 48) = ((acc * 16 + (c.toNat - 48) : Nat) : Int) ∧ acc * 16 + (c.toNat - 48) = Hx.unhex (l.take (k + 1))) := Lib.hid ⟨by omega, by omega⟩
            have iov : a * 16 + ((c.toNat : Int) - 48) < 4294967296 := by omega
            clear hdec hst hlt hle hv ha
            go_wp2
            go_round
            case rel => exact ⟨k + 1, acc * 16 + (c.toNat - 48), a * 16 + ((c.toNat : Int) - 48), by omega, (by first | rfl | (congr 1; omega)), (by first | rfl | (congr 1; omega)), HN, HA3⟩
            case measure => simp [intOf]; omega
          · have HN : Hid (a * 16 + ((c.toNat : Int) - 97) + 10 = ((acc * 16 + (c.toNat - 87) : Nat) : Int) ∧ acc * 16 + (c.toNat - 87) = Hx.unhex (l.take (k + 1))) := Lib.hid ⟨by omega, by omega⟩
            have iov : a * 16 + ((c.toNat : Int) - 97) + 10 < 4294967296 := by omega
            clear hdec hst hlt hle hv ha
            go_wp2
            go_round
            case rel => exact ⟨k + 1, acc * 16 + (c.toNat - 87), a * 16 + ((c.toNat : Int) - 97) + 10, by omega, (by first | rfl | (congr 1; omega)), (by first | rfl | (congr 1; omega)), HN, HA3⟩
            case measure => simp [intOf]; omega
        | false =>
          have hfin := sum_no2 (all_not hkl hc)
          have HF := Lib.hid hfin
          have hn := hex_not hc
          clear hfin hc hkl hst hdec ha
          generalize l.getD k 0 = c at hix hn
          rcases hn with hn | ⟨hn, hn'⟩ | hn
          all_goals
            go_wp2
            go_ret2
            exact ⟨by rw [HF.out]; rfl, rfl⟩
      · obtain rfl : k = 8 := by omega
        have hall : l.take 8 = l := List.take_of_length_le (by rw [HLEN.out]; omega)
        have hfin : parseV l = .tuple #[.int .u32 a, .int .i64 0] := by
          have h1 := HA.out
          rw [hall] at h1
          rw [sum_yes HLEN.out h1, ha, hdec, hall]
        have HF := Lib.hid hfin
        clear ha hdec hfin hall
        go_wp2
        go_ret2
        exact ⟨by rw [HF.out]; rfl, rfl⟩
  · rw [sum_no1 (by omega)]
    have b8 : ((s.size : Int) != 8) = true := by simp only [bne_iff_ne]; omega
    clear h8 hl
    go_enter Tryd.func17, Tryd.ntmps17
    go_wp2
    go_ret2
    exact ⟨rfl, rfl⟩
end Go.Proofs.YtdgloipckcjhaaaDoor
