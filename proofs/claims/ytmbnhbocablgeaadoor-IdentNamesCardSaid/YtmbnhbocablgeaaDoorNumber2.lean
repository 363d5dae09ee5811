/- What the reader's number does: it takes a number away, or says that there is none. Conditions: as the reader's words. -/
import Derived.Test.YtmbnhbocablgeaaDoorNumber
namespace Go.Proofs.YtmbnhbocablgeaaDoor
open Go.RowKit

/-- The first byte of a cut's beginning. -/
theorem idx0 (s : ByteArray) (K : Nat) (h0 : 0 < s.size) (hK : 0 < K) : ∀ W : World, (Instr.index 9 (.string (s.extract 0 K)) (.int .i64 0)).run Tryd.prog W = .ok (.int .u8 ((s[0]'h0).toNat : Int)) W := fun W => by
  have hl : 0 < (s.extract 0 K).size := by rw [Lib.size_eq, ext_take, List.length_take, ← Lib.size_eq]; omega
  have he : (s.extract 0 K)[0]'hl = s[0]'h0 := Option.some.inj (by rw [getElem_list, getElem_list, ← List.getElem?_eq_getElem, ← List.getElem?_eq_getElem, ext_take, List.getElem?_take, if_pos hK])
  rw [run_index_string _ _ _ _ _ Tryd.underlying9, dif_pos ⟨by omega, by omega⟩]
  show Result.ok (Value.int .u8 (((s.extract 0 K)[0]'hl).toNat : Int)) W = _
  rw [he]

set_option maxRecDepth 100000 in
set_option maxHeartbeats 1000000 in
theorem number_zero (g : Nat) (s : ByteArray) (k : Bool) (K : Nat) (w : World) (hs : s.size ≤ 1000000) (hA : Ahead s K) (hK1 : 1 < K) (hK4 : K ≤ 4) (h0 : 0 < s.size) (hz0 : ((s[0]'h0).toNat : Int) = 48) (h : Rd w g s.data.toList k) :
    Calls Tryd.prog 45 #[.pointer (some ⟨g, 0, none⟩)] w fun e w' => e = .returned (.int .i64 0) ∧ Rd w' g (s.data.toList.drop K) false ∧ Only g w w' := by
  have c0 : w.cell? ⟨g, 0, none⟩ = some (.string s) := h.c0
  have c1 := h.c1
  have f0 := h.fr 0
  have f1 := h.fr 1
  have HR := Lib.hid h
  have hix := idx0 s K h0 (by omega)
  rw [hz0] at hix
  clear hz0
  have hle := hA.le
  have HA := Lib.hid hA
  clear h hA
  go_enter Tryd.func45, Tryd.ntmps45
  go_wp2
  go_loop [3] (fun n => ∃ j : Nat, j ≤ K ∧ n = .int .i64 j) (fun n => K - (intOf n).toNat)
  case atStart => exact ⟨0, Nat.zero_le _, rfl⟩
  case round =>
    obtain ⟨j, hj, rfl⟩ := hrel
    by_cases hlt : j < K
    · have hjs : j < s.size := by omega
      have hd := HA.out.dig j hjs hlt
      obtain ⟨hd1, hd2⟩ := hd
      go_wp2
      go_round
      case rel => exact ⟨j + 1, by omega, by go_num⟩
      case measure => simp [intOf]; omega
    · obtain rfl : j = K := by omega
      have hb : ((j : Int) == 0) = false := by simp; omega
      have hn : ¬ (4 < (j : Int)) := by omega
      by_cases hz : j < s.size
      · have hd := HA.out.stop hz
        go_wp2
        all_goals
          go_ret
          exact ⟨rfl, (HR.out.left _).set1 _, (Only.set _).trans (Only.set _)⟩
      · go_wp2
        all_goals
          go_ret
          exact ⟨rfl, (HR.out.left _).set1 _, (Only.set _).trans (Only.set _)⟩
end Go.Proofs.YtmbnhbocablgeaaDoor
