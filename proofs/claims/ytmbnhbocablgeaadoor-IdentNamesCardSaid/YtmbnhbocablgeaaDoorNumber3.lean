/- What the reader's number does: it takes a number away, or says that there is none. Conditions: as the reader's words. -/
import Derived.Test.YtmbnhbocablgeaaDoorNumber2
namespace Go.Proofs.YtmbnhbocablgeaaDoor
open Go.RowKit

theorem atoi_any (s : ByteArray) (v : Int) (hl : s.size ≤ 18) (h : Lib.atoi s.data.toList = some v) (w : World) :
    Calls Tryd.prog 65 #[.string s] w fun e w' => e = .returned (.tuple #[.int .i64 v, .nilIface]) ∧ Below w.heap.size w w' := by
  refine (Tryd.strconv_Atoi s v hl h w).mono ?_
  rintro e w' ⟨rfl, t, rfl⟩
  exact ⟨rfl, Go.Joins.below_bytesWorld _ w 5 t (Nat.le_refl _)⟩

set_option maxRecDepth 100000 in
set_option maxHeartbeats 1000000 in
theorem number_ok (g : Nat) (s : ByteArray) (k : Bool) (K : Nat) (w : World) (hs : s.size ≤ 1000000) (hA : Ahead s K) (v : Int) (hK1 : 1 ≤ K) (hK4 : K ≤ 4) (h0 : 0 < s.size) (hz0 : K = 1 ∨ ((s[0]'h0).toNat : Int) ≠ 48) (hat : Lib.atoi (s.extract 0 K).data.toList = some v) (h : Rd w g s.data.toList k) :
    Calls Tryd.prog 45 #[.pointer (some ⟨g, 0, none⟩)] w fun e w' => e = .returned (.int .i64 v) ∧ Rd w' g (s.data.toList.drop K) k ∧ Only g w w' := by
  have c0 : w.cell? ⟨g, 0, none⟩ = some (.string s) := h.c0
  have c1 := h.c1
  have f0 := h.fr 0
  have f1 := h.fr 1
  have HR := Lib.hid h
  have hix := idx0 s K h0 (by omega)
  have hne : K = 1 ∨ ((((s[0]'h0).toNat : Int) == 48) = false) := hz0.imp id (fun h => by simpa using h)
  clear hz0
  generalize ((s[0]'h0).toNat : Int) = c at hix hne
  have hse : (s.extract 0 K).size ≤ 18 := by rw [Lib.size_eq, ext_take, List.length_take]; omega
  have hCall := fun w => atoi_any (s.extract 0 K) v hse hat w
  have HC := Lib.hid hCall
  clear hCall hat hse
  have hle := hA.le
  have HA := Lib.hid hA
  clear h hA
  go_enter Tryd.func45, Tryd.ntmps45
  go_wp2
  go_loop [3] (fun n => ∃ j : Nat, j ≤ K ∧ n = .int .i64 j) (fun n => K - (intOf n).toNat)
  case atStart => exact ⟨0, Nat.zero_le _, rfl⟩
  case round =>
    obtain ⟨j, hj, rfl⟩ := hrel
    by_cases hlt : j < K
    · have hjs : j < s.size := by omega
      have hd := HA.out.dig j hjs hlt
      obtain ⟨hd1, hd2⟩ := hd
      go_wp2
      go_round
      case rel => exact ⟨j + 1, by omega, by go_num⟩
      case measure => simp [intOf]; omega
    · obtain rfl : j = K := by omega
      have hb : ((j : Int) == 0) = false := by simp; omega
      have hn : ¬ (4 < (j : Int)) := by omega
      by_cases hz : j < s.size
      · have hd := HA.out.stop hz
        rcases hne with rfl | hne
        · go_wp2_with fail
          all_goals
            refine (HC.out _).mono ?_
            rintro e w1 ⟨rfl, hb1⟩
            go_wp2
            go_ret
            exact ⟨rfl, (HR.out.left _).below hb1 (HR.out.left _).lt, (Only.set _).trans (Only.of_below hb1)⟩
        · go_wp2_with fail
          all_goals
            refine (HC.out _).mono ?_
            rintro e w1 ⟨rfl, hb1⟩
            go_wp2
            go_ret
            exact ⟨rfl, (HR.out.left _).below hb1 (HR.out.left _).lt, (Only.set _).trans (Only.of_below hb1)⟩
      · rcases hne with rfl | hne
        · go_wp2_with fail
          all_goals
            refine (HC.out _).mono ?_
            rintro e w1 ⟨rfl, hb1⟩
            go_wp2
            go_ret
            exact ⟨rfl, (HR.out.left _).below hb1 (HR.out.left _).lt, (Only.set _).trans (Only.of_below hb1)⟩
        · go_wp2_with fail
          all_goals
            refine (HC.out _).mono ?_
            rintro e w1 ⟨rfl, hb1⟩
            go_wp2
            go_ret
            exact ⟨rfl, (HR.out.left _).below hb1 (HR.out.left _).lt, (Only.set _).trans (Only.of_below hb1)⟩
end Go.Proofs.YtmbnhbocablgeaaDoor
