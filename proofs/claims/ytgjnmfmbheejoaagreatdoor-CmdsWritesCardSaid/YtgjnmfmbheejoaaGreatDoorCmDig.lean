/- The reference's decimal digits and signs at every number from 0 on. Condition: what a machine's integer can say. -/
import Derived.Test.YtgjnmfmbheejoaaGreatDoorIdA
import Derived.Test.YtgjnmfmbheejoaaGreatDoorDfG
namespace Go.Proofs.YtgjnmfmbheejoaaGreatDoor
open Go.RowKit Go.Shelf

set_option maxRecDepth 100000 in
set_option maxHeartbeats 1600000 in
theorem digitsB_any : ∀ (k : Nat) (n : Int) (w : World), 0 ≤ n → n ≤ k → n ≤ 9223372036854775807 →
    Calls Tryz.prog 81 #[.int .i64 n] w fun e w' => e = .returned (.string ⟨(dgs n).toArray⟩) ∧ Below w.heap.size w w'
  | 0, n, w, h0, h1, _ => Id.digits_one n w h0 (by omega)
  | k + 1, n, w, h0, h1, h3 => by
    by_cases h2 : n < 10
    · exact Id.digits_one n w h0 h2
    · have ih1 := fun w => digitsB_any k (n / 10) w (by omega) (by omega) (by omega)
      have ih2 := fun w => Id.digits_one (n % 10) w (by omega) (by omega)
      have l1 := dgs_le (a := n / 10) (by omega)
      have l2 := dgs_le (a := n % 10) (by omega)
      have HF := Lib.hid (Id.dgs_two (n := n) (by omega))
      obtain ⟨t1, e1, n1, s1⟩ := Id.add_str (dgs (n / 10)) ⟨(dgs (n % 10)).toArray⟩ (by rw [Lib.size_mk]; omega)
      clear n1 l1 l2 h1
      have H1 := Lib.hid ih1
      have H2 := Lib.hid ih2
      clear ih1 ih2
      go_enter Tryz.func81, Tryz.ntmps81
      go_wp2_with fail
      refine (H1.out _).mono ?_
      rintro e w1 ⟨rfl, hb1⟩
      go_wp2_with fail
      refine (H2.out _).mono ?_
      rintro e w2 ⟨rfl, hb2⟩
      go_wp2_with fail
      go_ret
      exact ⟨by rw [HF.out, e1.out]; rfl, hb1.trans (hb2.mono hb1.size)⟩
theorem digitsC_any (n : Int) (w : World) (h0 : 0 ≤ n) (h1 : n ≤ 9223372036854775807) :
    Calls Tryz.prog 81 #[.int .i64 n] w fun e w' => e = .returned (.string ⟨(dgs n).toArray⟩) ∧ Below w.heap.size w w' :=
  digitsB_any n.toNat n w h0 (by omega) h1
set_option maxRecDepth 100000 in
set_option maxHeartbeats 1600000 in
theorem rsigned_any (v : Int) (w : World) (h0 : v ≠ 0) (h1 : -1152921504606846976 ≤ v) (h2 : v ≤ 1152921504606846976) :
    Calls Tryz.prog 80 #[.int .i64 v] w fun e w' => e = .returned (.string ⟨(sgn v).toArray⟩) ∧ Below w.heap.size w w' := by
  by_cases hv : v < 0
  · have hwn : IntKind.i64.wrap (-v) = -v := IntWalk.i64_in _ (by omega)
    have D := Lib.hid (fun W => digitsC_any (-v) W (by omega) (by omega))
    have l1 := dgs_le (a := -v) (by omega)
    have HS : Hid (sgn v = 45 :: dgs (-v)) := Lib.hid (by unfold sgn; rw [if_neg (by omega)])
    obtain ⟨t1, e1, n1, s1⟩ := add_ba ⟨#[45]⟩ ⟨(dgs (-v)).toArray⟩ (by rw [Lib.size_mk]; show 1 + (dgs (-v)).length ≤ _; omega)
    have HT : Hid (t1 = ⟨(sgn v).toArray⟩) := Lib.hid (by rw [HS.out]; obtain ⟨⟨l⟩⟩ := t1; exact congrArg (fun l => (⟨⟨l⟩⟩ : ByteArray)) e1.out)
    clear l1 h0 h1 h2 n1
    go_enter Tryz.func80, Tryz.ntmps80
    go_wp2_with (go_at_call 81; refine (D.out _).mono ?_; rintro e w1 ⟨rfl, hb1⟩)
    go_ret
    exact ⟨by rw [← HT.out]; rfl, hb1⟩
  · have D := Lib.hid (fun W => digitsC_any v W (by omega) (by omega))
    have l1 := dgs_le (a := v) (by omega)
    have HS : Hid (sgn v = 43 :: dgs v) := Lib.hid (by unfold sgn; rw [if_pos (by omega)])
    obtain ⟨t1, e1, n1, s1⟩ := add_ba ⟨#[43]⟩ ⟨(dgs v).toArray⟩ (by rw [Lib.size_mk]; show 1 + (dgs (v)).length ≤ _; omega)
    have HT : Hid (t1 = ⟨(sgn v).toArray⟩) := Lib.hid (by rw [HS.out]; obtain ⟨⟨l⟩⟩ := t1; exact congrArg (fun l => (⟨⟨l⟩⟩ : ByteArray)) e1.out)
    clear l1 h0 h1 h2 n1
    go_enter Tryz.func80, Tryz.ntmps80
    go_wp2_with (go_at_call 81; refine (D.out _).mono ?_; rintro e w1 ⟨rfl, hb1⟩)
    go_ret
    exact ⟨by rw [← HT.out]; rfl, hb1⟩
end Go.Proofs.YtgjnmfmbheejoaaGreatDoor
