/- What CheckEffect of ident and of the reference return; memory that lay stays. No condition. -/
import Derived.Test.YtmbnhbocablgeaaDoorProg
import Derived.Test.YtmbnhbocablgeaaDoorPlIdent
import Derived.WalkKit
import Derived.WalkSpells
import Derived.WalkLawsBesides
import Derived.Lib.Hide
namespace Go.Proofs.YtmbnhbocablgeaaDoor
open Go.RowKit

set_option maxHeartbeats 400000 in
theorem checkEffect_any (a b c : Int) (w : World) :
    Calls Tryd.prog 18 #[.agg #[.int .i64 a, .int .i64 b, .int .i64 c]] w fun e w' => e = .returned (.int .i64 (ckEff a b c)) ∧ Below w.heap.size w w' := by
  by_cases hv : effOk a b c
  · have HF := Lib.hid (ckEff_yes hv)
    obtain ⟨h1, h2, h3, h4, h5, h6⟩ := hv
    go_enter Tryd.func18, Tryd.ntmps18
    go_wp2
    go_ret
    exact ⟨by rw [HF.out]; rfl, (Below.refl _ _).alloc (Nat.le_refl _) _⟩
  · have HF := Lib.hid (ckEff_no hv)
    unfold effOk at hv
    go_enter Tryd.func18, Tryd.ntmps18
    go_wp2
    all_goals
      go_ret
      exact ⟨by rw [HF.out]; rfl, (Below.refl _ _).alloc (Nat.le_refl _) _⟩

set_option maxHeartbeats 400000 in
theorem refCheckEffect_any (a b c : Int) (w : World) :
    Calls Tryd.prog 19 #[.agg #[.int .i64 a, .int .i64 b, .int .i64 c]] w fun e w' => e = .returned (.int .i64 (ckEff a b c)) ∧ Below w.heap.size w w' := by
  by_cases hv : effOk a b c
  · have HF := Lib.hid (ckEff_yes hv)
    obtain ⟨h1, h2, h3, h4, h5, h6⟩ := hv
    go_enter Tryd.func19, Tryd.ntmps19
    go_wp2
    go_ret
    exact ⟨by rw [HF.out]; rfl, (Below.refl _ _).alloc (Nat.le_refl _) _⟩
  · have HF := Lib.hid (ckEff_no hv)
    unfold effOk at hv
    go_enter Tryd.func19, Tryd.ntmps19
    go_wp2
    all_goals
      go_ret
      exact ⟨by rw [HF.out]; rfl, (Below.refl _ _).alloc (Nat.le_refl _) _⟩
end Go.Proofs.YtmbnhbocablgeaaDoor
