/- What CheckItem of ident and of the reference return; memory that lay stays. No condition. -/
import Derived.Test.YtmbnhbocablgeaaDoorEff
namespace Go.Proofs.YtmbnhbocablgeaaDoor
open Go.RowKit

set_option maxHeartbeats 800000 in
theorem checkItem_any (a b c m : Int) (i : Bool) (g : Int) (w : World) :
    Calls Tryd.prog 24 #[.agg #[.int .i64 a, .int .i64 b, .int .i64 c, .int .i64 m, .bool i, .int .i64 g]] w fun e w' => e = .returned (.int .i64 (ckItem a b c m i g)) ∧ Below w.heap.size w w' := by
  by_cases hg : 1 ≤ g ∧ g ≤ 7
  · obtain ⟨hg1, hg2⟩ := hg
    by_cases hm : m = 0
    · subst hm
      cases i
      · have HF := Lib.hid (ckItem_eff (a := a) (b := b) (c := c) hg1 hg2)
        go_enter Tryd.func24, Tryd.ntmps24
        go_wp2_with (go_at_call 18; refine (checkEffect_any _ _ _ _).mono ?_; rintro e w1 ⟨rfl, hb1⟩)
        go_ret
        exact ⟨by rw [HF.out]; rfl, ((Below.refl _ _).alloc (Nat.le_refl _) _).trans (hb1.mono (by simp))⟩
      · have HF := Lib.hid (ckItem_in (a := a) (b := b) (c := c) (g := g))
        go_enter Tryd.func24, Tryd.ntmps24
        go_wp2
        all_goals
          go_ret
          exact ⟨by rw [HF.out]; rfl, (Below.refl _ _).alloc (Nat.le_refl _) _⟩
    · have hmb : ((m : Int) == 0) = false := by simpa using hm
      by_cases hm2 : 1 ≤ m ∧ m ≤ 64
      · obtain ⟨hm3, hm4⟩ := hm2
        by_cases hz : a = 0 ∧ b = 0 ∧ c = 0
        · obtain ⟨rfl, rfl, rfl⟩ := hz
          have HF := Lib.hid (ckItem_yes (a := 0) (b := 0) (c := 0) (m := m) (i := i) (g := g) ⟨⟨hg1, hg2⟩, .inr ⟨hm3, hm4, rfl, rfl, rfl⟩⟩)
          go_enter Tryd.func24, Tryd.ntmps24
          go_wp2
          go_ret
          exact ⟨by rw [HF.out]; rfl, (Below.refl _ _).alloc (Nat.le_refl _) _⟩
        · have HF := Lib.hid (ckItem_both (i := i) (g := g) hm hz)
          go_enter Tryd.func24, Tryd.ntmps24
          go_wp2
          all_goals
            go_ret
            exact ⟨by rw [HF.out]; rfl, (Below.refl _ _).alloc (Nat.le_refl _) _⟩
      · have HF := Lib.hid (ckItem_move (a := a) (b := b) (c := c) (i := i) (g := g) hm hm2)
        go_enter Tryd.func24, Tryd.ntmps24
        go_wp2
        all_goals
          go_ret
          exact ⟨by rw [HF.out]; rfl, (Below.refl _ _).alloc (Nat.le_refl _) _⟩
  · have HF := Lib.hid (ckItem_group (a := a) (b := b) (c := c) (m := m) (i := i) hg)
    go_enter Tryd.func24, Tryd.ntmps24
    go_wp2
    all_goals
      go_ret
      exact ⟨by rw [HF.out]; rfl, (Below.refl _ _).alloc (Nat.le_refl _) _⟩
set_option maxHeartbeats 800000 in
theorem refCheckItem_any (a b c m : Int) (i : Bool) (g : Int) (w : World) :
    Calls Tryd.prog 25 #[.agg #[.int .i64 a, .int .i64 b, .int .i64 c, .int .i64 m, .bool i, .int .i64 g]] w fun e w' => e = .returned (.int .i64 (ckItem a b c m i g)) ∧ Below w.heap.size w w' := by
  by_cases hg : 1 ≤ g ∧ g ≤ 7
  · obtain ⟨hg1, hg2⟩ := hg
    by_cases hm : m = 0
    · subst hm
      cases i
      · have HF := Lib.hid (ckItem_eff (a := a) (b := b) (c := c) hg1 hg2)
        go_enter Tryd.func25, Tryd.ntmps25
        go_wp2_with (go_at_call 19; refine (refCheckEffect_any _ _ _ _).mono ?_; rintro e w1 ⟨rfl, hb1⟩)
        go_ret
        exact ⟨by rw [HF.out]; rfl, ((Below.refl _ _).alloc (Nat.le_refl _) _).trans (hb1.mono (by simp))⟩
      · have HF := Lib.hid (ckItem_in (a := a) (b := b) (c := c) (g := g))
        go_enter Tryd.func25, Tryd.ntmps25
        go_wp2
        all_goals
          go_ret
          exact ⟨by rw [HF.out]; rfl, (Below.refl _ _).alloc (Nat.le_refl _) _⟩
    · have hmb : ((m : Int) == 0) = false := by simpa using hm
      by_cases hm2 : 1 ≤ m ∧ m ≤ 64
      · obtain ⟨hm3, hm4⟩ := hm2
        by_cases hz : a = 0 ∧ b = 0 ∧ c = 0
        · obtain ⟨rfl, rfl, rfl⟩ := hz
          have HF := Lib.hid (ckItem_yes (a := 0) (b := 0) (c := 0) (m := m) (i := i) (g := g) ⟨⟨hg1, hg2⟩, .inr ⟨hm3, hm4, rfl, rfl, rfl⟩⟩)
          go_enter Tryd.func25, Tryd.ntmps25
          go_wp2
          go_ret
          exact ⟨by rw [HF.out]; rfl, (Below.refl _ _).alloc (Nat.le_refl _) _⟩
        · have HF := Lib.hid (ckItem_both (i := i) (g := g) hm hz)
          go_enter Tryd.func25, Tryd.ntmps25
          go_wp2
          all_goals
            go_ret
            exact ⟨by rw [HF.out]; rfl, (Below.refl _ _).alloc (Nat.le_refl _) _⟩
      · have HF := Lib.hid (ckItem_move (a := a) (b := b) (c := c) (i := i) (g := g) hm hm2)
        go_enter Tryd.func25, Tryd.ntmps25
        go_wp2
        all_goals
          go_ret
          exact ⟨by rw [HF.out]; rfl, (Below.refl _ _).alloc (Nat.le_refl _) _⟩
  · have HF := Lib.hid (ckItem_group (a := a) (b := b) (c := c) (m := m) (i := i) hg)
    go_enter Tryd.func25, Tryd.ntmps25
    go_wp2
    all_goals
      go_ret
      exact ⟨by rw [HF.out]; rfl, (Below.refl _ _).alloc (Nat.le_refl _) _⟩
end Go.Proofs.YtmbnhbocablgeaaDoor
