/- Merged by program: Eff, Item, Num, Text, Digits, RefText, ItemText, RefItem, TextAll. -/
import Derived.Test.YtgjnmfmbheejoaaGreatDoorProg
import Derived.Test.YtgjnmfmbheejoaaGreatDoorPlC
import Derived.WalkKit
import Derived.WalkSpells
import Derived.WalkLawsBesides
import Derived.Lib.Hide
import Derived.Handy
import Derived.Test.YtgjnmfmbheejoaaGreatDoorShelf
import Derived.Deep.RegionHeld3
import Derived.WalkSmall
import Derived.Laws.IdiomStrings
namespace Go.Proofs.YtgjnmfmbheejoaaGreatDoor.Id
section
open Go.RowKit

set_option maxHeartbeats 400000 in
theorem checkEffect_any (a b c : Int) (w : World) :
    Calls Tryz.prog 96 #[.agg #[.int .i64 a, .int .i64 b, .int .i64 c]] w fun e w' => e = .returned (.int .i64 (ckEff a b c)) ∧ Below w.heap.size w w' := by
  by_cases hv : effOk a b c
  · have HF := Lib.hid (ckEff_yes hv)
    obtain ⟨h1, h2, h3, h4, h5, h6⟩ := hv
    go_enter Tryz.func96, Tryz.ntmps96
    go_wp2
    go_ret
    exact ⟨by rw [HF.out]; rfl, (Below.refl _ _).alloc (Nat.le_refl _) _⟩
  · have HF := Lib.hid (ckEff_no hv)
    unfold effOk at hv
    go_enter Tryz.func96, Tryz.ntmps96
    go_wp2
    all_goals
      go_ret
      exact ⟨by rw [HF.out]; rfl, (Below.refl _ _).alloc (Nat.le_refl _) _⟩

set_option maxHeartbeats 400000 in
theorem refCheckEffect_any (a b c : Int) (w : World) :
    Calls Tryz.prog 135 #[.agg #[.int .i64 a, .int .i64 b, .int .i64 c]] w fun e w' => e = .returned (.int .i64 (ckEff a b c)) ∧ Below w.heap.size w w' := by
  by_cases hv : effOk a b c
  · have HF := Lib.hid (ckEff_yes hv)
    obtain ⟨h1, h2, h3, h4, h5, h6⟩ := hv
    go_enter Tryz.func135, Tryz.ntmps135
    go_wp2
    go_ret
    exact ⟨by rw [HF.out]; rfl, (Below.refl _ _).alloc (Nat.le_refl _) _⟩
  · have HF := Lib.hid (ckEff_no hv)
    unfold effOk at hv
    go_enter Tryz.func135, Tryz.ntmps135
    go_wp2
    all_goals
      go_ret
      exact ⟨by rw [HF.out]; rfl, (Below.refl _ _).alloc (Nat.le_refl _) _⟩
end
section
open Go.RowKit

set_option maxHeartbeats 800000 in
theorem checkItem_any (a b c m : Int) (i : Bool) (g : Int) (w : World) :
    Calls Tryz.prog 98 #[.agg #[.int .i64 a, .int .i64 b, .int .i64 c, .int .i64 m, .bool i, .int .i64 g]] w fun e w' => e = .returned (.int .i64 (ckItem a b c m i g)) ∧ Below w.heap.size w w' := by
  by_cases hg : 1 ≤ g ∧ g ≤ 7
  · obtain ⟨hg1, hg2⟩ := hg
    by_cases hm : m = 0
    · subst hm
      cases i
      · have HF := Lib.hid (ckItem_eff (a := a) (b := b) (c := c) hg1 hg2)
        go_enter Tryz.func98, Tryz.ntmps98
        go_wp2_with (go_at_call 96; refine (checkEffect_any _ _ _ _).mono ?_; rintro e w1 ⟨rfl, hb1⟩)
        go_ret
        exact ⟨by rw [HF.out]; rfl, ((Below.refl _ _).alloc (Nat.le_refl _) _).trans (hb1.mono (by simp))⟩
      · have HF := Lib.hid (ckItem_in (a := a) (b := b) (c := c) (g := g))
        go_enter Tryz.func98, Tryz.ntmps98
        go_wp2
        all_goals
          go_ret
          exact ⟨by rw [HF.out]; rfl, (Below.refl _ _).alloc (Nat.le_refl _) _⟩
    · have hmb : ((m : Int) == 0) = false := by simpa using hm
      by_cases hm2 : 1 ≤ m ∧ m ≤ 64
      · obtain ⟨hm3, hm4⟩ := hm2
        by_cases hz : a = 0 ∧ b = 0 ∧ c = 0
        · obtain ⟨rfl, rfl, rfl⟩ := hz
          have HF := Lib.hid (ckItem_yes (a := 0) (b := 0) (c := 0) (m := m) (i := i) (g := g) ⟨⟨hg1, hg2⟩, .inr ⟨hm3, hm4, rfl, rfl, rfl⟩⟩)
          go_enter Tryz.func98, Tryz.ntmps98
          go_wp2
          go_ret
          exact ⟨by rw [HF.out]; rfl, (Below.refl _ _).alloc (Nat.le_refl _) _⟩
        · have HF := Lib.hid (ckItem_both (i := i) (g := g) hm hz)
          go_enter Tryz.func98, Tryz.ntmps98
          go_wp2
          all_goals
            go_ret
            exact ⟨by rw [HF.out]; rfl, (Below.refl _ _).alloc (Nat.le_refl _) _⟩
      · have HF := Lib.hid (ckItem_move (a := a) (b := b) (c := c) (i := i) (g := g) hm hm2)
        go_enter Tryz.func98, Tryz.ntmps98
        go_wp2
        all_goals
          go_ret
          exact ⟨by rw [HF.out]; rfl, (Below.refl _ _).alloc (Nat.le_refl _) _⟩
  · have HF := Lib.hid (ckItem_group (a := a) (b := b) (c := c) (m := m) (i := i) hg)
    go_enter Tryz.func98, Tryz.ntmps98
    go_wp2
    all_goals
      go_ret
      exact ⟨by rw [HF.out]; rfl, (Below.refl _ _).alloc (Nat.le_refl _) _⟩
set_option maxHeartbeats 800000 in
theorem refCheckItem_any (a b c m : Int) (i : Bool) (g : Int) (w : World) :
    Calls Tryz.prog 133 #[.agg #[.int .i64 a, .int .i64 b, .int .i64 c, .int .i64 m, .bool i, .int .i64 g]] w fun e w' => e = .returned (.int .i64 (ckItem a b c m i g)) ∧ Below w.heap.size w w' := by
  by_cases hg : 1 ≤ g ∧ g ≤ 7
  · obtain ⟨hg1, hg2⟩ := hg
    by_cases hm : m = 0
    · subst hm
      cases i
      · have HF := Lib.hid (ckItem_eff (a := a) (b := b) (c := c) hg1 hg2)
        go_enter Tryz.func133, Tryz.ntmps133
        go_wp2_with (go_at_call 135; refine (refCheckEffect_any _ _ _ _).mono ?_; rintro e w1 ⟨rfl, hb1⟩)
        go_ret
        exact ⟨by rw [HF.out]; rfl, ((Below.refl _ _).alloc (Nat.le_refl _) _).trans (hb1.mono (by simp))⟩
      · have HF := Lib.hid (ckItem_in (a := a) (b := b) (c := c) (g := g))
        go_enter Tryz.func133, Tryz.ntmps133
        go_wp2
        all_goals
          go_ret
          exact ⟨by rw [HF.out]; rfl, (Below.refl _ _).alloc (Nat.le_refl _) _⟩
    · have hmb : ((m : Int) == 0) = false := by simpa using hm
      by_cases hm2 : 1 ≤ m ∧ m ≤ 64
      · obtain ⟨hm3, hm4⟩ := hm2
        by_cases hz : a = 0 ∧ b = 0 ∧ c = 0
        · obtain ⟨rfl, rfl, rfl⟩ := hz
          have HF := Lib.hid (ckItem_yes (a := 0) (b := 0) (c := 0) (m := m) (i := i) (g := g) ⟨⟨hg1, hg2⟩, .inr ⟨hm3, hm4, rfl, rfl, rfl⟩⟩)
          go_enter Tryz.func133, Tryz.ntmps133
          go_wp2
          go_ret
          exact ⟨by rw [HF.out]; rfl, (Below.refl _ _).alloc (Nat.le_refl _) _⟩
        · have HF := Lib.hid (ckItem_both (i := i) (g := g) hm hz)
          go_enter Tryz.func133, Tryz.ntmps133
          go_wp2
          all_goals
            go_ret
            exact ⟨by rw [HF.out]; rfl, (Below.refl _ _).alloc (Nat.le_refl _) _⟩
      · have HF := Lib.hid (ckItem_move (a := a) (b := b) (c := c) (i := i) (g := g) hm hm2)
        go_enter Tryz.func133, Tryz.ntmps133
        go_wp2
        all_goals
          go_ret
          exact ⟨by rw [HF.out]; rfl, (Below.refl _ _).alloc (Nat.le_refl _) _⟩
  · have HF := Lib.hid (ckItem_group (a := a) (b := b) (c := c) (m := m) (i := i) hg)
    go_enter Tryz.func133, Tryz.ntmps133
    go_wp2
    all_goals
      go_ret
      exact ⟨by rw [HF.out]; rfl, (Below.refl _ _).alloc (Nat.le_refl _) _⟩
end
section
open Go.RowKit

def numEff (a b c g : Int) : Int := 1 + (((a - 1) * 8 + b) * 3 + c - 1) * 7 + g - 1
def numMove (m : Int) (i : Bool) (g : Int) : Int := 1679833 + ((m - 1) * 2 + if i then 1 else 0) * 7 + g - 1

theorem ret2i {a b c d : Int} (h : a = c) (h' : b = d) : Ending.returned (.tuple #[.int .i64 a, .int .i64 b]) = .returned (.tuple #[.int .i64 c, .int .i64 d]) := by rw [h, h']

set_option maxHeartbeats 800000 in
theorem number_eff (a b c g : Int) (w : World) (hg1 : 1 ≤ g) (hg2 : g ≤ 7) (hv : effOk a b c) :
    Calls Tryz.prog 194 #[.agg #[.int .i64 a, .int .i64 b, .int .i64 c, .int .i64 0, .bool false, .int .i64 g]] w fun e w' => e = .returned (.tuple #[.int .i64 (numEff a b c g), .int .i64 0]) ∧ Below w.heap.size w w' := by
  have hC := fun w => checkItem_any a b c 0 false g w
  rw [ckItem_eff hg1 hg2, ckEff_yes hv] at hC
  obtain ⟨h1, h2, h3, h4, h5, h6⟩ := hv
  go_enter Tryz.func194, Tryz.ntmps194
  go_wp2_with fail
  refine (hC _).mono ?_
  rintro e w1 ⟨rfl, hb1⟩
  have c0 := hb1.cell (p := ⟨w.heap.size, 0, none⟩) (by simp)
  have c1 := hb1.cell (p := ⟨w.heap.size, 1, none⟩) (by simp)
  have c2 := hb1.cell (p := ⟨w.heap.size, 2, none⟩) (by simp)
  have c3 := hb1.cell (p := ⟨w.heap.size, 3, none⟩) (by simp)
  have c4 := hb1.cell (p := ⟨w.heap.size, 4, none⟩) (by simp)
  have c5 := hb1.cell (p := ⟨w.heap.size, 5, none⟩) (by simp)
  simp [go_sem] at c0 c1 c2 c3 c4 c5
  go_wp2
  go_ret2
  exact ⟨ret2i (by first | (simp [numEff]; done) | (simp [numEff]; omega)) rfl, ((Below.refl _ _).alloc (Nat.le_refl _) _).trans (hb1.mono (by simp))⟩

set_option maxHeartbeats 800000 in
theorem number_move (m : Int) (i : Bool) (g : Int) (w : World) (hg1 : 1 ≤ g) (hg2 : g ≤ 7) (hm1 : 1 ≤ m) (hm2 : m ≤ 64) :
    Calls Tryz.prog 194 #[.agg #[.int .i64 0, .int .i64 0, .int .i64 0, .int .i64 m, .bool i, .int .i64 g]] w fun e w' => e = .returned (.tuple #[.int .i64 (numMove m i g), .int .i64 0]) ∧ Below w.heap.size w w' := by
  have hC := fun w => checkItem_any 0 0 0 m i g w
  rw [ckItem_yes (a := 0) (b := 0) (c := 0) (m := m) (i := i) (g := g) ⟨⟨hg1, hg2⟩, .inr ⟨hm1, hm2, rfl, rfl, rfl⟩⟩] at hC
  have hmb : ((m : Int) == 0) = false := by simp; omega
  cases i
  all_goals
    go_enter Tryz.func194, Tryz.ntmps194
    go_wp2_with fail
    refine (hC _).mono ?_
    rintro e w1 ⟨rfl, hb1⟩
    have c0 := hb1.cell (p := ⟨w.heap.size, 0, none⟩) (by simp)
    have c1 := hb1.cell (p := ⟨w.heap.size, 1, none⟩) (by simp)
    have c2 := hb1.cell (p := ⟨w.heap.size, 2, none⟩) (by simp)
    have c3 := hb1.cell (p := ⟨w.heap.size, 3, none⟩) (by simp)
    have c4 := hb1.cell (p := ⟨w.heap.size, 4, none⟩) (by simp)
    have c5 := hb1.cell (p := ⟨w.heap.size, 5, none⟩) (by simp)
    simp [go_sem] at c0 c1 c2 c3 c4 c5
    go_wp2
    go_ret2
    exact ⟨ret2i (by first | (simp [numMove]; done) | (simp [numMove]; omega)) rfl, ((Below.refl _ _).alloc (Nat.le_refl _) _).trans (hb1.mono (by simp))⟩

set_option maxHeartbeats 800000 in
theorem number_no (a b c m : Int) (i : Bool) (g : Int) (w : World) (hv : ¬ itemOk a b c m i g) :
    Calls Tryz.prog 194 #[.agg #[.int .i64 a, .int .i64 b, .int .i64 c, .int .i64 m, .bool i, .int .i64 g]] w fun e w' => e = .returned (.tuple #[.int .i64 0, .int .i64 2]) ∧ Below w.heap.size w w' := by
  have hC := fun w => checkItem_any a b c m i g w
  rw [ckItem_no hv] at hC
  clear hv
  go_enter Tryz.func194, Tryz.ntmps194
  go_wp2_with fail
  refine (hC _).mono ?_
  rintro e w1 ⟨rfl, hb1⟩
  go_wp2
  go_ret2
  exact ⟨rfl, ((Below.refl _ _).alloc (Nat.le_refl _) _).trans (hb1.mono (by simp))⟩
set_option maxHeartbeats 800000 in
theorem refNumber_eff (a b c g : Int) (w : World) (hg1 : 1 ≤ g) (hg2 : g ≤ 7) (hv : effOk a b c) :
    Calls Tryz.prog 76 #[.agg #[.int .i64 a, .int .i64 b, .int .i64 c, .int .i64 0, .bool false, .int .i64 g]] w fun e w' => e = .returned (.tuple #[.int .i64 (numEff a b c g), .int .i64 0]) ∧ Below w.heap.size w w' := by
  have hC := fun w => refCheckItem_any a b c 0 false g w
  rw [ckItem_eff hg1 hg2, ckEff_yes hv] at hC
  obtain ⟨h1, h2, h3, h4, h5, h6⟩ := hv
  go_enter Tryz.func76, Tryz.ntmps76
  go_wp2_with fail
  refine (hC _).mono ?_
  rintro e w1 ⟨rfl, hb1⟩
  have c0 := hb1.cell (p := ⟨w.heap.size, 0, none⟩) (by simp)
  have c1 := hb1.cell (p := ⟨w.heap.size, 1, none⟩) (by simp)
  have c2 := hb1.cell (p := ⟨w.heap.size, 2, none⟩) (by simp)
  have c3 := hb1.cell (p := ⟨w.heap.size, 3, none⟩) (by simp)
  have c4 := hb1.cell (p := ⟨w.heap.size, 4, none⟩) (by simp)
  have c5 := hb1.cell (p := ⟨w.heap.size, 5, none⟩) (by simp)
  simp [go_sem] at c0 c1 c2 c3 c4 c5
  go_wp2
  go_ret2
  exact ⟨ret2i (by first | (simp [numEff]; done) | (simp [numEff]; omega)) rfl, ((Below.refl _ _).alloc (Nat.le_refl _) _).trans (hb1.mono (by simp))⟩

set_option maxHeartbeats 800000 in
theorem refNumber_move (m : Int) (i : Bool) (g : Int) (w : World) (hg1 : 1 ≤ g) (hg2 : g ≤ 7) (hm1 : 1 ≤ m) (hm2 : m ≤ 64) :
    Calls Tryz.prog 76 #[.agg #[.int .i64 0, .int .i64 0, .int .i64 0, .int .i64 m, .bool i, .int .i64 g]] w fun e w' => e = .returned (.tuple #[.int .i64 (numMove m i g), .int .i64 0]) ∧ Below w.heap.size w w' := by
  have hC := fun w => refCheckItem_any 0 0 0 m i g w
  rw [ckItem_yes (a := 0) (b := 0) (c := 0) (m := m) (i := i) (g := g) ⟨⟨hg1, hg2⟩, .inr ⟨hm1, hm2, rfl, rfl, rfl⟩⟩] at hC
  have hmb : ((m : Int) == 0) = false := by simp; omega
  cases i
  all_goals
    go_enter Tryz.func76, Tryz.ntmps76
    go_wp2_with fail
    refine (hC _).mono ?_
    rintro e w1 ⟨rfl, hb1⟩
    have c0 := hb1.cell (p := ⟨w.heap.size, 0, none⟩) (by simp)
    have c1 := hb1.cell (p := ⟨w.heap.size, 1, none⟩) (by simp)
    have c2 := hb1.cell (p := ⟨w.heap.size, 2, none⟩) (by simp)
    have c3 := hb1.cell (p := ⟨w.heap.size, 3, none⟩) (by simp)
    have c4 := hb1.cell (p := ⟨w.heap.size, 4, none⟩) (by simp)
    have c5 := hb1.cell (p := ⟨w.heap.size, 5, none⟩) (by simp)
    simp [go_sem] at c0 c1 c2 c3 c4 c5
    go_wp2
    go_ret2
    exact ⟨ret2i (by first | (simp [numMove]; done) | (simp [numMove]; omega)) rfl, ((Below.refl _ _).alloc (Nat.le_refl _) _).trans (hb1.mono (by simp))⟩

set_option maxHeartbeats 800000 in
theorem refNumber_no (a b c m : Int) (i : Bool) (g : Int) (w : World) (hv : ¬ itemOk a b c m i g) :
    Calls Tryz.prog 76 #[.agg #[.int .i64 a, .int .i64 b, .int .i64 c, .int .i64 m, .bool i, .int .i64 g]] w fun e w' => e = .returned (.tuple #[.int .i64 0, .int .i64 2]) ∧ Below w.heap.size w w' := by
  have hC := fun w => refCheckItem_any a b c m i g w
  rw [ckItem_no hv] at hC
  clear hv
  go_enter Tryz.func76, Tryz.ntmps76
  go_wp2_with fail
  refine (hC _).mono ?_
  rintro e w1 ⟨rfl, hb1⟩
  go_wp2
  go_ret2
  exact ⟨rfl, ((Below.refl _ _).alloc (Nat.le_refl _) _).trans (hb1.mono (by simp))⟩

set_option maxHeartbeats 800000 in
theorem fromNumber_no (n : Int) (w : World) (h : ¬ (1 ≤ n ∧ n ≤ 1680728)) :
    Calls Tryz.prog 196 #[.int .i64 n] w fun e w' => e = .returned (.tuple #[.agg #[.int .i64 0, .int .i64 0, .int .i64 0, .int .i64 0, .bool false, .int .i64 0], .int .i64 3]) ∧ Below w.heap.size w w' := by
  go_enter Tryz.func196, Tryz.ntmps196
  go_wp2
  all_goals
    refine bodyPost_ret (v := .tuple #[.agg #[.int .i64 0, .int .i64 0, .int .i64 0, .int .i64 0, .bool false, .int .i64 0], .int .i64 3]) (by simp [results, Tryz.results196, go_sem]) rfl ⟨rfl, ?_⟩
    exact (Below.refl _ _).alloc (Nat.le_refl _) _

set_option maxHeartbeats 800000 in
theorem fromNumber_eff (n : Int) (w : World) (h1 : 1 ≤ n) (h2 : n ≤ 1679832) :
    Calls Tryz.prog 196 #[.int .i64 n] w fun e w' => e = .returned (.tuple #[.agg #[.int .i64 ((n - 1) / 7 / 3 / 8 + 1), .int .i64 ((n - 1) / 7 / 3 % 8), .int .i64 ((n - 1) / 7 % 3 + 1), .int .i64 0, .bool false, .int .i64 ((n - 1) % 7 + 1)], .int .i64 0]) ∧ Below w.heap.size w w' := by
  go_enter Tryz.func196, Tryz.ntmps196
  go_wp2
  refine bodyPost_ret (v := .tuple #[.agg #[.int .i64 ((n - 1) / 7 / 3 / 8 + 1), .int .i64 ((n - 1) / 7 / 3 % 8), .int .i64 ((n - 1) / 7 % 3 + 1), .int .i64 0, .bool false, .int .i64 ((n - 1) % 7 + 1)], .int .i64 0]) (by simp [results, Tryz.results196, go_sem]) rfl ⟨rfl, ?_⟩
  go_grown
set_option maxHeartbeats 800000 in
theorem refFromNumber_no (n : Int) (w : World) (h : ¬ (1 ≤ n ∧ n ≤ 1680728)) :
    Calls Tryz.prog 57 #[.int .i64 n] w fun e w' => e = .returned (.tuple #[.agg #[.int .i64 0, .int .i64 0, .int .i64 0, .int .i64 0, .bool false, .int .i64 0], .int .i64 3]) ∧ Below w.heap.size w w' := by
  go_enter Tryz.func57, Tryz.ntmps57
  go_wp2
  all_goals
    refine bodyPost_ret (v := .tuple #[.agg #[.int .i64 0, .int .i64 0, .int .i64 0, .int .i64 0, .bool false, .int .i64 0], .int .i64 3]) (by simp [results, Tryz.results57, go_sem]) rfl ⟨rfl, ?_⟩
    exact (Below.refl _ _).alloc (Nat.le_refl _) _

set_option maxHeartbeats 800000 in
theorem refFromNumber_eff (n : Int) (w : World) (h1 : 1 ≤ n) (h2 : n ≤ 1679832) :
    Calls Tryz.prog 57 #[.int .i64 n] w fun e w' => e = .returned (.tuple #[.agg #[.int .i64 ((n - 1) / 7 / 3 / 8 + 1), .int .i64 ((n - 1) / 7 / 3 % 8), .int .i64 ((n - 1) / 7 % 3 + 1), .int .i64 0, .bool false, .int .i64 ((n - 1) % 7 + 1)], .int .i64 0]) ∧ Below w.heap.size w w' := by
  go_enter Tryz.func57, Tryz.ntmps57
  go_wp2
  refine bodyPost_ret (v := .tuple #[.agg #[.int .i64 ((n - 1) / 7 / 3 / 8 + 1), .int .i64 ((n - 1) / 7 / 3 % 8), .int .i64 ((n - 1) / 7 % 3 + 1), .int .i64 0, .bool false, .int .i64 ((n - 1) % 7 + 1)], .int .i64 0]) (by simp [results, Tryz.results57, go_sem]) rfl ⟨rfl, ?_⟩
  go_grown

theorem itemR {a b c m g a' b' c' m' g' e e' : Int} {i i' : Bool} (h1 : a = a') (h2 : b = b') (h3 : c = c') (h4 : m = m') (h5 : i = i') (h6 : g = g') (h7 : e = e') :
    Ending.returned (.tuple #[.agg #[.int .i64 a, .int .i64 b, .int .i64 c, .int .i64 m, .bool i, .int .i64 g], .int .i64 e]) = .returned (.tuple #[.agg #[.int .i64 a', .int .i64 b', .int .i64 c', .int .i64 m', .bool i', .int .i64 g'], .int .i64 e']) := by
  rw [h1, h2, h3, h4, h5, h6, h7]
theorem odd_eq {a b : Int} (h : a = b) : (a % 2 == 1) = decide (b % 2 = 1) := by rw [h]; rfl

set_option maxHeartbeats 800000 in
theorem fromNumber_move (n : Int) (w : World) (h1 : 1679833 ≤ n) (h2 : n ≤ 1680728) :
    Calls Tryz.prog 196 #[.int .i64 n] w fun e w' => e = .returned (.tuple #[.agg #[.int .i64 0, .int .i64 0, .int .i64 0, .int .i64 ((n - 1679833) / 14 + 1), .bool (decide ((n - 1679833) / 7 % 2 = 1)), .int .i64 ((n - 1) % 7 + 1)], .int .i64 0]) ∧ Below w.heap.size w w' := by
  go_enter Tryz.func196, Tryz.ntmps196
  go_wp2
  refine bodyPost_ret (v := .tuple #[.agg #[.int .i64 0, .int .i64 0, .int .i64 0, .int .i64 (((n - 1) / 7 - 239976) / 2 + 1), .bool (((n - 1) / 7 - 239976) % 2 == 1), .int .i64 ((n - 1) % 7 + 1)], .int .i64 0]) (by simp [results, Tryz.results196, go_sem]) rfl
    ⟨itemR rfl rfl rfl (by omega) (odd_eq (by omega)) rfl rfl, ?_⟩
  go_grown

set_option maxHeartbeats 800000 in
theorem refFromNumber_move (n : Int) (w : World) (h1 : 1679833 ≤ n) (h2 : n ≤ 1680728) :
    Calls Tryz.prog 57 #[.int .i64 n] w fun e w' => e = .returned (.tuple #[.agg #[.int .i64 0, .int .i64 0, .int .i64 0, .int .i64 ((n - 1679833) / 14 + 1), .bool (decide ((n - 1679833) / 7 % 2 = 1)), .int .i64 ((n - 1) % 7 + 1)], .int .i64 0]) ∧ Below w.heap.size w w' := by
  go_enter Tryz.func57, Tryz.ntmps57
  go_wp2
  refine bodyPost_ret (v := .tuple #[.agg #[.int .i64 0, .int .i64 0, .int .i64 0, .int .i64 ((n - 1679833) / 7 / 2 + 1), .bool ((n - 1679833) / 7 % 2 == 1), .int .i64 ((n - 1679833) % 7 + 1)], .int .i64 0]) (by simp [results, Tryz.results57, go_sem]) rfl
    ⟨itemR rfl rfl rfl (by omega) (odd_eq rfl) (by omega) rfl, ?_⟩
  go_grown
end
section
open Go.RowKit Go.Shelf Go.Sort

/-- The table of powers of ten lies as its initialiser lays it. -/
structure Pow (w : World) : Prop where
  tab : Lib.TabIs Tryz.prog w "internal/strconv.uint64pow10" .u64 Lib.pow10Tab
  lt : 6 < w.heap.size
theorem gPow : Tryz.prog.globalNamed "internal/strconv.uint64pow10" = some 6 := by kernel_rfl
theorem Pow.below {w w' : World} (h : Pow w) (hb : Below w.heap.size w w') : Pow w' :=
  ⟨var?_below hb gPow h.2 h.1, Nat.lt_of_lt_of_le h.2 hb.size⟩
theorem Pow.drew {w : World} (h : Pow w) : Pow w.drew := ⟨h.1, h.2⟩
theorem below_grow (w : World) (k : Nat) (os : Array Obj) : Below w.heap.size w (grow (w.drewN k) os) :=
  ⟨rfl, rfl, rfl, by simp [grow], fun i hi => by simp [grow, Array.getElem?_append_left hi]⟩

theorem itoa_any (n : Int) (h0 : 0 ≤ n) (h1 : n ≤ 9223372036854775807) (w : World) (hp : Pow w) :
    Calls Tryz.prog 97 #[.int .i64 n] w fun e w' => e = .returned (.string ⟨(dgs n).toArray⟩) ∧ Below w.heap.size w w' := by
  refine (Tryz.strconv_Itoa n (by omega) h1 w hp.1).mono ?_
  rintro e w' ⟨rfl, k, os, rfl⟩
  refine ⟨?_, below_grow w k os⟩
  have : Lib.itoa n = dgs n := by unfold Lib.itoa dgs; rw [if_neg (by omega)]
  rw [this]

set_option maxHeartbeats 400000 in
theorem way_any (i : Bool) (w : World) : Calls Tryz.prog 99 #[.bool i] w fun e w' => e = .returned (.string ⟨(wayL i).toArray⟩) ∧ w = w' := by
  cases i
  all_goals
    go_enter Tryz.func99, Tryz.ntmps99
    go_wp2
    go_ret
    exact ⟨rfl, rfl⟩

set_option maxHeartbeats 800000 in
theorem effect_no (a b c : Int) (w : World) (hv : ¬ effOk a b c) :
    Calls Tryz.prog 44 #[.agg #[.int .i64 a, .int .i64 b, .int .i64 c]] w fun e w' => e = .returned (.tuple #[.string ⟨#[]⟩, .int .i64 2]) ∧ Below w.heap.size w w' := by
  have hC := fun w => checkEffect_any a b c w
  rw [ckEff_no hv] at hC
  clear hv
  go_enter Tryz.func44, Tryz.ntmps44
  go_wp2_with fail
  refine (hC _).mono ?_
  rintro e w1 ⟨rfl, hb1⟩
  go_wp2
  go_ret2
  exact ⟨rfl, ((Below.refl _ _).alloc (Nat.le_refl _) _).trans (hb1.mono (by simp))⟩

/-- The sum of two strings under a name of its own. -/
theorem add_str (l : List UInt8) (b : ByteArray) (h : l.length + b.size ≤ 9223372036854775807) :
    ∃ t : List UInt8, Hid (t = l ++ b.data.toList) ∧ t.length ≤ l.length + b.size ∧ ∀ W : World, (Op.stringOp .add ⟨l.toArray⟩ b).run Tryz.prog W = .ok (.string ⟨t.toArray⟩) W := by
  refine ⟨l ++ b.data.toList, rfl, by rw [List.length_append, ← Lib.size_eq]; exact Nat.le_refl _, fun W => ?_⟩
  refine (run_string_add_sum (P := Tryz.prog) (w := W) ⟨l.toArray⟩ b (by rw [Lib.size_mk]; exact h)).trans ?_
  congr 2

theorem keep3 {w wc w2 : World} {B n : Nat} {x y z : Value} (hH : wc.cell? ⟨B, 0, none⟩ = some x ∧ wc.cell? ⟨B, 1, none⟩ = some y ∧ wc.cell? ⟨B, 2, none⟩ = some z ∧ Pow wc ∧ Below n w wc ∧ B + 1 ≤ wc.heap.size ∧ n ≤ B)
    (hb : Below wc.heap.size wc w2) : w2.cell? ⟨B, 0, none⟩ = some x ∧ w2.cell? ⟨B, 1, none⟩ = some y ∧ w2.cell? ⟨B, 2, none⟩ = some z ∧ Pow w2 ∧ Below n w w2 ∧ B + 1 ≤ w2.heap.size ∧ n ≤ B := by
  obtain ⟨h0, h1, h2, h3, h4, h5, h6⟩ := hH
  exact ⟨(hb.cell (by simp; omega)).trans h0, (hb.cell (by simp; omega)).trans h1, (hb.cell (by simp; omega)).trans h2, h3.below hb, h4.trans (hb.mono (by omega)), Nat.le_trans h5 hb.size, h6⟩
theorem below3 {w wc : World} {B n : Nat} {x y z : Value} (hH : wc.cell? ⟨B, 0, none⟩ = some x ∧ wc.cell? ⟨B, 1, none⟩ = some y ∧ wc.cell? ⟨B, 2, none⟩ = some z ∧ Pow wc ∧ Below n w wc ∧ B + 1 ≤ wc.heap.size ∧ n ≤ B) : Below n w wc := hH.2.2.2.2.1
theorem pow3 {w wc : World} {B n : Nat} {x y z : Value} (hH : wc.cell? ⟨B, 0, none⟩ = some x ∧ wc.cell? ⟨B, 1, none⟩ = some y ∧ wc.cell? ⟨B, 2, none⟩ = some z ∧ Pow wc ∧ Below n w wc ∧ B + 1 ≤ wc.heap.size ∧ n ≤ B) : Pow wc := hH.2.2.2.1
theorem ret2s {l m : List UInt8} {a b : Int} (h : l = m) (h' : a = b) : Ending.returned (.tuple #[.string ⟨l.toArray⟩, .int .i64 a]) = .returned (.tuple #[.string ⟨m.toArray⟩, .int .i64 b]) := by rw [h, h']

set_option maxHeartbeats 2000000 in
theorem effect_yes1 (a b : Int) (w : World) (hp : Pow w) (hv : effOk a b 1) :
    Calls Tryz.prog 44 #[.agg #[.int .i64 a, .int .i64 b, .int .i64 1]] w fun e w' => e = .returned (.tuple #[.string ⟨(effText a b 1).toArray⟩, .int .i64 0]) ∧ Below w.heap.size w w' := by
  have hC := fun w => checkEffect_any a b 1 w
  rw [ckEff_yes hv] at hC
  obtain ⟨h1, h2, h3, h4, _, _⟩ := hv
  go_enter Tryz.func44, Tryz.ntmps44
  go_wp2_with fail
  refine (hC _).mono ?_
  rintro e w1 ⟨rfl, hb1⟩
  have c0 := hb1.cell (p := ⟨w.heap.size, 0, none⟩) (by simp)
  have c1 := hb1.cell (p := ⟨w.heap.size, 1, none⟩) (by simp)
  have c2 := hb1.cell (p := ⟨w.heap.size, 2, none⟩) (by simp)
  simp [go_sem] at c0 c1 c2
  have hbw := ((Below.refl w.heap.size w).alloc (Nat.le_refl _) _).trans (hb1.mono (by simp))
  have hp1 := hp.below hbw
  have hsz : w.heap.size + 1 ≤ w1.heap.size := by have := hb1.size; simp at this; exact this
  clear hb1 hC
  have hw : IntKind.i64.wrap 0 = 0 := by decide
  have l1 := dgs_len (a := a) (by omega)
  have l2 := dgs_len (a := b) (by omega)
  obtain ⟨t1, e1, n1, s1⟩ := add_str (dgs a) ⟨#[47]⟩ (by simp [Lib.size_eq]; omega)
  obtain ⟨t2, e2, n2, s2⟩ := add_str t1 ⟨(dgs b).toArray⟩ (by simp [Lib.size_eq] at n1 ⊢; omega)
  obtain ⟨t3, e3, n3, s3⟩ := add_str t2 ⟨#[47]⟩ (by simp [Lib.size_eq] at n1 n2 ⊢; omega)
  obtain ⟨t4, e4, n4, s4⟩ := add_str t3 ⟨#[102]⟩ (by simp [Lib.size_eq] at n1 n2 n3 ⊢; omega)
  clear n1 n2 n3 n4
  have hsl : ∀ W : World, (Instr.slice 9 (.string ⟨#[102, 117, 114]⟩) (some (.int .i64 0)) (some (.int .i64 1)) none).run Tryz.prog W = .ok (.string ⟨#[102]⟩) W := fun _ => by kernel_rfl
  go_wp2_with fail
  go_region_held3 (fun w' => w'.cell? ⟨w.heap.size, 0, none⟩ = some (.int .i64 a) ∧ w'.cell? ⟨w.heap.size, 1, none⟩ = some (.int .i64 b) ∧ w'.cell? ⟨w.heap.size, 2, none⟩ = some (.int .i64 1) ∧ Pow w' ∧ Below w.heap.size w w' ∧ w.heap.size + 1 ≤ w'.heap.size ∧ w.heap.size ≤ w.heap.size)
    (first | exact ⟨c0, c1, c2, hp1.drew, hbw.drew, hsz, Nat.le_refl _⟩ | (refine keep3 ?_ hb2; assumption))
    (first | (go_at_call 97; refine (itoa_any _ (by omega) (by omega) _ ?_).mono ?_; (apply pow3; assumption); rintro e w2 ⟨rfl, hb2⟩))
  go_wp2
  go_ret2
  refine ⟨ret2s ?_ rfl, by apply below3; assumption⟩
  rw [e4.out, e3.out, e2.out, e1.out]
  simp [effText, phL]
set_option maxHeartbeats 2000000 in
theorem effect_yes2 (a b : Int) (w : World) (hp : Pow w) (hv : effOk a b 2) :
    Calls Tryz.prog 44 #[.agg #[.int .i64 a, .int .i64 b, .int .i64 2]] w fun e w' => e = .returned (.tuple #[.string ⟨(effText a b 2).toArray⟩, .int .i64 0]) ∧ Below w.heap.size w w' := by
  have hC := fun w => checkEffect_any a b 2 w
  rw [ckEff_yes hv] at hC
  obtain ⟨h1, h2, h3, h4, _, _⟩ := hv
  go_enter Tryz.func44, Tryz.ntmps44
  go_wp2_with fail
  refine (hC _).mono ?_
  rintro e w1 ⟨rfl, hb1⟩
  have c0 := hb1.cell (p := ⟨w.heap.size, 0, none⟩) (by simp)
  have c1 := hb1.cell (p := ⟨w.heap.size, 1, none⟩) (by simp)
  have c2 := hb1.cell (p := ⟨w.heap.size, 2, none⟩) (by simp)
  simp [go_sem] at c0 c1 c2
  have hbw := ((Below.refl w.heap.size w).alloc (Nat.le_refl _) _).trans (hb1.mono (by simp))
  have hp1 := hp.below hbw
  have hsz : w.heap.size + 1 ≤ w1.heap.size := by have := hb1.size; simp at this; exact this
  clear hb1 hC
  have hw : IntKind.i64.wrap 1 = 1 := by decide
  have l1 := dgs_len (a := a) (by omega)
  have l2 := dgs_len (a := b) (by omega)
  obtain ⟨t1, e1, n1, s1⟩ := add_str (dgs a) ⟨#[47]⟩ (by simp [Lib.size_eq]; omega)
  obtain ⟨t2, e2, n2, s2⟩ := add_str t1 ⟨(dgs b).toArray⟩ (by simp [Lib.size_eq] at n1 ⊢; omega)
  obtain ⟨t3, e3, n3, s3⟩ := add_str t2 ⟨#[47]⟩ (by simp [Lib.size_eq] at n1 n2 ⊢; omega)
  obtain ⟨t4, e4, n4, s4⟩ := add_str t3 ⟨#[117]⟩ (by simp [Lib.size_eq] at n1 n2 n3 ⊢; omega)
  clear n1 n2 n3 n4
  have hsl : ∀ W : World, (Instr.slice 9 (.string ⟨#[102, 117, 114]⟩) (some (.int .i64 1)) (some (.int .i64 2)) none).run Tryz.prog W = .ok (.string ⟨#[117]⟩) W := fun _ => by kernel_rfl
  go_wp2_with fail
  go_region_held3 (fun w' => w'.cell? ⟨w.heap.size, 0, none⟩ = some (.int .i64 a) ∧ w'.cell? ⟨w.heap.size, 1, none⟩ = some (.int .i64 b) ∧ w'.cell? ⟨w.heap.size, 2, none⟩ = some (.int .i64 2) ∧ Pow w' ∧ Below w.heap.size w w' ∧ w.heap.size + 1 ≤ w'.heap.size ∧ w.heap.size ≤ w.heap.size)
    (first | exact ⟨c0, c1, c2, hp1.drew, hbw.drew, hsz, Nat.le_refl _⟩ | (refine keep3 ?_ hb2; assumption))
    (first | (go_at_call 97; refine (itoa_any _ (by omega) (by omega) _ ?_).mono ?_; (apply pow3; assumption); rintro e w2 ⟨rfl, hb2⟩))
  go_wp2
  go_ret2
  refine ⟨ret2s ?_ rfl, by apply below3; assumption⟩
  rw [e4.out, e3.out, e2.out, e1.out]
  simp [effText, phL]
set_option maxHeartbeats 2000000 in
theorem effect_yes3 (a b : Int) (w : World) (hp : Pow w) (hv : effOk a b 3) :
    Calls Tryz.prog 44 #[.agg #[.int .i64 a, .int .i64 b, .int .i64 3]] w fun e w' => e = .returned (.tuple #[.string ⟨(effText a b 3).toArray⟩, .int .i64 0]) ∧ Below w.heap.size w w' := by
  have hC := fun w => checkEffect_any a b 3 w
  rw [ckEff_yes hv] at hC
  obtain ⟨h1, h2, h3, h4, _, _⟩ := hv
  go_enter Tryz.func44, Tryz.ntmps44
  go_wp2_with fail
  refine (hC _).mono ?_
  rintro e w1 ⟨rfl, hb1⟩
  have c0 := hb1.cell (p := ⟨w.heap.size, 0, none⟩) (by simp)
  have c1 := hb1.cell (p := ⟨w.heap.size, 1, none⟩) (by simp)
  have c2 := hb1.cell (p := ⟨w.heap.size, 2, none⟩) (by simp)
  simp [go_sem] at c0 c1 c2
  have hbw := ((Below.refl w.heap.size w).alloc (Nat.le_refl _) _).trans (hb1.mono (by simp))
  have hp1 := hp.below hbw
  have hsz : w.heap.size + 1 ≤ w1.heap.size := by have := hb1.size; simp at this; exact this
  clear hb1 hC
  have hw : IntKind.i64.wrap 2 = 2 := by decide
  have l1 := dgs_len (a := a) (by omega)
  have l2 := dgs_len (a := b) (by omega)
  obtain ⟨t1, e1, n1, s1⟩ := add_str (dgs a) ⟨#[47]⟩ (by simp [Lib.size_eq]; omega)
  obtain ⟨t2, e2, n2, s2⟩ := add_str t1 ⟨(dgs b).toArray⟩ (by simp [Lib.size_eq] at n1 ⊢; omega)
  obtain ⟨t3, e3, n3, s3⟩ := add_str t2 ⟨#[47]⟩ (by simp [Lib.size_eq] at n1 n2 ⊢; omega)
  obtain ⟨t4, e4, n4, s4⟩ := add_str t3 ⟨#[114]⟩ (by simp [Lib.size_eq] at n1 n2 n3 ⊢; omega)
  clear n1 n2 n3 n4
  have hsl : ∀ W : World, (Instr.slice 9 (.string ⟨#[102, 117, 114]⟩) (some (.int .i64 2)) (some (.int .i64 3)) none).run Tryz.prog W = .ok (.string ⟨#[114]⟩) W := fun _ => by kernel_rfl
  go_wp2_with fail
  go_region_held3 (fun w' => w'.cell? ⟨w.heap.size, 0, none⟩ = some (.int .i64 a) ∧ w'.cell? ⟨w.heap.size, 1, none⟩ = some (.int .i64 b) ∧ w'.cell? ⟨w.heap.size, 2, none⟩ = some (.int .i64 3) ∧ Pow w' ∧ Below w.heap.size w w' ∧ w.heap.size + 1 ≤ w'.heap.size ∧ w.heap.size ≤ w.heap.size)
    (first | exact ⟨c0, c1, c2, hp1.drew, hbw.drew, hsz, Nat.le_refl _⟩ | (refine keep3 ?_ hb2; assumption))
    (first | (go_at_call 97; refine (itoa_any _ (by omega) (by omega) _ ?_).mono ?_; (apply pow3; assumption); rintro e w2 ⟨rfl, hb2⟩))
  go_wp2
  go_ret2
  refine ⟨ret2s ?_ rfl, by apply below3; assumption⟩
  rw [e4.out, e3.out, e2.out, e1.out]
  simp [effText, phL]
theorem effect_yes (a b c : Int) (w : World) (hp : Pow w) (hv : effOk a b c) :
    Calls Tryz.prog 44 #[.agg #[.int .i64 a, .int .i64 b, .int .i64 c]] w fun e w' => e = .returned (.tuple #[.string ⟨(effText a b c).toArray⟩, .int .i64 0]) ∧ Below w.heap.size w w' := by
  obtain rfl | rfl | rfl : c = 1 ∨ c = 2 ∨ c = 3 := by have := hv.2.2.2.2; omega
  · exact effect_yes1 a b w hp hv
  · exact effect_yes2 a b w hp hv
  · exact effect_yes3 a b w hp hv
end
section
open Go.RowKit

theorem dgs_two {n : Int} (h : 10 ≤ n) : dgs n = dgs (n / 10) ++ dgs (n % 10) := by
  unfold dgs
  rw [Lib.decDigits, dif_neg (by omega), Lib.decDigits_one (i := (n % 10).toNat) (by omega)]
  rw [show (n / 10).toNat = n.toNat / 10 by omega, show (n % 10).toNat = n.toNat % 10 by omega]

set_option maxRecDepth 100000 in
set_option maxHeartbeats 800000 in
theorem digits_one (n : Int) (w : World) (h0 : 0 ≤ n) (h1 : n < 10) :
    Calls Tryz.prog 81 #[.int .i64 n] w fun e w' => e = .returned (.string ⟨(dgs n).toArray⟩) ∧ Below w.heap.size w w' := by
  have HF := Lib.hid (dgs_one h0 (show n ≤ 9 by omega))
  have hcv : (convert 22 9 (.slice (some ⟨w.heap.size, 0, none⟩) 1 1)).run Tryz.prog (w.alloc (.cells #[.int .u8 (48 + n)] 5)) = .ok (.string ⟨(dgs n).toArray⟩) (w.alloc (.cells #[.int .u8 (48 + n)] 5)) := by
    rw [HF.out]
    exact run_convert_bytes_back (P := Tryz.prog) (w.alloc (.cells #[.int .u8 (48 + n)] 5)) 22 9 5 ⟨w.heap.size, 0, none⟩ 1 [UInt8.ofNat (48 + n.toNat)] Tryz.underlying22 Tryz.underlying5 Tryz.underlying9
      (fun j hj => by
        obtain rfl : j = 0 := by simpa using hj
        simp [Addr.add, go_sem]; omega)
  generalize dgs n = t at hcv ⊢
  have hw : IntKind.u8.wrap (48 + n) = 48 + n := IntWalk.u8_in _ (by omega)
  go_enter Tryz.func81, Tryz.ntmps81
  go_wp2
  go_ret
  exact ⟨rfl, by go_grown⟩

set_option maxRecDepth 100000 in
set_option maxHeartbeats 800000 in
theorem digits_any : ∀ (k : Nat) (n : Int) (w : World), 0 ≤ n → n ≤ k → n ≤ 99999 →
    Calls Tryz.prog 81 #[.int .i64 n] w fun e w' => e = .returned (.string ⟨(dgs n).toArray⟩) ∧ Below w.heap.size w w'
  | 0, n, w, h0, h1, _ => digits_one n w h0 (by omega)
  | k + 1, n, w, h0, h1, h3 => by
    by_cases h2 : n < 10
    · exact digits_one n w h0 h2
    · have ih1 := fun w => digits_any k (n / 10) w (by omega) (by omega) (by omega)
      have ih2 := fun w => digits_one (n % 10) w (by omega) (by omega)
      have l1 := dgs_len (a := n / 10) (by omega)
      have l2 := dgs_len (a := n % 10) (by omega)
      have HF := Lib.hid (dgs_two (n := n) (by omega))
      obtain ⟨t1, e1, n1, s1⟩ := add_str (dgs (n / 10)) ⟨(dgs (n % 10)).toArray⟩ (by rw [Lib.size_mk]; omega)
      clear n1 l1 l2 h1
      have H1 := Lib.hid ih1
      have H2 := Lib.hid ih2
      clear ih1 ih2
      go_enter Tryz.func81, Tryz.ntmps81
      go_wp2_with fail
      refine (H1.out _).mono ?_
      rintro e w1 ⟨rfl, hb1⟩
      go_wp2_with fail
      refine (H2.out _).mono ?_
      rintro e w2 ⟨rfl, hb2⟩
      go_wp2_with fail
      go_ret
      exact ⟨by rw [HF.out, e1.out]; rfl, hb1.trans (hb2.mono hb1.size)⟩
end
section
open Go.RowKit

theorem digits_all (n : Int) (w : World) (h0 : 0 ≤ n) (h1 : n ≤ 99999) :
    Calls Tryz.prog 81 #[.int .i64 n] w fun e w' => e = .returned (.string ⟨(dgs n).toArray⟩) ∧ Below w.heap.size w w' := digits_any n.toNat n w h0 (by omega) h1

theorem rkeep3 {w wc w2 : World} {B n : Nat} {x y z : Value} (hH : wc.cell? ⟨B, 0, none⟩ = some x ∧ wc.cell? ⟨B, 1, none⟩ = some y ∧ wc.cell? ⟨B, 2, none⟩ = some z ∧ Below n w wc ∧ B + 1 ≤ wc.heap.size ∧ n ≤ B)
    (hb : Below wc.heap.size wc w2) : w2.cell? ⟨B, 0, none⟩ = some x ∧ w2.cell? ⟨B, 1, none⟩ = some y ∧ w2.cell? ⟨B, 2, none⟩ = some z ∧ Below n w w2 ∧ B + 1 ≤ w2.heap.size ∧ n ≤ B := by
  obtain ⟨h0, h1, h2, h4, h5, h6⟩ := hH
  exact ⟨(hb.cell (by simp; omega)).trans h0, (hb.cell (by simp; omega)).trans h1, (hb.cell (by simp; omega)).trans h2, h4.trans (hb.mono (by omega)), Nat.le_trans h5 hb.size, h6⟩
theorem rbelow3 {w wc : World} {B n : Nat} {x y z : Value} (hH : wc.cell? ⟨B, 0, none⟩ = some x ∧ wc.cell? ⟨B, 1, none⟩ = some y ∧ wc.cell? ⟨B, 2, none⟩ = some z ∧ Below n w wc ∧ B + 1 ≤ wc.heap.size ∧ n ≤ B) : Below n w wc := hH.2.2.2.1

set_option maxHeartbeats 800000 in
theorem refEffect_no (a b c : Int) (w : World) (hv : ¬ effOk a b c) :
    Calls Tryz.prog 79 #[.agg #[.int .i64 a, .int .i64 b, .int .i64 c]] w fun e w' => e = .returned (.tuple #[.string ⟨#[]⟩, .int .i64 2]) ∧ Below w.heap.size w w' := by
  have hC := fun w => refCheckEffect_any a b c w
  rw [ckEff_no hv] at hC
  clear hv
  go_enter Tryz.func79, Tryz.ntmps79
  go_wp2_with fail
  refine (hC _).mono ?_
  rintro e w1 ⟨rfl, hb1⟩
  go_wp2
  go_ret2
  exact ⟨rfl, ((Below.refl _ _).alloc (Nat.le_refl _) _).trans (hb1.mono (by simp))⟩

theorem wpAnyH_switch {P : Program} {md : Region.Mode} {ops : Array Oper} {Q : Exit → Act → World → Prop} {S S' : World → Prop} (hS : ∀ w, S' w → S w) :
    ∀ (fuel : Nat) (listed : Array Bool) (a : Act) (w : World), wpAnyH P md ops Q S' fuel listed a w → wpAnyH P md ops Q S fuel listed a w
  | 0, _, _, _, h => h
  | fuel + 1, _, _, _, h => ⟨h.1, fun i hi => wpOp_mono (fun a' w' h' => ⟨hS _ h'.1, wpAnyH_switch hS fuel _ a' w' h'.2⟩) (h.2 i hi)⟩

/-- What is held in the region of the reference's Effect, behind the letters' block. -/
theorem lkeep {w wc w2 : World} {B n g k : Nat} {x y z u : Value} (hH : (wc.cell? ⟨B, 0, none⟩ = some x ∧ wc.cell? ⟨B, 1, none⟩ = some y ∧ wc.cell? ⟨B, 2, none⟩ = some z ∧ Below n w wc ∧ B + 1 ≤ wc.heap.size ∧ n ≤ B) ∧ wc.cell? ⟨g, k, none⟩ = some u ∧ g < wc.heap.size)
    (hb : Below wc.heap.size wc w2) : (w2.cell? ⟨B, 0, none⟩ = some x ∧ w2.cell? ⟨B, 1, none⟩ = some y ∧ w2.cell? ⟨B, 2, none⟩ = some z ∧ Below n w w2 ∧ B + 1 ≤ w2.heap.size ∧ n ≤ B) ∧ w2.cell? ⟨g, k, none⟩ = some u ∧ g < w2.heap.size :=
  ⟨rkeep3 hH.1 hb, (hb.cell hH.2.2).trans hH.2.1, Nat.lt_of_lt_of_le hH.2.2 hb.size⟩

set_option maxHeartbeats 4000000 in
theorem refEffect_yes1 (a b : Int) (w : World) (hv : effOk a b 1) :
    Calls Tryz.prog 79 #[.agg #[.int .i64 a, .int .i64 b, .int .i64 1]] w fun e w' => e = .returned (.tuple #[.string ⟨(effText a b 1).toArray⟩, .int .i64 0]) ∧ Below w.heap.size w w' := by
  have hC := fun w => refCheckEffect_any a b 1 w
  rw [ckEff_yes hv] at hC
  obtain ⟨h1, h2, h3, h4, _, _⟩ := hv
  go_enter Tryz.func79, Tryz.ntmps79
  go_wp2_with fail
  refine (hC _).mono ?_
  rintro e w1 ⟨rfl, hb1⟩
  have c0 := hb1.cell (p := ⟨w.heap.size, 0, none⟩) (by simp)
  have c1 := hb1.cell (p := ⟨w.heap.size, 1, none⟩) (by simp)
  have c2 := hb1.cell (p := ⟨w.heap.size, 2, none⟩) (by simp)
  simp [go_sem] at c0 c1 c2
  have hbw := ((Below.refl w.heap.size w).alloc (Nat.le_refl _) _).trans (hb1.mono (by simp))
  have hsz : w.heap.size + 1 ≤ w1.heap.size := by have := hb1.size; simp at this; exact this
  clear hb1 hC
  have hw : IntKind.i64.wrap 0 = 0 := by decide
  have l1 := dgs_len (a := a) (by omega)
  have l2 := dgs_len (a := b) (by omega)
  obtain ⟨t1, e1, n1, s1⟩ := add_str (dgs a) ⟨#[47]⟩ (by simp [Lib.size_eq]; omega)
  obtain ⟨t2, e2, n2, s2⟩ := add_str t1 ⟨(dgs b).toArray⟩ (by simp [Lib.size_eq] at n1 ⊢; omega)
  obtain ⟨t3, e3, n3, s3⟩ := add_str t2 ⟨#[47]⟩ (by simp [Lib.size_eq] at n1 n2 ⊢; omega)
  obtain ⟨t4, e4, n4, s4⟩ := add_str t3 ⟨#[102]⟩ (by simp [Lib.size_eq] at n1 n2 n3 ⊢; omega)
  clear n1 n2 n3 n4
  have hfin : t4 = effText a b 1 := by rw [e4.out, e3.out, e2.out, e1.out]; simp [effText, phL]
  have HF := Lib.hid hfin
  clear hfin e1 e2 e3 e4
  go_wp2_with fail
  refine wp_region_held_drew (S := fun w' => w'.cell? ⟨w.heap.size, 0, none⟩ = some (.int .i64 a) ∧ w'.cell? ⟨w.heap.size, 1, none⟩ = some (.int .i64 b) ∧ w'.cell? ⟨w.heap.size, 2, none⟩ = some (.int .i64 1) ∧ Below w.heap.size w w' ∧ w.heap.size + 1 ≤ w'.heap.size ∧ w.heap.size ≤ w.heap.size) (by kernel_rfl) ⟨c0, c1, c2, hbw.drew, hsz, Nat.le_refl _⟩ (fun hHeld => ?_)
  clear c0 c1 c2 hbw hsz
  refine wpAnyH_take (i := 0) (v := ?_) rfl (by kernel_rfl) (by kernel_rfl) (by kernel_rfl) (fun _ _ _ h => h) (Or.inl ⟨by rfl, ?_⟩) (by assumption) ?_
  rotate_left
  · intro w hSw
    go_simp
    try with_reducible rfl
  simp only [Act.put, List.getElem_toArray, List.getElem_cons_zero, List.setIfInBounds_toArray, List.set_cons_zero, List.set_cons_succ]
  refine wpAnyH_take (i := 1) (v := ?_) rfl (by kernel_rfl) (by kernel_rfl) (by kernel_rfl) (fun _ _ _ h => h) (Or.inl ⟨by rfl, ?_⟩) (by assumption) ?_
  rotate_left
  · intro w hSw
    go_simp
    try with_reducible rfl
  simp only [Act.put, List.getElem_toArray, List.getElem_cons_succ, List.getElem_cons_zero, List.setIfInBounds_toArray, List.set_cons_zero, List.set_cons_succ]
  refine wpAnyH_take (i := 4) (v := ?_) rfl (by kernel_rfl) (by kernel_rfl) (by kernel_rfl) (fun _ _ _ h => h) (Or.inl ⟨by rfl, ?_⟩) (by assumption) ?_
  rotate_left
  · intro w hSw
    go_simp
    try with_reducible rfl
  simp only [Act.put, List.getElem_toArray, List.getElem_cons_succ, List.getElem_cons_zero, List.setIfInBounds_toArray, List.set_cons_zero, List.set_cons_succ]
  refine wpAnyH_take (i := 5) (v := ?_) rfl (by kernel_rfl) (by kernel_rfl) (by kernel_rfl) (fun _ _ _ h => h) (Or.inl ⟨by rfl, ?_⟩) (by assumption) ?_
  rotate_left
  · intro w hSw
    go_simp
    try with_reducible rfl
  simp only [Act.put, List.getElem_toArray, List.getElem_cons_succ, List.getElem_cons_zero, List.setIfInBounds_toArray, List.set_cons_zero, List.set_cons_succ]
  refine wpAnyH_take (i := 10) (v := ?_) rfl (by kernel_rfl) (by kernel_rfl) (by kernel_rfl) (fun _ _ _ h => h) (Or.inl ⟨by rfl, ?_⟩) (by assumption) ?_
  rotate_left
  · intro w hSw
    go_simp
    try with_reducible rfl
  simp only [Act.put, List.getElem_toArray, List.getElem_cons_succ, List.getElem_cons_zero, List.setIfInBounds_toArray, List.set_cons_zero, List.set_cons_succ]
  refine wpAnyH_take (i := 11) (v := ?_) rfl (by kernel_rfl) (by kernel_rfl) (by kernel_rfl) (fun _ _ _ h => h) (Or.inl ⟨by rfl, ?_⟩) (by assumption) ?_
  rotate_left
  · intro w hSw
    go_simp
    try with_reducible rfl
  simp only [Act.put, List.getElem_toArray, List.getElem_cons_succ, List.getElem_cons_zero, List.setIfInBounds_toArray, List.set_cons_zero, List.set_cons_succ]
  refine wpAnyH_take (i := 12) (v := ?_) rfl (by kernel_rfl) (by kernel_rfl) (by kernel_rfl) (fun _ _ _ h => h) (Or.inl ⟨by rfl, ?_⟩) (by assumption) ?_
  rotate_left
  · intro w hSw
    go_simp
    try with_reducible rfl
  simp only [Act.put, List.getElem_toArray, List.getElem_cons_succ, List.getElem_cons_zero, List.setIfInBounds_toArray, List.set_cons_zero, List.set_cons_succ]
  refine wpAnyH_ready (rs := [2, 9]) (by kernel_rfl) (by simp) ?_
  refine AllReadyH.cons rfl (fun K hK => ?_) (AllReadyH.cons rfl (fun K hK => ?_) AllReadyH.nil)
  · go_simp
    refine (digits_all _ _ (by omega) (by omega)).mono ?_
    rintro e w2 ⟨rfl, hbw2⟩
    refine hK.out _ _ ?_ (fun hHeld' => ?_)
    · exact rkeep3 hHeld hbw2
    clear hK K hHeld
    have hHeld := hHeld'
    clear hHeld'
    try simp only [Act.put, List.getElem_toArray, List.getElem_cons_succ, List.getElem_cons_zero, List.setIfInBounds_toArray, List.set_cons_zero, List.set_cons_succ]
    refine wpAnyH_take (i := 3) (v := ?_) rfl (by kernel_rfl) (by kernel_rfl) (by kernel_rfl) (fun _ _ _ h => h) (Or.inl ⟨by rfl, ?_⟩) (by assumption) ?_
    rotate_left
    · intro w hSw
      go_simp
      try with_reducible rfl
    simp only [Act.put, List.getElem_toArray, List.getElem_cons_succ, List.getElem_cons_zero, List.setIfInBounds_toArray, List.set_cons_zero, List.set_cons_succ]
    refine wpAnyH_ready (rs := [6, 9]) (by kernel_rfl) (by simp) ?_
    refine AllReadyH.cons rfl (fun K hK => ?_) (AllReadyH.cons rfl (fun K hK => ?_) AllReadyH.nil)
    · go_simp
      refine (digits_all _ _ (by omega) (by omega)).mono ?_
      rintro e w3 ⟨rfl, hbw3⟩
      refine hK.out _ _ ?_ (fun hHeld' => ?_)
      · exact rkeep3 hHeld hbw3
      clear hK K hHeld
      have hHeld := hHeld'
      clear hHeld'
      try simp only [Act.put, List.getElem_toArray, List.getElem_cons_succ, List.getElem_cons_zero, List.setIfInBounds_toArray, List.set_cons_zero, List.set_cons_succ]
      refine wpAnyH_take (i := 7) (v := ?_) rfl (by kernel_rfl) (by kernel_rfl) (by kernel_rfl) (fun _ _ _ h => h) (Or.inl ⟨by rfl, ?_⟩) (by assumption) ?_
      rotate_left
      · intro w hSw
        go_simp
        try with_reducible rfl
      simp only [Act.put, List.getElem_toArray, List.getElem_cons_succ, List.getElem_cons_zero, List.setIfInBounds_toArray, List.set_cons_zero, List.set_cons_succ]
      refine wpAnyH_take (i := 8) (v := ?_) rfl (by kernel_rfl) (by kernel_rfl) (by kernel_rfl) (fun _ _ _ h => h) (Or.inl ⟨by rfl, ?_⟩) (by assumption) ?_
      rotate_left
      · intro w hSw
        go_simp
        try with_reducible rfl
      simp only [Act.put, List.getElem_toArray, List.getElem_cons_succ, List.getElem_cons_zero, List.setIfInBounds_toArray, List.set_cons_zero, List.set_cons_succ]
      refine wpAnyH_ready (rs := [9]) (by kernel_rfl) (by simp) ?_
      refine AllReadyH.cons rfl (fun K hK => ?_) AllReadyH.nil
      go_simp
      refine hK.out _ _ ?_ (fun hHeld' => ?_)
      · exact rkeep3 hHeld ((Below.refl _ w3).alloc (Nat.le_refl _) _)
      clear hK K hHeld
      have hHeld := hHeld'
      clear hHeld'
      try simp only [Act.put, List.getElem_toArray, List.getElem_cons_succ, List.getElem_cons_zero, List.setIfInBounds_toArray, List.set_cons_zero, List.set_cons_succ]
      refine wpAnyH_switch (S' := fun w' => (w'.cell? ⟨w.heap.size, 0, none⟩ = some (.int .i64 a) ∧ w'.cell? ⟨w.heap.size, 1, none⟩ = some (.int .i64 b) ∧ w'.cell? ⟨w.heap.size, 2, none⟩ = some (.int .i64 1) ∧ Below w.heap.size w w' ∧ w.heap.size + 1 ≤ w'.heap.size ∧ w.heap.size ≤ w.heap.size) ∧ w'.cell? ⟨w3.heap.size, 0, none⟩ = some (.string ⟨#[102]⟩) ∧ w3.heap.size < w'.heap.size) (fun _ h => h.1) _ _ _ _ ?_
      have hH2 := And.intro hHeld (And.intro (show (w3.alloc (.cells #[.string ⟨#[102]⟩, .string ⟨#[117]⟩, .string ⟨#[114]⟩] 9)).cell? ⟨w3.heap.size, 0, none⟩ = some (.string ⟨#[102]⟩) by simp [go_sem]) (show w3.heap.size < (w3.alloc (.cells #[.string ⟨#[102]⟩, .string ⟨#[117]⟩, .string ⟨#[114]⟩] 9)).heap.size by simp))
      clear hHeld
      have hHeld := hH2
      clear hH2
      refine wpAnyH_take (i := 13) (v := ?_) rfl (by kernel_rfl) (by kernel_rfl) (by kernel_rfl) (fun _ _ _ h => h) (Or.inl ⟨by rfl, ?_⟩) (by assumption) ?_
      rotate_left
      · intro w hSw
        go_simp
        try with_reducible rfl
      simp only [Act.put, List.getElem_toArray, List.getElem_cons_succ, List.getElem_cons_zero, List.setIfInBounds_toArray, List.set_cons_zero, List.set_cons_succ]
      refine wpAnyH_take (i := 14) (v := ?_) rfl (by kernel_rfl) (by kernel_rfl) (by kernel_rfl) (fun _ _ _ h => h) (Or.inl ⟨by rfl, ?_⟩) (by assumption) ?_
      rotate_left
      · intro w hSw
        go_simp
        try with_reducible rfl
      simp only [Act.put, List.getElem_toArray, List.getElem_cons_succ, List.getElem_cons_zero, List.setIfInBounds_toArray, List.set_cons_zero, List.set_cons_succ]
      refine wpAnyH_take (i := 15) (v := ?_) rfl (by kernel_rfl) (by kernel_rfl) (by kernel_rfl) (fun _ _ _ h => h) (Or.inl ⟨by rfl, ?_⟩) (by assumption) ?_
      rotate_left
      · intro w hSw
        go_simp
        try with_reducible rfl
      simp only [Act.put, List.getElem_toArray, List.getElem_cons_succ, List.getElem_cons_zero, List.setIfInBounds_toArray, List.set_cons_zero, List.set_cons_succ]
      refine wpAnyH_take (i := 16) (v := ?_) rfl (by kernel_rfl) (by kernel_rfl) (by kernel_rfl) (fun _ _ _ h => h) (Or.inl ⟨by rfl, ?_⟩) (by assumption) ?_
      rotate_left
      · intro w hSw
        go_simp
        try with_reducible rfl
      simp only [Act.put, List.getElem_toArray, List.getElem_cons_succ, List.getElem_cons_zero, List.setIfInBounds_toArray, List.set_cons_zero, List.set_cons_succ]
      refine wpAnyH_take (i := 17) (v := ?_) rfl (by kernel_rfl) (by kernel_rfl) (by kernel_rfl) (fun _ _ _ h => h) (Or.inl ⟨by rfl, ?_⟩) (by assumption) ?_
      rotate_left
      · intro w hSw
        go_simp
        try with_reducible rfl
      simp only [Act.put, List.getElem_toArray, List.getElem_cons_succ, List.getElem_cons_zero, List.setIfInBounds_toArray, List.set_cons_zero, List.set_cons_succ]
      refine wpAnyH_done (by kernel_rfl) ?_ _
      go_wp2
      go_ret2
      exact ⟨by rw [HF.out]; rfl, hHeld.1.2.2.2.1⟩
    · go_simp
      refine hK.out _ _ ?_ (fun hHeld' => ?_)
      · exact rkeep3 hHeld ((Below.refl _ w2).alloc (Nat.le_refl _) _)
      clear hK K hHeld
      have hHeld := hHeld'
      clear hHeld'
      try simp only [Act.put, List.getElem_toArray, List.getElem_cons_succ, List.getElem_cons_zero, List.setIfInBounds_toArray, List.set_cons_zero, List.set_cons_succ]
      refine wpAnyH_switch (S' := fun w' => (w'.cell? ⟨w.heap.size, 0, none⟩ = some (.int .i64 a) ∧ w'.cell? ⟨w.heap.size, 1, none⟩ = some (.int .i64 b) ∧ w'.cell? ⟨w.heap.size, 2, none⟩ = some (.int .i64 1) ∧ Below w.heap.size w w' ∧ w.heap.size + 1 ≤ w'.heap.size ∧ w.heap.size ≤ w.heap.size) ∧ w'.cell? ⟨w2.heap.size, 0, none⟩ = some (.string ⟨#[102]⟩) ∧ w2.heap.size < w'.heap.size) (fun _ h => h.1) _ _ _ _ ?_
      have hH2 := And.intro hHeld (And.intro (show (w2.alloc (.cells #[.string ⟨#[102]⟩, .string ⟨#[117]⟩, .string ⟨#[114]⟩] 9)).cell? ⟨w2.heap.size, 0, none⟩ = some (.string ⟨#[102]⟩) by simp [go_sem]) (show w2.heap.size < (w2.alloc (.cells #[.string ⟨#[102]⟩, .string ⟨#[117]⟩, .string ⟨#[114]⟩] 9)).heap.size by simp))
      clear hHeld
      have hHeld := hH2
      clear hH2
      refine wpAnyH_take (i := 13) (v := ?_) rfl (by kernel_rfl) (by kernel_rfl) (by kernel_rfl) (fun _ _ _ h => h) (Or.inl ⟨by rfl, ?_⟩) (by assumption) ?_
      rotate_left
      · intro w hSw
        go_simp
        try with_reducible rfl
      simp only [Act.put, List.getElem_toArray, List.getElem_cons_succ, List.getElem_cons_zero, List.setIfInBounds_toArray, List.set_cons_zero, List.set_cons_succ]
      refine wpAnyH_take (i := 14) (v := ?_) rfl (by kernel_rfl) (by kernel_rfl) (by kernel_rfl) (fun _ _ _ h => h) (Or.inl ⟨by rfl, ?_⟩) (by assumption) ?_
      rotate_left
      · intro w hSw
        go_simp
        try with_reducible rfl
      simp only [Act.put, List.getElem_toArray, List.getElem_cons_succ, List.getElem_cons_zero, List.setIfInBounds_toArray, List.set_cons_zero, List.set_cons_succ]
      refine wpAnyH_ready (rs := [6]) (by kernel_rfl) (by simp) ?_
      refine AllReadyH.cons rfl (fun K hK => ?_) AllReadyH.nil
      go_simp
      refine (digits_all _ _ (by omega) (by omega)).mono ?_
      rintro e w3 ⟨rfl, hbw3⟩
      refine hK.out _ _ ?_ (fun hHeld' => ?_)
      · exact lkeep hHeld hbw3
      clear hK K hHeld
      have hHeld := hHeld'
      clear hHeld'
      try simp only [Act.put, List.getElem_toArray, List.getElem_cons_succ, List.getElem_cons_zero, List.setIfInBounds_toArray, List.set_cons_zero, List.set_cons_succ]
      refine wpAnyH_take (i := 7) (v := ?_) rfl (by kernel_rfl) (by kernel_rfl) (by kernel_rfl) (fun _ _ _ h => h) (Or.inl ⟨by rfl, ?_⟩) (by assumption) ?_
      rotate_left
      · intro w hSw
        go_simp
        try with_reducible rfl
      simp only [Act.put, List.getElem_toArray, List.getElem_cons_succ, List.getElem_cons_zero, List.setIfInBounds_toArray, List.set_cons_zero, List.set_cons_succ]
      refine wpAnyH_take (i := 8) (v := ?_) rfl (by kernel_rfl) (by kernel_rfl) (by kernel_rfl) (fun _ _ _ h => h) (Or.inl ⟨by rfl, ?_⟩) (by assumption) ?_
      rotate_left
      · intro w hSw
        go_simp
        try with_reducible rfl
      simp only [Act.put, List.getElem_toArray, List.getElem_cons_succ, List.getElem_cons_zero, List.setIfInBounds_toArray, List.set_cons_zero, List.set_cons_succ]
      refine wpAnyH_take (i := 15) (v := ?_) rfl (by kernel_rfl) (by kernel_rfl) (by kernel_rfl) (fun _ _ _ h => h) (Or.inl ⟨by rfl, ?_⟩) (by assumption) ?_
      rotate_left
      · intro w hSw
        go_simp
        try with_reducible rfl
      simp only [Act.put, List.getElem_toArray, List.getElem_cons_succ, List.getElem_cons_zero, List.setIfInBounds_toArray, List.set_cons_zero, List.set_cons_succ]
      refine wpAnyH_take (i := 16) (v := ?_) rfl (by kernel_rfl) (by kernel_rfl) (by kernel_rfl) (fun _ _ _ h => h) (Or.inl ⟨by rfl, ?_⟩) (by assumption) ?_
      rotate_left
      · intro w hSw
        go_simp
        try with_reducible rfl
      simp only [Act.put, List.getElem_toArray, List.getElem_cons_succ, List.getElem_cons_zero, List.setIfInBounds_toArray, List.set_cons_zero, List.set_cons_succ]
      refine wpAnyH_take (i := 17) (v := ?_) rfl (by kernel_rfl) (by kernel_rfl) (by kernel_rfl) (fun _ _ _ h => h) (Or.inl ⟨by rfl, ?_⟩) (by assumption) ?_
      rotate_left
      · intro w hSw
        go_simp
        try with_reducible rfl
      simp only [Act.put, List.getElem_toArray, List.getElem_cons_succ, List.getElem_cons_zero, List.setIfInBounds_toArray, List.set_cons_zero, List.set_cons_succ]
      refine wpAnyH_done (by kernel_rfl) ?_ _
      go_wp2
      go_ret2
      exact ⟨by rw [HF.out]; rfl, hHeld.1.2.2.2.1⟩
  · go_simp
    refine hK.out _ _ ?_ (fun hHeld' => ?_)
    · exact rkeep3 hHeld ((Below.refl _ w1.drew).alloc (Nat.le_refl _) _)
    clear hK K hHeld
    have hHeld := hHeld'
    clear hHeld'
    try simp only [Act.put, List.getElem_toArray, List.getElem_cons_succ, List.getElem_cons_zero, List.setIfInBounds_toArray, List.set_cons_zero, List.set_cons_succ]
    refine wpAnyH_switch (S' := fun w' => (w'.cell? ⟨w.heap.size, 0, none⟩ = some (.int .i64 a) ∧ w'.cell? ⟨w.heap.size, 1, none⟩ = some (.int .i64 b) ∧ w'.cell? ⟨w.heap.size, 2, none⟩ = some (.int .i64 1) ∧ Below w.heap.size w w' ∧ w.heap.size + 1 ≤ w'.heap.size ∧ w.heap.size ≤ w.heap.size) ∧ w'.cell? ⟨w1.heap.size, 0, none⟩ = some (.string ⟨#[102]⟩) ∧ w1.heap.size < w'.heap.size) (fun _ h => h.1) _ _ _ _ ?_
    have hH2 := And.intro hHeld (And.intro (show ((w1.alloc (.cells #[.string ⟨#[102]⟩, .string ⟨#[117]⟩, .string ⟨#[114]⟩] 9)).drew).cell? ⟨w1.heap.size, 0, none⟩ = some (.string ⟨#[102]⟩) by simp [go_sem]) (show w1.heap.size < ((w1.alloc (.cells #[.string ⟨#[102]⟩, .string ⟨#[117]⟩, .string ⟨#[114]⟩] 9)).drew).heap.size by simp))
    clear hHeld
    have hHeld := hH2
    clear hH2
    refine wpAnyH_take (i := 13) (v := ?_) rfl (by kernel_rfl) (by kernel_rfl) (by kernel_rfl) (fun _ _ _ h => h) (Or.inl ⟨by rfl, ?_⟩) (by assumption) ?_
    rotate_left
    · intro w hSw
      go_simp
      try with_reducible rfl
    simp only [Act.put, List.getElem_toArray, List.getElem_cons_succ, List.getElem_cons_zero, List.setIfInBounds_toArray, List.set_cons_zero, List.set_cons_succ]
    refine wpAnyH_take (i := 14) (v := ?_) rfl (by kernel_rfl) (by kernel_rfl) (by kernel_rfl) (fun _ _ _ h => h) (Or.inl ⟨by rfl, ?_⟩) (by assumption) ?_
    rotate_left
    · intro w hSw
      go_simp
      try with_reducible rfl
    simp only [Act.put, List.getElem_toArray, List.getElem_cons_succ, List.getElem_cons_zero, List.setIfInBounds_toArray, List.set_cons_zero, List.set_cons_succ]
    refine wpAnyH_ready (rs := [2]) (by kernel_rfl) (by simp) ?_
    refine AllReadyH.cons rfl (fun K hK => ?_) AllReadyH.nil
    go_simp
    refine (digits_all _ _ (by omega) (by omega)).mono ?_
    rintro e w2 ⟨rfl, hbw2⟩
    refine hK.out _ _ ?_ (fun hHeld' => ?_)
    · exact lkeep hHeld hbw2
    clear hK K hHeld
    have hHeld := hHeld'
    clear hHeld'
    try simp only [Act.put, List.getElem_toArray, List.getElem_cons_succ, List.getElem_cons_zero, List.setIfInBounds_toArray, List.set_cons_zero, List.set_cons_succ]
    refine wpAnyH_take (i := 3) (v := ?_) rfl (by kernel_rfl) (by kernel_rfl) (by kernel_rfl) (fun _ _ _ h => h) (Or.inl ⟨by rfl, ?_⟩) (by assumption) ?_
    rotate_left
    · intro w hSw
      go_simp
      try with_reducible rfl
    simp only [Act.put, List.getElem_toArray, List.getElem_cons_succ, List.getElem_cons_zero, List.setIfInBounds_toArray, List.set_cons_zero, List.set_cons_succ]
    refine wpAnyH_ready (rs := [6]) (by kernel_rfl) (by simp) ?_
    refine AllReadyH.cons rfl (fun K hK => ?_) AllReadyH.nil
    go_simp
    refine (digits_all _ _ (by omega) (by omega)).mono ?_
    rintro e w3 ⟨rfl, hbw3⟩
    refine hK.out _ _ ?_ (fun hHeld' => ?_)
    · exact lkeep hHeld hbw3
    clear hK K hHeld
    have hHeld := hHeld'
    clear hHeld'
    try simp only [Act.put, List.getElem_toArray, List.getElem_cons_succ, List.getElem_cons_zero, List.setIfInBounds_toArray, List.set_cons_zero, List.set_cons_succ]
    refine wpAnyH_take (i := 7) (v := ?_) rfl (by kernel_rfl) (by kernel_rfl) (by kernel_rfl) (fun _ _ _ h => h) (Or.inl ⟨by rfl, ?_⟩) (by assumption) ?_
    rotate_left
    · intro w hSw
      go_simp
      try with_reducible rfl
    simp only [Act.put, List.getElem_toArray, List.getElem_cons_succ, List.getElem_cons_zero, List.setIfInBounds_toArray, List.set_cons_zero, List.set_cons_succ]
    refine wpAnyH_take (i := 8) (v := ?_) rfl (by kernel_rfl) (by kernel_rfl) (by kernel_rfl) (fun _ _ _ h => h) (Or.inl ⟨by rfl, ?_⟩) (by assumption) ?_
    rotate_left
    · intro w hSw
      go_simp
      try with_reducible rfl
    simp only [Act.put, List.getElem_toArray, List.getElem_cons_succ, List.getElem_cons_zero, List.setIfInBounds_toArray, List.set_cons_zero, List.set_cons_succ]
    refine wpAnyH_take (i := 15) (v := ?_) rfl (by kernel_rfl) (by kernel_rfl) (by kernel_rfl) (fun _ _ _ h => h) (Or.inl ⟨by rfl, ?_⟩) (by assumption) ?_
    rotate_left
    · intro w hSw
      go_simp
      try with_reducible rfl
    simp only [Act.put, List.getElem_toArray, List.getElem_cons_succ, List.getElem_cons_zero, List.setIfInBounds_toArray, List.set_cons_zero, List.set_cons_succ]
    refine wpAnyH_take (i := 16) (v := ?_) rfl (by kernel_rfl) (by kernel_rfl) (by kernel_rfl) (fun _ _ _ h => h) (Or.inl ⟨by rfl, ?_⟩) (by assumption) ?_
    rotate_left
    · intro w hSw
      go_simp
      try with_reducible rfl
    simp only [Act.put, List.getElem_toArray, List.getElem_cons_succ, List.getElem_cons_zero, List.setIfInBounds_toArray, List.set_cons_zero, List.set_cons_succ]
    refine wpAnyH_take (i := 17) (v := ?_) rfl (by kernel_rfl) (by kernel_rfl) (by kernel_rfl) (fun _ _ _ h => h) (Or.inl ⟨by rfl, ?_⟩) (by assumption) ?_
    rotate_left
    · intro w hSw
      go_simp
      try with_reducible rfl
    simp only [Act.put, List.getElem_toArray, List.getElem_cons_succ, List.getElem_cons_zero, List.setIfInBounds_toArray, List.set_cons_zero, List.set_cons_succ]
    refine wpAnyH_done (by kernel_rfl) ?_ _
    go_wp2
    go_ret2
    exact ⟨by rw [HF.out]; rfl, hHeld.1.2.2.2.1⟩
set_option maxHeartbeats 4000000 in
theorem refEffect_yes2 (a b : Int) (w : World) (hv : effOk a b 2) :
    Calls Tryz.prog 79 #[.agg #[.int .i64 a, .int .i64 b, .int .i64 2]] w fun e w' => e = .returned (.tuple #[.string ⟨(effText a b 2).toArray⟩, .int .i64 0]) ∧ Below w.heap.size w w' := by
  have hC := fun w => refCheckEffect_any a b 2 w
  rw [ckEff_yes hv] at hC
  obtain ⟨h1, h2, h3, h4, _, _⟩ := hv
  go_enter Tryz.func79, Tryz.ntmps79
  go_wp2_with fail
  refine (hC _).mono ?_
  rintro e w1 ⟨rfl, hb1⟩
  have c0 := hb1.cell (p := ⟨w.heap.size, 0, none⟩) (by simp)
  have c1 := hb1.cell (p := ⟨w.heap.size, 1, none⟩) (by simp)
  have c2 := hb1.cell (p := ⟨w.heap.size, 2, none⟩) (by simp)
  simp [go_sem] at c0 c1 c2
  have hbw := ((Below.refl w.heap.size w).alloc (Nat.le_refl _) _).trans (hb1.mono (by simp))
  have hsz : w.heap.size + 1 ≤ w1.heap.size := by have := hb1.size; simp at this; exact this
  clear hb1 hC
  have hw : IntKind.i64.wrap 1 = 1 := by decide
  have l1 := dgs_len (a := a) (by omega)
  have l2 := dgs_len (a := b) (by omega)
  obtain ⟨t1, e1, n1, s1⟩ := add_str (dgs a) ⟨#[47]⟩ (by simp [Lib.size_eq]; omega)
  obtain ⟨t2, e2, n2, s2⟩ := add_str t1 ⟨(dgs b).toArray⟩ (by simp [Lib.size_eq] at n1 ⊢; omega)
  obtain ⟨t3, e3, n3, s3⟩ := add_str t2 ⟨#[47]⟩ (by simp [Lib.size_eq] at n1 n2 ⊢; omega)
  obtain ⟨t4, e4, n4, s4⟩ := add_str t3 ⟨#[117]⟩ (by simp [Lib.size_eq] at n1 n2 n3 ⊢; omega)
  clear n1 n2 n3 n4
  have hfin : t4 = effText a b 2 := by rw [e4.out, e3.out, e2.out, e1.out]; simp [effText, phL]
  have HF := Lib.hid hfin
  clear hfin e1 e2 e3 e4
  go_wp2_with fail
  refine wp_region_held_drew (S := fun w' => w'.cell? ⟨w.heap.size, 0, none⟩ = some (.int .i64 a) ∧ w'.cell? ⟨w.heap.size, 1, none⟩ = some (.int .i64 b) ∧ w'.cell? ⟨w.heap.size, 2, none⟩ = some (.int .i64 2) ∧ Below w.heap.size w w' ∧ w.heap.size + 1 ≤ w'.heap.size ∧ w.heap.size ≤ w.heap.size) (by kernel_rfl) ⟨c0, c1, c2, hbw.drew, hsz, Nat.le_refl _⟩ (fun hHeld => ?_)
  clear c0 c1 c2 hbw hsz
  refine wpAnyH_take (i := 0) (v := ?_) rfl (by kernel_rfl) (by kernel_rfl) (by kernel_rfl) (fun _ _ _ h => h) (Or.inl ⟨by rfl, ?_⟩) (by assumption) ?_
  rotate_left
  · intro w hSw
    go_simp
    try with_reducible rfl
  simp only [Act.put, List.getElem_toArray, List.getElem_cons_zero, List.setIfInBounds_toArray, List.set_cons_zero, List.set_cons_succ]
  refine wpAnyH_take (i := 1) (v := ?_) rfl (by kernel_rfl) (by kernel_rfl) (by kernel_rfl) (fun _ _ _ h => h) (Or.inl ⟨by rfl, ?_⟩) (by assumption) ?_
  rotate_left
  · intro w hSw
    go_simp
    try with_reducible rfl
  simp only [Act.put, List.getElem_toArray, List.getElem_cons_succ, List.getElem_cons_zero, List.setIfInBounds_toArray, List.set_cons_zero, List.set_cons_succ]
  refine wpAnyH_take (i := 4) (v := ?_) rfl (by kernel_rfl) (by kernel_rfl) (by kernel_rfl) (fun _ _ _ h => h) (Or.inl ⟨by rfl, ?_⟩) (by assumption) ?_
  rotate_left
  · intro w hSw
    go_simp
    try with_reducible rfl
  simp only [Act.put, List.getElem_toArray, List.getElem_cons_succ, List.getElem_cons_zero, List.setIfInBounds_toArray, List.set_cons_zero, List.set_cons_succ]
  refine wpAnyH_take (i := 5) (v := ?_) rfl (by kernel_rfl) (by kernel_rfl) (by kernel_rfl) (fun _ _ _ h => h) (Or.inl ⟨by rfl, ?_⟩) (by assumption) ?_
  rotate_left
  · intro w hSw
    go_simp
    try with_reducible rfl
  simp only [Act.put, List.getElem_toArray, List.getElem_cons_succ, List.getElem_cons_zero, List.setIfInBounds_toArray, List.set_cons_zero, List.set_cons_succ]
  refine wpAnyH_take (i := 10) (v := ?_) rfl (by kernel_rfl) (by kernel_rfl) (by kernel_rfl) (fun _ _ _ h => h) (Or.inl ⟨by rfl, ?_⟩) (by assumption) ?_
  rotate_left
  · intro w hSw
    go_simp
    try with_reducible rfl
  simp only [Act.put, List.getElem_toArray, List.getElem_cons_succ, List.getElem_cons_zero, List.setIfInBounds_toArray, List.set_cons_zero, List.set_cons_succ]
  refine wpAnyH_take (i := 11) (v := ?_) rfl (by kernel_rfl) (by kernel_rfl) (by kernel_rfl) (fun _ _ _ h => h) (Or.inl ⟨by rfl, ?_⟩) (by assumption) ?_
  rotate_left
  · intro w hSw
    go_simp
    try with_reducible rfl
  simp only [Act.put, List.getElem_toArray, List.getElem_cons_succ, List.getElem_cons_zero, List.setIfInBounds_toArray, List.set_cons_zero, List.set_cons_succ]
  refine wpAnyH_take (i := 12) (v := ?_) rfl (by kernel_rfl) (by kernel_rfl) (by kernel_rfl) (fun _ _ _ h => h) (Or.inl ⟨by rfl, ?_⟩) (by assumption) ?_
  rotate_left
  · intro w hSw
    go_simp
    try with_reducible rfl
  simp only [Act.put, List.getElem_toArray, List.getElem_cons_succ, List.getElem_cons_zero, List.setIfInBounds_toArray, List.set_cons_zero, List.set_cons_succ]
  refine wpAnyH_ready (rs := [2, 9]) (by kernel_rfl) (by simp) ?_
  refine AllReadyH.cons rfl (fun K hK => ?_) (AllReadyH.cons rfl (fun K hK => ?_) AllReadyH.nil)
  · go_simp
    refine (digits_all _ _ (by omega) (by omega)).mono ?_
    rintro e w2 ⟨rfl, hbw2⟩
    refine hK.out _ _ ?_ (fun hHeld' => ?_)
    · exact rkeep3 hHeld hbw2
    clear hK K hHeld
    have hHeld := hHeld'
    clear hHeld'
    try simp only [Act.put, List.getElem_toArray, List.getElem_cons_succ, List.getElem_cons_zero, List.setIfInBounds_toArray, List.set_cons_zero, List.set_cons_succ]
    refine wpAnyH_take (i := 3) (v := ?_) rfl (by kernel_rfl) (by kernel_rfl) (by kernel_rfl) (fun _ _ _ h => h) (Or.inl ⟨by rfl, ?_⟩) (by assumption) ?_
    rotate_left
    · intro w hSw
      go_simp
      try with_reducible rfl
    simp only [Act.put, List.getElem_toArray, List.getElem_cons_succ, List.getElem_cons_zero, List.setIfInBounds_toArray, List.set_cons_zero, List.set_cons_succ]
    refine wpAnyH_ready (rs := [6, 9]) (by kernel_rfl) (by simp) ?_
    refine AllReadyH.cons rfl (fun K hK => ?_) (AllReadyH.cons rfl (fun K hK => ?_) AllReadyH.nil)
    · go_simp
      refine (digits_all _ _ (by omega) (by omega)).mono ?_
      rintro e w3 ⟨rfl, hbw3⟩
      refine hK.out _ _ ?_ (fun hHeld' => ?_)
      · exact rkeep3 hHeld hbw3
      clear hK K hHeld
      have hHeld := hHeld'
      clear hHeld'
      try simp only [Act.put, List.getElem_toArray, List.getElem_cons_succ, List.getElem_cons_zero, List.setIfInBounds_toArray, List.set_cons_zero, List.set_cons_succ]
      refine wpAnyH_take (i := 7) (v := ?_) rfl (by kernel_rfl) (by kernel_rfl) (by kernel_rfl) (fun _ _ _ h => h) (Or.inl ⟨by rfl, ?_⟩) (by assumption) ?_
      rotate_left
      · intro w hSw
        go_simp
        try with_reducible rfl
      simp only [Act.put, List.getElem_toArray, List.getElem_cons_succ, List.getElem_cons_zero, List.setIfInBounds_toArray, List.set_cons_zero, List.set_cons_succ]
      refine wpAnyH_take (i := 8) (v := ?_) rfl (by kernel_rfl) (by kernel_rfl) (by kernel_rfl) (fun _ _ _ h => h) (Or.inl ⟨by rfl, ?_⟩) (by assumption) ?_
      rotate_left
      · intro w hSw
        go_simp
        try with_reducible rfl
      simp only [Act.put, List.getElem_toArray, List.getElem_cons_succ, List.getElem_cons_zero, List.setIfInBounds_toArray, List.set_cons_zero, List.set_cons_succ]
      refine wpAnyH_ready (rs := [9]) (by kernel_rfl) (by simp) ?_
      refine AllReadyH.cons rfl (fun K hK => ?_) AllReadyH.nil
      go_simp
      refine hK.out _ _ ?_ (fun hHeld' => ?_)
      · exact rkeep3 hHeld ((Below.refl _ w3).alloc (Nat.le_refl _) _)
      clear hK K hHeld
      have hHeld := hHeld'
      clear hHeld'
      try simp only [Act.put, List.getElem_toArray, List.getElem_cons_succ, List.getElem_cons_zero, List.setIfInBounds_toArray, List.set_cons_zero, List.set_cons_succ]
      refine wpAnyH_switch (S' := fun w' => (w'.cell? ⟨w.heap.size, 0, none⟩ = some (.int .i64 a) ∧ w'.cell? ⟨w.heap.size, 1, none⟩ = some (.int .i64 b) ∧ w'.cell? ⟨w.heap.size, 2, none⟩ = some (.int .i64 2) ∧ Below w.heap.size w w' ∧ w.heap.size + 1 ≤ w'.heap.size ∧ w.heap.size ≤ w.heap.size) ∧ w'.cell? ⟨w3.heap.size, 1, none⟩ = some (.string ⟨#[117]⟩) ∧ w3.heap.size < w'.heap.size) (fun _ h => h.1) _ _ _ _ ?_
      have hH2 := And.intro hHeld (And.intro (show (w3.alloc (.cells #[.string ⟨#[102]⟩, .string ⟨#[117]⟩, .string ⟨#[114]⟩] 9)).cell? ⟨w3.heap.size, 1, none⟩ = some (.string ⟨#[117]⟩) by simp [go_sem]) (show w3.heap.size < (w3.alloc (.cells #[.string ⟨#[102]⟩, .string ⟨#[117]⟩, .string ⟨#[114]⟩] 9)).heap.size by simp))
      clear hHeld
      have hHeld := hH2
      clear hH2
      refine wpAnyH_take (i := 13) (v := ?_) rfl (by kernel_rfl) (by kernel_rfl) (by kernel_rfl) (fun _ _ _ h => h) (Or.inl ⟨by rfl, ?_⟩) (by assumption) ?_
      rotate_left
      · intro w hSw
        go_simp
        try with_reducible rfl
      simp only [Act.put, List.getElem_toArray, List.getElem_cons_succ, List.getElem_cons_zero, List.setIfInBounds_toArray, List.set_cons_zero, List.set_cons_succ]
      refine wpAnyH_take (i := 14) (v := ?_) rfl (by kernel_rfl) (by kernel_rfl) (by kernel_rfl) (fun _ _ _ h => h) (Or.inl ⟨by rfl, ?_⟩) (by assumption) ?_
      rotate_left
      · intro w hSw
        go_simp
        try with_reducible rfl
      simp only [Act.put, List.getElem_toArray, List.getElem_cons_succ, List.getElem_cons_zero, List.setIfInBounds_toArray, List.set_cons_zero, List.set_cons_succ]
      refine wpAnyH_take (i := 15) (v := ?_) rfl (by kernel_rfl) (by kernel_rfl) (by kernel_rfl) (fun _ _ _ h => h) (Or.inl ⟨by rfl, ?_⟩) (by assumption) ?_
      rotate_left
      · intro w hSw
        go_simp
        try with_reducible rfl
      simp only [Act.put, List.getElem_toArray, List.getElem_cons_succ, List.getElem_cons_zero, List.setIfInBounds_toArray, List.set_cons_zero, List.set_cons_succ]
      refine wpAnyH_take (i := 16) (v := ?_) rfl (by kernel_rfl) (by kernel_rfl) (by kernel_rfl) (fun _ _ _ h => h) (Or.inl ⟨by rfl, ?_⟩) (by assumption) ?_
      rotate_left
      · intro w hSw
        go_simp
        try with_reducible rfl
      simp only [Act.put, List.getElem_toArray, List.getElem_cons_succ, List.getElem_cons_zero, List.setIfInBounds_toArray, List.set_cons_zero, List.set_cons_succ]
      refine wpAnyH_take (i := 17) (v := ?_) rfl (by kernel_rfl) (by kernel_rfl) (by kernel_rfl) (fun _ _ _ h => h) (Or.inl ⟨by rfl, ?_⟩) (by assumption) ?_
      rotate_left
      · intro w hSw
        go_simp
        try with_reducible rfl
      simp only [Act.put, List.getElem_toArray, List.getElem_cons_succ, List.getElem_cons_zero, List.setIfInBounds_toArray, List.set_cons_zero, List.set_cons_succ]
      refine wpAnyH_done (by kernel_rfl) ?_ _
      go_wp2
      go_ret2
      exact ⟨by rw [HF.out]; rfl, hHeld.1.2.2.2.1⟩
    · go_simp
      refine hK.out _ _ ?_ (fun hHeld' => ?_)
      · exact rkeep3 hHeld ((Below.refl _ w2).alloc (Nat.le_refl _) _)
      clear hK K hHeld
      have hHeld := hHeld'
      clear hHeld'
      try simp only [Act.put, List.getElem_toArray, List.getElem_cons_succ, List.getElem_cons_zero, List.setIfInBounds_toArray, List.set_cons_zero, List.set_cons_succ]
      refine wpAnyH_switch (S' := fun w' => (w'.cell? ⟨w.heap.size, 0, none⟩ = some (.int .i64 a) ∧ w'.cell? ⟨w.heap.size, 1, none⟩ = some (.int .i64 b) ∧ w'.cell? ⟨w.heap.size, 2, none⟩ = some (.int .i64 2) ∧ Below w.heap.size w w' ∧ w.heap.size + 1 ≤ w'.heap.size ∧ w.heap.size ≤ w.heap.size) ∧ w'.cell? ⟨w2.heap.size, 1, none⟩ = some (.string ⟨#[117]⟩) ∧ w2.heap.size < w'.heap.size) (fun _ h => h.1) _ _ _ _ ?_
      have hH2 := And.intro hHeld (And.intro (show (w2.alloc (.cells #[.string ⟨#[102]⟩, .string ⟨#[117]⟩, .string ⟨#[114]⟩] 9)).cell? ⟨w2.heap.size, 1, none⟩ = some (.string ⟨#[117]⟩) by simp [go_sem]) (show w2.heap.size < (w2.alloc (.cells #[.string ⟨#[102]⟩, .string ⟨#[117]⟩, .string ⟨#[114]⟩] 9)).heap.size by simp))
      clear hHeld
      have hHeld := hH2
      clear hH2
      refine wpAnyH_take (i := 13) (v := ?_) rfl (by kernel_rfl) (by kernel_rfl) (by kernel_rfl) (fun _ _ _ h => h) (Or.inl ⟨by rfl, ?_⟩) (by assumption) ?_
      rotate_left
      · intro w hSw
        go_simp
        try with_reducible rfl
      simp only [Act.put, List.getElem_toArray, List.getElem_cons_succ, List.getElem_cons_zero, List.setIfInBounds_toArray, List.set_cons_zero, List.set_cons_succ]
      refine wpAnyH_take (i := 14) (v := ?_) rfl (by kernel_rfl) (by kernel_rfl) (by kernel_rfl) (fun _ _ _ h => h) (Or.inl ⟨by rfl, ?_⟩) (by assumption) ?_
      rotate_left
      · intro w hSw
        go_simp
        try with_reducible rfl
      simp only [Act.put, List.getElem_toArray, List.getElem_cons_succ, List.getElem_cons_zero, List.setIfInBounds_toArray, List.set_cons_zero, List.set_cons_succ]
      refine wpAnyH_ready (rs := [6]) (by kernel_rfl) (by simp) ?_
      refine AllReadyH.cons rfl (fun K hK => ?_) AllReadyH.nil
      go_simp
      refine (digits_all _ _ (by omega) (by omega)).mono ?_
      rintro e w3 ⟨rfl, hbw3⟩
      refine hK.out _ _ ?_ (fun hHeld' => ?_)
      · exact lkeep hHeld hbw3
      clear hK K hHeld
      have hHeld := hHeld'
      clear hHeld'
      try simp only [Act.put, List.getElem_toArray, List.getElem_cons_succ, List.getElem_cons_zero, List.setIfInBounds_toArray, List.set_cons_zero, List.set_cons_succ]
      refine wpAnyH_take (i := 7) (v := ?_) rfl (by kernel_rfl) (by kernel_rfl) (by kernel_rfl) (fun _ _ _ h => h) (Or.inl ⟨by rfl, ?_⟩) (by assumption) ?_
      rotate_left
      · intro w hSw
        go_simp
        try with_reducible rfl
      simp only [Act.put, List.getElem_toArray, List.getElem_cons_succ, List.getElem_cons_zero, List.setIfInBounds_toArray, List.set_cons_zero, List.set_cons_succ]
      refine wpAnyH_take (i := 8) (v := ?_) rfl (by kernel_rfl) (by kernel_rfl) (by kernel_rfl) (fun _ _ _ h => h) (Or.inl ⟨by rfl, ?_⟩) (by assumption) ?_
      rotate_left
      · intro w hSw
        go_simp
        try with_reducible rfl
      simp only [Act.put, List.getElem_toArray, List.getElem_cons_succ, List.getElem_cons_zero, List.setIfInBounds_toArray, List.set_cons_zero, List.set_cons_succ]
      refine wpAnyH_take (i := 15) (v := ?_) rfl (by kernel_rfl) (by kernel_rfl) (by kernel_rfl) (fun _ _ _ h => h) (Or.inl ⟨by rfl, ?_⟩) (by assumption) ?_
      rotate_left
      · intro w hSw
        go_simp
        try with_reducible rfl
      simp only [Act.put, List.getElem_toArray, List.getElem_cons_succ, List.getElem_cons_zero, List.setIfInBounds_toArray, List.set_cons_zero, List.set_cons_succ]
      refine wpAnyH_take (i := 16) (v := ?_) rfl (by kernel_rfl) (by kernel_rfl) (by kernel_rfl) (fun _ _ _ h => h) (Or.inl ⟨by rfl, ?_⟩) (by assumption) ?_
      rotate_left
      · intro w hSw
        go_simp
        try with_reducible rfl
      simp only [Act.put, List.getElem_toArray, List.getElem_cons_succ, List.getElem_cons_zero, List.setIfInBounds_toArray, List.set_cons_zero, List.set_cons_succ]
      refine wpAnyH_take (i := 17) (v := ?_) rfl (by kernel_rfl) (by kernel_rfl) (by kernel_rfl) (fun _ _ _ h => h) (Or.inl ⟨by rfl, ?_⟩) (by assumption) ?_
      rotate_left
      · intro w hSw
        go_simp
        try with_reducible rfl
      simp only [Act.put, List.getElem_toArray, List.getElem_cons_succ, List.getElem_cons_zero, List.setIfInBounds_toArray, List.set_cons_zero, List.set_cons_succ]
      refine wpAnyH_done (by kernel_rfl) ?_ _
      go_wp2
      go_ret2
      exact ⟨by rw [HF.out]; rfl, hHeld.1.2.2.2.1⟩
  · go_simp
    refine hK.out _ _ ?_ (fun hHeld' => ?_)
    · exact rkeep3 hHeld ((Below.refl _ w1.drew).alloc (Nat.le_refl _) _)
    clear hK K hHeld
    have hHeld := hHeld'
    clear hHeld'
    try simp only [Act.put, List.getElem_toArray, List.getElem_cons_succ, List.getElem_cons_zero, List.setIfInBounds_toArray, List.set_cons_zero, List.set_cons_succ]
    refine wpAnyH_switch (S' := fun w' => (w'.cell? ⟨w.heap.size, 0, none⟩ = some (.int .i64 a) ∧ w'.cell? ⟨w.heap.size, 1, none⟩ = some (.int .i64 b) ∧ w'.cell? ⟨w.heap.size, 2, none⟩ = some (.int .i64 2) ∧ Below w.heap.size w w' ∧ w.heap.size + 1 ≤ w'.heap.size ∧ w.heap.size ≤ w.heap.size) ∧ w'.cell? ⟨w1.heap.size, 1, none⟩ = some (.string ⟨#[117]⟩) ∧ w1.heap.size < w'.heap.size) (fun _ h => h.1) _ _ _ _ ?_
    have hH2 := And.intro hHeld (And.intro (show ((w1.alloc (.cells #[.string ⟨#[102]⟩, .string ⟨#[117]⟩, .string ⟨#[114]⟩] 9)).drew).cell? ⟨w1.heap.size, 1, none⟩ = some (.string ⟨#[117]⟩) by simp [go_sem]) (show w1.heap.size < ((w1.alloc (.cells #[.string ⟨#[102]⟩, .string ⟨#[117]⟩, .string ⟨#[114]⟩] 9)).drew).heap.size by simp))
    clear hHeld
    have hHeld := hH2
    clear hH2
    refine wpAnyH_take (i := 13) (v := ?_) rfl (by kernel_rfl) (by kernel_rfl) (by kernel_rfl) (fun _ _ _ h => h) (Or.inl ⟨by rfl, ?_⟩) (by assumption) ?_
    rotate_left
    · intro w hSw
      go_simp
      try with_reducible rfl
    simp only [Act.put, List.getElem_toArray, List.getElem_cons_succ, List.getElem_cons_zero, List.setIfInBounds_toArray, List.set_cons_zero, List.set_cons_succ]
    refine wpAnyH_take (i := 14) (v := ?_) rfl (by kernel_rfl) (by kernel_rfl) (by kernel_rfl) (fun _ _ _ h => h) (Or.inl ⟨by rfl, ?_⟩) (by assumption) ?_
    rotate_left
    · intro w hSw
      go_simp
      try with_reducible rfl
    simp only [Act.put, List.getElem_toArray, List.getElem_cons_succ, List.getElem_cons_zero, List.setIfInBounds_toArray, List.set_cons_zero, List.set_cons_succ]
    refine wpAnyH_ready (rs := [2]) (by kernel_rfl) (by simp) ?_
    refine AllReadyH.cons rfl (fun K hK => ?_) AllReadyH.nil
    go_simp
    refine (digits_all _ _ (by omega) (by omega)).mono ?_
    rintro e w2 ⟨rfl, hbw2⟩
    refine hK.out _ _ ?_ (fun hHeld' => ?_)
    · exact lkeep hHeld hbw2
    clear hK K hHeld
    have hHeld := hHeld'
    clear hHeld'
    try simp only [Act.put, List.getElem_toArray, List.getElem_cons_succ, List.getElem_cons_zero, List.setIfInBounds_toArray, List.set_cons_zero, List.set_cons_succ]
    refine wpAnyH_take (i := 3) (v := ?_) rfl (by kernel_rfl) (by kernel_rfl) (by kernel_rfl) (fun _ _ _ h => h) (Or.inl ⟨by rfl, ?_⟩) (by assumption) ?_
    rotate_left
    · intro w hSw
      go_simp
      try with_reducible rfl
    simp only [Act.put, List.getElem_toArray, List.getElem_cons_succ, List.getElem_cons_zero, List.setIfInBounds_toArray, List.set_cons_zero, List.set_cons_succ]
    refine wpAnyH_ready (rs := [6]) (by kernel_rfl) (by simp) ?_
    refine AllReadyH.cons rfl (fun K hK => ?_) AllReadyH.nil
    go_simp
    refine (digits_all _ _ (by omega) (by omega)).mono ?_
    rintro e w3 ⟨rfl, hbw3⟩
    refine hK.out _ _ ?_ (fun hHeld' => ?_)
    · exact lkeep hHeld hbw3
    clear hK K hHeld
    have hHeld := hHeld'
    clear hHeld'
    try simp only [Act.put, List.getElem_toArray, List.getElem_cons_succ, List.getElem_cons_zero, List.setIfInBounds_toArray, List.set_cons_zero, List.set_cons_succ]
    refine wpAnyH_take (i := 7) (v := ?_) rfl (by kernel_rfl) (by kernel_rfl) (by kernel_rfl) (fun _ _ _ h => h) (Or.inl ⟨by rfl, ?_⟩) (by assumption) ?_
    rotate_left
    · intro w hSw
      go_simp
      try with_reducible rfl
    simp only [Act.put, List.getElem_toArray, List.getElem_cons_succ, List.getElem_cons_zero, List.setIfInBounds_toArray, List.set_cons_zero, List.set_cons_succ]
    refine wpAnyH_take (i := 8) (v := ?_) rfl (by kernel_rfl) (by kernel_rfl) (by kernel_rfl) (fun _ _ _ h => h) (Or.inl ⟨by rfl, ?_⟩) (by assumption) ?_
    rotate_left
    · intro w hSw
      go_simp
      try with_reducible rfl
    simp only [Act.put, List.getElem_toArray, List.getElem_cons_succ, List.getElem_cons_zero, List.setIfInBounds_toArray, List.set_cons_zero, List.set_cons_succ]
    refine wpAnyH_take (i := 15) (v := ?_) rfl (by kernel_rfl) (by kernel_rfl) (by kernel_rfl) (fun _ _ _ h => h) (Or.inl ⟨by rfl, ?_⟩) (by assumption) ?_
    rotate_left
    · intro w hSw
      go_simp
      try with_reducible rfl
    simp only [Act.put, List.getElem_toArray, List.getElem_cons_succ, List.getElem_cons_zero, List.setIfInBounds_toArray, List.set_cons_zero, List.set_cons_succ]
    refine wpAnyH_take (i := 16) (v := ?_) rfl (by kernel_rfl) (by kernel_rfl) (by kernel_rfl) (fun _ _ _ h => h) (Or.inl ⟨by rfl, ?_⟩) (by assumption) ?_
    rotate_left
    · intro w hSw
      go_simp
      try with_reducible rfl
    simp only [Act.put, List.getElem_toArray, List.getElem_cons_succ, List.getElem_cons_zero, List.setIfInBounds_toArray, List.set_cons_zero, List.set_cons_succ]
    refine wpAnyH_take (i := 17) (v := ?_) rfl (by kernel_rfl) (by kernel_rfl) (by kernel_rfl) (fun _ _ _ h => h) (Or.inl ⟨by rfl, ?_⟩) (by assumption) ?_
    rotate_left
    · intro w hSw
      go_simp
      try with_reducible rfl
    simp only [Act.put, List.getElem_toArray, List.getElem_cons_succ, List.getElem_cons_zero, List.setIfInBounds_toArray, List.set_cons_zero, List.set_cons_succ]
    refine wpAnyH_done (by kernel_rfl) ?_ _
    go_wp2
    go_ret2
    exact ⟨by rw [HF.out]; rfl, hHeld.1.2.2.2.1⟩
set_option maxHeartbeats 4000000 in
theorem refEffect_yes3 (a b : Int) (w : World) (hv : effOk a b 3) :
    Calls Tryz.prog 79 #[.agg #[.int .i64 a, .int .i64 b, .int .i64 3]] w fun e w' => e = .returned (.tuple #[.string ⟨(effText a b 3).toArray⟩, .int .i64 0]) ∧ Below w.heap.size w w' := by
  have hC := fun w => refCheckEffect_any a b 3 w
  rw [ckEff_yes hv] at hC
  obtain ⟨h1, h2, h3, h4, _, _⟩ := hv
  go_enter Tryz.func79, Tryz.ntmps79
  go_wp2_with fail
  refine (hC _).mono ?_
  rintro e w1 ⟨rfl, hb1⟩
  have c0 := hb1.cell (p := ⟨w.heap.size, 0, none⟩) (by simp)
  have c1 := hb1.cell (p := ⟨w.heap.size, 1, none⟩) (by simp)
  have c2 := hb1.cell (p := ⟨w.heap.size, 2, none⟩) (by simp)
  simp [go_sem] at c0 c1 c2
  have hbw := ((Below.refl w.heap.size w).alloc (Nat.le_refl _) _).trans (hb1.mono (by simp))
  have hsz : w.heap.size + 1 ≤ w1.heap.size := by have := hb1.size; simp at this; exact this
  clear hb1 hC
  have hw : IntKind.i64.wrap 2 = 2 := by decide
  have l1 := dgs_len (a := a) (by omega)
  have l2 := dgs_len (a := b) (by omega)
  obtain ⟨t1, e1, n1, s1⟩ := add_str (dgs a) ⟨#[47]⟩ (by simp [Lib.size_eq]; omega)
  obtain ⟨t2, e2, n2, s2⟩ := add_str t1 ⟨(dgs b).toArray⟩ (by simp [Lib.size_eq] at n1 ⊢; omega)
  obtain ⟨t3, e3, n3, s3⟩ := add_str t2 ⟨#[47]⟩ (by simp [Lib.size_eq] at n1 n2 ⊢; omega)
  obtain ⟨t4, e4, n4, s4⟩ := add_str t3 ⟨#[114]⟩ (by simp [Lib.size_eq] at n1 n2 n3 ⊢; omega)
  clear n1 n2 n3 n4
  have hfin : t4 = effText a b 3 := by rw [e4.out, e3.out, e2.out, e1.out]; simp [effText, phL]
  have HF := Lib.hid hfin
  clear hfin e1 e2 e3 e4
  go_wp2_with fail
  refine wp_region_held_drew (S := fun w' => w'.cell? ⟨w.heap.size, 0, none⟩ = some (.int .i64 a) ∧ w'.cell? ⟨w.heap.size, 1, none⟩ = some (.int .i64 b) ∧ w'.cell? ⟨w.heap.size, 2, none⟩ = some (.int .i64 3) ∧ Below w.heap.size w w' ∧ w.heap.size + 1 ≤ w'.heap.size ∧ w.heap.size ≤ w.heap.size) (by kernel_rfl) ⟨c0, c1, c2, hbw.drew, hsz, Nat.le_refl _⟩ (fun hHeld => ?_)
  clear c0 c1 c2 hbw hsz
  refine wpAnyH_take (i := 0) (v := ?_) rfl (by kernel_rfl) (by kernel_rfl) (by kernel_rfl) (fun _ _ _ h => h) (Or.inl ⟨by rfl, ?_⟩) (by assumption) ?_
  rotate_left
  · intro w hSw
    go_simp
    try with_reducible rfl
  simp only [Act.put, List.getElem_toArray, List.getElem_cons_zero, List.setIfInBounds_toArray, List.set_cons_zero, List.set_cons_succ]
  refine wpAnyH_take (i := 1) (v := ?_) rfl (by kernel_rfl) (by kernel_rfl) (by kernel_rfl) (fun _ _ _ h => h) (Or.inl ⟨by rfl, ?_⟩) (by assumption) ?_
  rotate_left
  · intro w hSw
    go_simp
    try with_reducible rfl
  simp only [Act.put, List.getElem_toArray, List.getElem_cons_succ, List.getElem_cons_zero, List.setIfInBounds_toArray, List.set_cons_zero, List.set_cons_succ]
  refine wpAnyH_take (i := 4) (v := ?_) rfl (by kernel_rfl) (by kernel_rfl) (by kernel_rfl) (fun _ _ _ h => h) (Or.inl ⟨by rfl, ?_⟩) (by assumption) ?_
  rotate_left
  · intro w hSw
    go_simp
    try with_reducible rfl
  simp only [Act.put, List.getElem_toArray, List.getElem_cons_succ, List.getElem_cons_zero, List.setIfInBounds_toArray, List.set_cons_zero, List.set_cons_succ]
  refine wpAnyH_take (i := 5) (v := ?_) rfl (by kernel_rfl) (by kernel_rfl) (by kernel_rfl) (fun _ _ _ h => h) (Or.inl ⟨by rfl, ?_⟩) (by assumption) ?_
  rotate_left
  · intro w hSw
    go_simp
    try with_reducible rfl
  simp only [Act.put, List.getElem_toArray, List.getElem_cons_succ, List.getElem_cons_zero, List.setIfInBounds_toArray, List.set_cons_zero, List.set_cons_succ]
  refine wpAnyH_take (i := 10) (v := ?_) rfl (by kernel_rfl) (by kernel_rfl) (by kernel_rfl) (fun _ _ _ h => h) (Or.inl ⟨by rfl, ?_⟩) (by assumption) ?_
  rotate_left
  · intro w hSw
    go_simp
    try with_reducible rfl
  simp only [Act.put, List.getElem_toArray, List.getElem_cons_succ, List.getElem_cons_zero, List.setIfInBounds_toArray, List.set_cons_zero, List.set_cons_succ]
  refine wpAnyH_take (i := 11) (v := ?_) rfl (by kernel_rfl) (by kernel_rfl) (by kernel_rfl) (fun _ _ _ h => h) (Or.inl ⟨by rfl, ?_⟩) (by assumption) ?_
  rotate_left
  · intro w hSw
    go_simp
    try with_reducible rfl
  simp only [Act.put, List.getElem_toArray, List.getElem_cons_succ, List.getElem_cons_zero, List.setIfInBounds_toArray, List.set_cons_zero, List.set_cons_succ]
  refine wpAnyH_take (i := 12) (v := ?_) rfl (by kernel_rfl) (by kernel_rfl) (by kernel_rfl) (fun _ _ _ h => h) (Or.inl ⟨by rfl, ?_⟩) (by assumption) ?_
  rotate_left
  · intro w hSw
    go_simp
    try with_reducible rfl
  simp only [Act.put, List.getElem_toArray, List.getElem_cons_succ, List.getElem_cons_zero, List.setIfInBounds_toArray, List.set_cons_zero, List.set_cons_succ]
  refine wpAnyH_ready (rs := [2, 9]) (by kernel_rfl) (by simp) ?_
  refine AllReadyH.cons rfl (fun K hK => ?_) (AllReadyH.cons rfl (fun K hK => ?_) AllReadyH.nil)
  · go_simp
    refine (digits_all _ _ (by omega) (by omega)).mono ?_
    rintro e w2 ⟨rfl, hbw2⟩
    refine hK.out _ _ ?_ (fun hHeld' => ?_)
    · exact rkeep3 hHeld hbw2
    clear hK K hHeld
    have hHeld := hHeld'
    clear hHeld'
    try simp only [Act.put, List.getElem_toArray, List.getElem_cons_succ, List.getElem_cons_zero, List.setIfInBounds_toArray, List.set_cons_zero, List.set_cons_succ]
    refine wpAnyH_take (i := 3) (v := ?_) rfl (by kernel_rfl) (by kernel_rfl) (by kernel_rfl) (fun _ _ _ h => h) (Or.inl ⟨by rfl, ?_⟩) (by assumption) ?_
    rotate_left
    · intro w hSw
      go_simp
      try with_reducible rfl
    simp only [Act.put, List.getElem_toArray, List.getElem_cons_succ, List.getElem_cons_zero, List.setIfInBounds_toArray, List.set_cons_zero, List.set_cons_succ]
    refine wpAnyH_ready (rs := [6, 9]) (by kernel_rfl) (by simp) ?_
    refine AllReadyH.cons rfl (fun K hK => ?_) (AllReadyH.cons rfl (fun K hK => ?_) AllReadyH.nil)
    · go_simp
      refine (digits_all _ _ (by omega) (by omega)).mono ?_
      rintro e w3 ⟨rfl, hbw3⟩
      refine hK.out _ _ ?_ (fun hHeld' => ?_)
      · exact rkeep3 hHeld hbw3
      clear hK K hHeld
      have hHeld := hHeld'
      clear hHeld'
      try simp only [Act.put, List.getElem_toArray, List.getElem_cons_succ, List.getElem_cons_zero, List.setIfInBounds_toArray, List.set_cons_zero, List.set_cons_succ]
      refine wpAnyH_take (i := 7) (v := ?_) rfl (by kernel_rfl) (by kernel_rfl) (by kernel_rfl) (fun _ _ _ h => h) (Or.inl ⟨by rfl, ?_⟩) (by assumption) ?_
      rotate_left
      · intro w hSw
        go_simp
        try with_reducible rfl
      simp only [Act.put, List.getElem_toArray, List.getElem_cons_succ, List.getElem_cons_zero, List.setIfInBounds_toArray, List.set_cons_zero, List.set_cons_succ]
      refine wpAnyH_take (i := 8) (v := ?_) rfl (by kernel_rfl) (by kernel_rfl) (by kernel_rfl) (fun _ _ _ h => h) (Or.inl ⟨by rfl, ?_⟩) (by assumption) ?_
      rotate_left
      · intro w hSw
        go_simp
        try with_reducible rfl
      simp only [Act.put, List.getElem_toArray, List.getElem_cons_succ, List.getElem_cons_zero, List.setIfInBounds_toArray, List.set_cons_zero, List.set_cons_succ]
      refine wpAnyH_ready (rs := [9]) (by kernel_rfl) (by simp) ?_
      refine AllReadyH.cons rfl (fun K hK => ?_) AllReadyH.nil
      go_simp
      refine hK.out _ _ ?_ (fun hHeld' => ?_)
      · exact rkeep3 hHeld ((Below.refl _ w3).alloc (Nat.le_refl _) _)
      clear hK K hHeld
      have hHeld := hHeld'
      clear hHeld'
      try simp only [Act.put, List.getElem_toArray, List.getElem_cons_succ, List.getElem_cons_zero, List.setIfInBounds_toArray, List.set_cons_zero, List.set_cons_succ]
      refine wpAnyH_switch (S' := fun w' => (w'.cell? ⟨w.heap.size, 0, none⟩ = some (.int .i64 a) ∧ w'.cell? ⟨w.heap.size, 1, none⟩ = some (.int .i64 b) ∧ w'.cell? ⟨w.heap.size, 2, none⟩ = some (.int .i64 3) ∧ Below w.heap.size w w' ∧ w.heap.size + 1 ≤ w'.heap.size ∧ w.heap.size ≤ w.heap.size) ∧ w'.cell? ⟨w3.heap.size, 2, none⟩ = some (.string ⟨#[114]⟩) ∧ w3.heap.size < w'.heap.size) (fun _ h => h.1) _ _ _ _ ?_
      have hH2 := And.intro hHeld (And.intro (show (w3.alloc (.cells #[.string ⟨#[102]⟩, .string ⟨#[117]⟩, .string ⟨#[114]⟩] 9)).cell? ⟨w3.heap.size, 2, none⟩ = some (.string ⟨#[114]⟩) by simp [go_sem]) (show w3.heap.size < (w3.alloc (.cells #[.string ⟨#[102]⟩, .string ⟨#[117]⟩, .string ⟨#[114]⟩] 9)).heap.size by simp))
      clear hHeld
      have hHeld := hH2
      clear hH2
      refine wpAnyH_take (i := 13) (v := ?_) rfl (by kernel_rfl) (by kernel_rfl) (by kernel_rfl) (fun _ _ _ h => h) (Or.inl ⟨by rfl, ?_⟩) (by assumption) ?_
      rotate_left
      · intro w hSw
        go_simp
        try with_reducible rfl
      simp only [Act.put, List.getElem_toArray, List.getElem_cons_succ, List.getElem_cons_zero, List.setIfInBounds_toArray, List.set_cons_zero, List.set_cons_succ]
      refine wpAnyH_take (i := 14) (v := ?_) rfl (by kernel_rfl) (by kernel_rfl) (by kernel_rfl) (fun _ _ _ h => h) (Or.inl ⟨by rfl, ?_⟩) (by assumption) ?_
      rotate_left
      · intro w hSw
        go_simp
        try with_reducible rfl
      simp only [Act.put, List.getElem_toArray, List.getElem_cons_succ, List.getElem_cons_zero, List.setIfInBounds_toArray, List.set_cons_zero, List.set_cons_succ]
      refine wpAnyH_take (i := 15) (v := ?_) rfl (by kernel_rfl) (by kernel_rfl) (by kernel_rfl) (fun _ _ _ h => h) (Or.inl ⟨by rfl, ?_⟩) (by assumption) ?_
      rotate_left
      · intro w hSw
        go_simp
        try with_reducible rfl
      simp only [Act.put, List.getElem_toArray, List.getElem_cons_succ, List.getElem_cons_zero, List.setIfInBounds_toArray, List.set_cons_zero, List.set_cons_succ]
      refine wpAnyH_take (i := 16) (v := ?_) rfl (by kernel_rfl) (by kernel_rfl) (by kernel_rfl) (fun _ _ _ h => h) (Or.inl ⟨by rfl, ?_⟩) (by assumption) ?_
      rotate_left
      · intro w hSw
        go_simp
        try with_reducible rfl
      simp only [Act.put, List.getElem_toArray, List.getElem_cons_succ, List.getElem_cons_zero, List.setIfInBounds_toArray, List.set_cons_zero, List.set_cons_succ]
      refine wpAnyH_take (i := 17) (v := ?_) rfl (by kernel_rfl) (by kernel_rfl) (by kernel_rfl) (fun _ _ _ h => h) (Or.inl ⟨by rfl, ?_⟩) (by assumption) ?_
      rotate_left
      · intro w hSw
        go_simp
        try with_reducible rfl
      simp only [Act.put, List.getElem_toArray, List.getElem_cons_succ, List.getElem_cons_zero, List.setIfInBounds_toArray, List.set_cons_zero, List.set_cons_succ]
      refine wpAnyH_done (by kernel_rfl) ?_ _
      go_wp2
      go_ret2
      exact ⟨by rw [HF.out]; rfl, hHeld.1.2.2.2.1⟩
    · go_simp
      refine hK.out _ _ ?_ (fun hHeld' => ?_)
      · exact rkeep3 hHeld ((Below.refl _ w2).alloc (Nat.le_refl _) _)
      clear hK K hHeld
      have hHeld := hHeld'
      clear hHeld'
      try simp only [Act.put, List.getElem_toArray, List.getElem_cons_succ, List.getElem_cons_zero, List.setIfInBounds_toArray, List.set_cons_zero, List.set_cons_succ]
      refine wpAnyH_switch (S' := fun w' => (w'.cell? ⟨w.heap.size, 0, none⟩ = some (.int .i64 a) ∧ w'.cell? ⟨w.heap.size, 1, none⟩ = some (.int .i64 b) ∧ w'.cell? ⟨w.heap.size, 2, none⟩ = some (.int .i64 3) ∧ Below w.heap.size w w' ∧ w.heap.size + 1 ≤ w'.heap.size ∧ w.heap.size ≤ w.heap.size) ∧ w'.cell? ⟨w2.heap.size, 2, none⟩ = some (.string ⟨#[114]⟩) ∧ w2.heap.size < w'.heap.size) (fun _ h => h.1) _ _ _ _ ?_
      have hH2 := And.intro hHeld (And.intro (show (w2.alloc (.cells #[.string ⟨#[102]⟩, .string ⟨#[117]⟩, .string ⟨#[114]⟩] 9)).cell? ⟨w2.heap.size, 2, none⟩ = some (.string ⟨#[114]⟩) by simp [go_sem]) (show w2.heap.size < (w2.alloc (.cells #[.string ⟨#[102]⟩, .string ⟨#[117]⟩, .string ⟨#[114]⟩] 9)).heap.size by simp))
      clear hHeld
      have hHeld := hH2
      clear hH2
      refine wpAnyH_take (i := 13) (v := ?_) rfl (by kernel_rfl) (by kernel_rfl) (by kernel_rfl) (fun _ _ _ h => h) (Or.inl ⟨by rfl, ?_⟩) (by assumption) ?_
      rotate_left
      · intro w hSw
        go_simp
        try with_reducible rfl
      simp only [Act.put, List.getElem_toArray, List.getElem_cons_succ, List.getElem_cons_zero, List.setIfInBounds_toArray, List.set_cons_zero, List.set_cons_succ]
      refine wpAnyH_take (i := 14) (v := ?_) rfl (by kernel_rfl) (by kernel_rfl) (by kernel_rfl) (fun _ _ _ h => h) (Or.inl ⟨by rfl, ?_⟩) (by assumption) ?_
      rotate_left
      · intro w hSw
        go_simp
        try with_reducible rfl
      simp only [Act.put, List.getElem_toArray, List.getElem_cons_succ, List.getElem_cons_zero, List.setIfInBounds_toArray, List.set_cons_zero, List.set_cons_succ]
      refine wpAnyH_ready (rs := [6]) (by kernel_rfl) (by simp) ?_
      refine AllReadyH.cons rfl (fun K hK => ?_) AllReadyH.nil
      go_simp
      refine (digits_all _ _ (by omega) (by omega)).mono ?_
      rintro e w3 ⟨rfl, hbw3⟩
      refine hK.out _ _ ?_ (fun hHeld' => ?_)
      · exact lkeep hHeld hbw3
      clear hK K hHeld
      have hHeld := hHeld'
      clear hHeld'
      try simp only [Act.put, List.getElem_toArray, List.getElem_cons_succ, List.getElem_cons_zero, List.setIfInBounds_toArray, List.set_cons_zero, List.set_cons_succ]
      refine wpAnyH_take (i := 7) (v := ?_) rfl (by kernel_rfl) (by kernel_rfl) (by kernel_rfl) (fun _ _ _ h => h) (Or.inl ⟨by rfl, ?_⟩) (by assumption) ?_
      rotate_left
      · intro w hSw
        go_simp
        try with_reducible rfl
      simp only [Act.put, List.getElem_toArray, List.getElem_cons_succ, List.getElem_cons_zero, List.setIfInBounds_toArray, List.set_cons_zero, List.set_cons_succ]
      refine wpAnyH_take (i := 8) (v := ?_) rfl (by kernel_rfl) (by kernel_rfl) (by kernel_rfl) (fun _ _ _ h => h) (Or.inl ⟨by rfl, ?_⟩) (by assumption) ?_
      rotate_left
      · intro w hSw
        go_simp
        try with_reducible rfl
      simp only [Act.put, List.getElem_toArray, List.getElem_cons_succ, List.getElem_cons_zero, List.setIfInBounds_toArray, List.set_cons_zero, List.set_cons_succ]
      refine wpAnyH_take (i := 15) (v := ?_) rfl (by kernel_rfl) (by kernel_rfl) (by kernel_rfl) (fun _ _ _ h => h) (Or.inl ⟨by rfl, ?_⟩) (by assumption) ?_
      rotate_left
      · intro w hSw
        go_simp
        try with_reducible rfl
      simp only [Act.put, List.getElem_toArray, List.getElem_cons_succ, List.getElem_cons_zero, List.setIfInBounds_toArray, List.set_cons_zero, List.set_cons_succ]
      refine wpAnyH_take (i := 16) (v := ?_) rfl (by kernel_rfl) (by kernel_rfl) (by kernel_rfl) (fun _ _ _ h => h) (Or.inl ⟨by rfl, ?_⟩) (by assumption) ?_
      rotate_left
      · intro w hSw
        go_simp
        try with_reducible rfl
      simp only [Act.put, List.getElem_toArray, List.getElem_cons_succ, List.getElem_cons_zero, List.setIfInBounds_toArray, List.set_cons_zero, List.set_cons_succ]
      refine wpAnyH_take (i := 17) (v := ?_) rfl (by kernel_rfl) (by kernel_rfl) (by kernel_rfl) (fun _ _ _ h => h) (Or.inl ⟨by rfl, ?_⟩) (by assumption) ?_
      rotate_left
      · intro w hSw
        go_simp
        try with_reducible rfl
      simp only [Act.put, List.getElem_toArray, List.getElem_cons_succ, List.getElem_cons_zero, List.setIfInBounds_toArray, List.set_cons_zero, List.set_cons_succ]
      refine wpAnyH_done (by kernel_rfl) ?_ _
      go_wp2
      go_ret2
      exact ⟨by rw [HF.out]; rfl, hHeld.1.2.2.2.1⟩
  · go_simp
    refine hK.out _ _ ?_ (fun hHeld' => ?_)
    · exact rkeep3 hHeld ((Below.refl _ w1.drew).alloc (Nat.le_refl _) _)
    clear hK K hHeld
    have hHeld := hHeld'
    clear hHeld'
    try simp only [Act.put, List.getElem_toArray, List.getElem_cons_succ, List.getElem_cons_zero, List.setIfInBounds_toArray, List.set_cons_zero, List.set_cons_succ]
    refine wpAnyH_switch (S' := fun w' => (w'.cell? ⟨w.heap.size, 0, none⟩ = some (.int .i64 a) ∧ w'.cell? ⟨w.heap.size, 1, none⟩ = some (.int .i64 b) ∧ w'.cell? ⟨w.heap.size, 2, none⟩ = some (.int .i64 3) ∧ Below w.heap.size w w' ∧ w.heap.size + 1 ≤ w'.heap.size ∧ w.heap.size ≤ w.heap.size) ∧ w'.cell? ⟨w1.heap.size, 2, none⟩ = some (.string ⟨#[114]⟩) ∧ w1.heap.size < w'.heap.size) (fun _ h => h.1) _ _ _ _ ?_
    have hH2 := And.intro hHeld (And.intro (show ((w1.alloc (.cells #[.string ⟨#[102]⟩, .string ⟨#[117]⟩, .string ⟨#[114]⟩] 9)).drew).cell? ⟨w1.heap.size, 2, none⟩ = some (.string ⟨#[114]⟩) by simp [go_sem]) (show w1.heap.size < ((w1.alloc (.cells #[.string ⟨#[102]⟩, .string ⟨#[117]⟩, .string ⟨#[114]⟩] 9)).drew).heap.size by simp))
    clear hHeld
    have hHeld := hH2
    clear hH2
    refine wpAnyH_take (i := 13) (v := ?_) rfl (by kernel_rfl) (by kernel_rfl) (by kernel_rfl) (fun _ _ _ h => h) (Or.inl ⟨by rfl, ?_⟩) (by assumption) ?_
    rotate_left
    · intro w hSw
      go_simp
      try with_reducible rfl
    simp only [Act.put, List.getElem_toArray, List.getElem_cons_succ, List.getElem_cons_zero, List.setIfInBounds_toArray, List.set_cons_zero, List.set_cons_succ]
    refine wpAnyH_take (i := 14) (v := ?_) rfl (by kernel_rfl) (by kernel_rfl) (by kernel_rfl) (fun _ _ _ h => h) (Or.inl ⟨by rfl, ?_⟩) (by assumption) ?_
    rotate_left
    · intro w hSw
      go_simp
      try with_reducible rfl
    simp only [Act.put, List.getElem_toArray, List.getElem_cons_succ, List.getElem_cons_zero, List.setIfInBounds_toArray, List.set_cons_zero, List.set_cons_succ]
    refine wpAnyH_ready (rs := [2]) (by kernel_rfl) (by simp) ?_
    refine AllReadyH.cons rfl (fun K hK => ?_) AllReadyH.nil
    go_simp
    refine (digits_all _ _ (by omega) (by omega)).mono ?_
    rintro e w2 ⟨rfl, hbw2⟩
    refine hK.out _ _ ?_ (fun hHeld' => ?_)
    · exact lkeep hHeld hbw2
    clear hK K hHeld
    have hHeld := hHeld'
    clear hHeld'
    try simp only [Act.put, List.getElem_toArray, List.getElem_cons_succ, List.getElem_cons_zero, List.setIfInBounds_toArray, List.set_cons_zero, List.set_cons_succ]
    refine wpAnyH_take (i := 3) (v := ?_) rfl (by kernel_rfl) (by kernel_rfl) (by kernel_rfl) (fun _ _ _ h => h) (Or.inl ⟨by rfl, ?_⟩) (by assumption) ?_
    rotate_left
    · intro w hSw
      go_simp
      try with_reducible rfl
    simp only [Act.put, List.getElem_toArray, List.getElem_cons_succ, List.getElem_cons_zero, List.setIfInBounds_toArray, List.set_cons_zero, List.set_cons_succ]
    refine wpAnyH_ready (rs := [6]) (by kernel_rfl) (by simp) ?_
    refine AllReadyH.cons rfl (fun K hK => ?_) AllReadyH.nil
    go_simp
    refine (digits_all _ _ (by omega) (by omega)).mono ?_
    rintro e w3 ⟨rfl, hbw3⟩
    refine hK.out _ _ ?_ (fun hHeld' => ?_)
    · exact lkeep hHeld hbw3
    clear hK K hHeld
    have hHeld := hHeld'
    clear hHeld'
    try simp only [Act.put, List.getElem_toArray, List.getElem_cons_succ, List.getElem_cons_zero, List.setIfInBounds_toArray, List.set_cons_zero, List.set_cons_succ]
    refine wpAnyH_take (i := 7) (v := ?_) rfl (by kernel_rfl) (by kernel_rfl) (by kernel_rfl) (fun _ _ _ h => h) (Or.inl ⟨by rfl, ?_⟩) (by assumption) ?_
    rotate_left
    · intro w hSw
      go_simp
      try with_reducible rfl
    simp only [Act.put, List.getElem_toArray, List.getElem_cons_succ, List.getElem_cons_zero, List.setIfInBounds_toArray, List.set_cons_zero, List.set_cons_succ]
    refine wpAnyH_take (i := 8) (v := ?_) rfl (by kernel_rfl) (by kernel_rfl) (by kernel_rfl) (fun _ _ _ h => h) (Or.inl ⟨by rfl, ?_⟩) (by assumption) ?_
    rotate_left
    · intro w hSw
      go_simp
      try with_reducible rfl
    simp only [Act.put, List.getElem_toArray, List.getElem_cons_succ, List.getElem_cons_zero, List.setIfInBounds_toArray, List.set_cons_zero, List.set_cons_succ]
    refine wpAnyH_take (i := 15) (v := ?_) rfl (by kernel_rfl) (by kernel_rfl) (by kernel_rfl) (fun _ _ _ h => h) (Or.inl ⟨by rfl, ?_⟩) (by assumption) ?_
    rotate_left
    · intro w hSw
      go_simp
      try with_reducible rfl
    simp only [Act.put, List.getElem_toArray, List.getElem_cons_succ, List.getElem_cons_zero, List.setIfInBounds_toArray, List.set_cons_zero, List.set_cons_succ]
    refine wpAnyH_take (i := 16) (v := ?_) rfl (by kernel_rfl) (by kernel_rfl) (by kernel_rfl) (fun _ _ _ h => h) (Or.inl ⟨by rfl, ?_⟩) (by assumption) ?_
    rotate_left
    · intro w hSw
      go_simp
      try with_reducible rfl
    simp only [Act.put, List.getElem_toArray, List.getElem_cons_succ, List.getElem_cons_zero, List.setIfInBounds_toArray, List.set_cons_zero, List.set_cons_succ]
    refine wpAnyH_take (i := 17) (v := ?_) rfl (by kernel_rfl) (by kernel_rfl) (by kernel_rfl) (fun _ _ _ h => h) (Or.inl ⟨by rfl, ?_⟩) (by assumption) ?_
    rotate_left
    · intro w hSw
      go_simp
      try with_reducible rfl
    simp only [Act.put, List.getElem_toArray, List.getElem_cons_succ, List.getElem_cons_zero, List.setIfInBounds_toArray, List.set_cons_zero, List.set_cons_succ]
    refine wpAnyH_done (by kernel_rfl) ?_ _
    go_wp2
    go_ret2
    exact ⟨by rw [HF.out]; rfl, hHeld.1.2.2.2.1⟩
theorem refEffect_yes (a b c : Int) (w : World) (hv : effOk a b c) :
    Calls Tryz.prog 79 #[.agg #[.int .i64 a, .int .i64 b, .int .i64 c]] w fun e w' => e = .returned (.tuple #[.string ⟨(effText a b c).toArray⟩, .int .i64 0]) ∧ Below w.heap.size w w' := by
  obtain rfl | rfl | rfl : c = 1 ∨ c = 2 ∨ c = 3 := by have := hv.2.2.2.2; omega
  · exact refEffect_yes1 a b w hv
  · exact refEffect_yes2 a b w hv
  · exact refEffect_yes3 a b w hv
end
section
open Go.RowKit

abbrev I6 (a b c m : Int) (i : Bool) (g : Int) : Value := .agg #[.int .i64 a, .int .i64 b, .int .i64 c, .int .i64 m, .bool i, .int .i64 g]

theorem six {w w1 : World} {B t : Nat} {a b c m : Int} {i : Bool} {g : Int} (hB : w.heap.size = B) (hb : Below (w.alloc (.cells #[.int .i64 a, .int .i64 b, .int .i64 c, .int .i64 m, .bool i, .int .i64 g] t)).heap.size (w.alloc (.cells #[.int .i64 a, .int .i64 b, .int .i64 c, .int .i64 m, .bool i, .int .i64 g] t)) w1) :
    w1.cell? ⟨B, 0, none⟩ = some (.int .i64 a) ∧ w1.cell? ⟨B, 1, none⟩ = some (.int .i64 b) ∧ w1.cell? ⟨B, 2, none⟩ = some (.int .i64 c) ∧ w1.cell? ⟨B, 3, none⟩ = some (.int .i64 m) ∧ w1.cell? ⟨B, 4, none⟩ = some (.bool i) ∧ w1.cell? ⟨B, 5, none⟩ = some (.int .i64 g) ∧
      Below w.heap.size w w1 ∧ w.heap.size + 1 ≤ w1.heap.size := by
  subst hB
  have h : ∀ j, w1.cell? ⟨w.heap.size, j, none⟩ = (w.alloc (.cells #[.int .i64 a, .int .i64 b, .int .i64 c, .int .i64 m, .bool i, .int .i64 g] t)).cell? ⟨w.heap.size, j, none⟩ := fun j => hb.cell (by simp)
  refine ⟨by rw [h]; simp [go_sem], by rw [h]; simp [go_sem], by rw [h]; simp [go_sem], by rw [h]; simp [go_sem], by rw [h]; simp [go_sem], by rw [h]; simp [go_sem], ((Below.refl _ _).alloc (Nat.le_refl _) _).trans (hb.mono (by simp)), by have := hb.size; simp at this; exact this⟩

set_option maxHeartbeats 800000 in
theorem item_no (a b c m : Int) (i : Bool) (g : Int) (w : World) (hv : ¬ itemOk a b c m i g) :
    Calls Tryz.prog 45 #[.agg #[.int .i64 a, .int .i64 b, .int .i64 c, .int .i64 m, .bool i, .int .i64 g]] w fun e w' => e = .returned (.tuple #[.string ⟨#[]⟩, .int .i64 2]) ∧ Below w.heap.size w w' := by
  have hC := fun w => checkItem_any a b c m i g w
  rw [ckItem_no hv] at hC
  clear hv
  go_enter Tryz.func45, Tryz.ntmps45
  go_wp2_with fail
  refine (hC _).mono ?_
  rintro e w1 ⟨rfl, hb1⟩
  go_wp2
  go_ret2
  exact ⟨rfl, ((Below.refl _ _).alloc (Nat.le_refl _) _).trans (hb1.mono (by simp))⟩

theorem ikeep {w wc w2 : World} {B n : Nat} {x0 x1 x2 x3 x4 x5 : Value} (hH : wc.cell? ⟨B, 0, none⟩ = some x0 ∧ wc.cell? ⟨B, 1, none⟩ = some x1 ∧ wc.cell? ⟨B, 2, none⟩ = some x2 ∧ wc.cell? ⟨B, 3, none⟩ = some x3 ∧ wc.cell? ⟨B, 4, none⟩ = some x4 ∧ wc.cell? ⟨B, 5, none⟩ = some x5 ∧ Pow wc ∧ Below n w wc ∧ B + 1 ≤ wc.heap.size ∧ n ≤ B)
    (hb : Below wc.heap.size wc w2) : w2.cell? ⟨B, 0, none⟩ = some x0 ∧ w2.cell? ⟨B, 1, none⟩ = some x1 ∧ w2.cell? ⟨B, 2, none⟩ = some x2 ∧ w2.cell? ⟨B, 3, none⟩ = some x3 ∧ w2.cell? ⟨B, 4, none⟩ = some x4 ∧ w2.cell? ⟨B, 5, none⟩ = some x5 ∧ Pow w2 ∧ Below n w w2 ∧ B + 1 ≤ w2.heap.size ∧ n ≤ B := by
  obtain ⟨h0, h1, h2, h3, h4, h5, h6, h7, h8, h9⟩ := hH
  exact ⟨(hb.cell (by simp; omega)).trans h0, (hb.cell (by simp; omega)).trans h1, (hb.cell (by simp; omega)).trans h2, (hb.cell (by simp; omega)).trans h3, (hb.cell (by simp; omega)).trans h4, (hb.cell (by simp; omega)).trans h5, h6.below hb, h7.trans (hb.mono (by omega)), Nat.le_trans h8 hb.size, h9⟩
theorem ipow {w wc : World} {B n : Nat} {x0 x1 x2 x3 x4 x5 : Value} (hH : wc.cell? ⟨B, 0, none⟩ = some x0 ∧ wc.cell? ⟨B, 1, none⟩ = some x1 ∧ wc.cell? ⟨B, 2, none⟩ = some x2 ∧ wc.cell? ⟨B, 3, none⟩ = some x3 ∧ wc.cell? ⟨B, 4, none⟩ = some x4 ∧ wc.cell? ⟨B, 5, none⟩ = some x5 ∧ Pow wc ∧ Below n w wc ∧ B + 1 ≤ wc.heap.size ∧ n ≤ B) : Pow wc := hH.2.2.2.2.2.2.1
theorem ibelow {w wc : World} {B n : Nat} {x0 x1 x2 x3 x4 x5 : Value} (hH : wc.cell? ⟨B, 0, none⟩ = some x0 ∧ wc.cell? ⟨B, 1, none⟩ = some x1 ∧ wc.cell? ⟨B, 2, none⟩ = some x2 ∧ wc.cell? ⟨B, 3, none⟩ = some x3 ∧ wc.cell? ⟨B, 4, none⟩ = some x4 ∧ wc.cell? ⟨B, 5, none⟩ = some x5 ∧ Pow wc ∧ Below n w wc ∧ B + 1 ≤ wc.heap.size ∧ n ≤ B) : Below n w wc := hH.2.2.2.2.2.2.2.1

theorem wayL_len (i : Bool) : (wayL i).length ≤ 4 := by cases i <;> decide

set_option maxHeartbeats 4000000 in
theorem item_move (m : Int) (i : Bool) (g : Int) (w : World) (hp : Pow w) (hm1 : 1 ≤ m) (hm2 : m ≤ 64) (hg1 : 1 ≤ g) (hg2 : g ≤ 7) :
    Calls Tryz.prog 45 #[.agg #[.int .i64 0, .int .i64 0, .int .i64 0, .int .i64 m, .bool i, .int .i64 g]] w fun e w' => e = .returned (.tuple #[.string ⟨(itemText 0 0 0 m i g).toArray⟩, .int .i64 0]) ∧ Below w.heap.size w w' := by
  have hC := fun w => checkItem_any 0 0 0 m i g w
  rw [ckItem_yes (a := 0) (b := 0) (c := 0) (m := m) (i := i) (g := g) ⟨⟨hg1, hg2⟩, .inr ⟨hm1, hm2, rfl, rfl, rfl⟩⟩] at hC
  have hm0 : ¬ m = 0 := by omega
  have hmb : ((m : Int) == 0) = false := by simp; omega
  have l1 := dgs_len (a := m) (by omega)
  have l2 := dgs_len (a := g) (by omega)
  have l3 := wayL_len i
  obtain ⟨t1, e1, n1, s1⟩ := add_str [109] ⟨(dgs m).toArray⟩ (by simp [Lib.size_eq]; omega)
  obtain ⟨t2, e2, n2, s2⟩ := add_str t1 ⟨(wayL i).toArray⟩ (by simp [Lib.size_eq] at n1 ⊢; omega)
  obtain ⟨t3, e3, n3, s3⟩ := add_str t2 ⟨#[64]⟩ (by simp [Lib.size_eq] at n1 n2 ⊢; omega)
  obtain ⟨t4, e4, n4, s4⟩ := add_str t3 ⟨(dgs g).toArray⟩ (by simp [Lib.size_eq] at n1 n2 n3 ⊢; omega)
  clear n1 n2 n3 n4 l1 l2 l3
  have hfin : t4 = itemText 0 0 0 m i g := by rw [e4.out, e3.out, e2.out, e1.out]; simp [itemText, hm0]
  have HF := Lib.hid hfin
  clear hfin e1 e2 e3 e4 hm0
  go_enter Tryz.func45, Tryz.ntmps45
  go_wp2_with fail
  refine (hC _).mono ?_
  rintro e w1 ⟨rfl, hb1⟩
  obtain ⟨c0, c1, c2, c3, c4, c5, hbw, hsz⟩ := six rfl hb1
  have hp1 := hp.below hbw
  clear hb1 hC
  go_wp2_with fail
  go_region_held3 (fun w' => w'.cell? ⟨w.heap.size, 0, none⟩ = some (.int .i64 0) ∧ w'.cell? ⟨w.heap.size, 1, none⟩ = some (.int .i64 0) ∧ w'.cell? ⟨w.heap.size, 2, none⟩ = some (.int .i64 0) ∧ w'.cell? ⟨w.heap.size, 3, none⟩ = some (.int .i64 m) ∧ w'.cell? ⟨w.heap.size, 4, none⟩ = some (.bool i) ∧ w'.cell? ⟨w.heap.size, 5, none⟩ = some (.int .i64 g) ∧ Pow w' ∧ Below w.heap.size w w' ∧ w.heap.size + 1 ≤ w'.heap.size ∧ w.heap.size ≤ w.heap.size)
    (first | exact ⟨c0, c1, c2, c3, c4, c5, hp1.drew, hbw.drew, hsz, Nat.le_refl _⟩ | (refine ikeep ?_ hb2; assumption) | assumption)
    (first | (go_at_call 97; refine (itoa_any _ (by omega) (by omega) _ ?_).mono ?_; (apply ipow; assumption); rintro e w2 ⟨rfl, hb2⟩) | (go_at_call 99; refine (way_any _ _).mono ?_; rintro e w2 ⟨rfl, rfl⟩))
  have hS : w2.cell? ⟨w.heap.size, 0, none⟩ = some (.int .i64 0) ∧ w2.cell? ⟨w.heap.size, 1, none⟩ = some (.int .i64 0) ∧ w2.cell? ⟨w.heap.size, 2, none⟩ = some (.int .i64 0) ∧ w2.cell? ⟨w.heap.size, 3, none⟩ = some (.int .i64 m) ∧ w2.cell? ⟨w.heap.size, 4, none⟩ = some (.bool i) ∧ w2.cell? ⟨w.heap.size, 5, none⟩ = some (.int .i64 g) ∧ Pow w2 ∧ Below w.heap.size w w2 ∧ w.heap.size + 1 ≤ w2.heap.size ∧ w.heap.size ≤ w.heap.size := by assumption
  have hp2 := ipow hS
  have hbw2 := ibelow hS
  obtain ⟨d0, d1, d2, d3, d4, d5, _, _, hsz2, _⟩ := hS
  go_wp2_with fail
  refine (itoa_any _ (by omega) (by omega) _ hp2).mono ?_
  rintro e w3 ⟨rfl, hb3⟩
  go_wp2_with fail
  go_ret2
  exact ⟨by rw [HF.out]; rfl, hbw2.trans (hb3.mono (by omega))⟩

set_option maxHeartbeats 4000000 in
theorem item_eff (a b c g : Int) (w : World) (hp : Pow w) (hv : effOk a b c) (hg1 : 1 ≤ g) (hg2 : g ≤ 7) :
    Calls Tryz.prog 45 #[.agg #[.int .i64 a, .int .i64 b, .int .i64 c, .int .i64 0, .bool false, .int .i64 g]] w fun e w' => e = .returned (.tuple #[.string ⟨(itemText a b c 0 false g).toArray⟩, .int .i64 0]) ∧ Below w.heap.size w w' := by
  have hC := fun w => checkItem_any a b c 0 false g w
  rw [ckItem_eff hg1 hg2, ckEff_yes hv] at hC
  have l1 := dgs_len (a := 0) (by omega)
  have l2 := dgs_len (a := g) (by omega)
  have l3 := wayL_len false
  have l4 : (effText a b c).length ≤ 20 := by
    have h1 := dgs_len (a := a) (by have := hv.2.1; omega)
    have h2 := dgs_len (a := b) (by have := hv.2.2.2.1; omega)
    simp [effText]; omega
  obtain ⟨t1, e1, n1, s1⟩ := add_str [109] ⟨(dgs 0).toArray⟩ (by simp [Lib.size_eq]; omega)
  obtain ⟨t2, e2, n2, s2⟩ := add_str t1 ⟨(wayL false).toArray⟩ (by simp [Lib.size_eq] at n1 ⊢; omega)
  obtain ⟨t3, e3, n3, s3⟩ := add_str (effText a b c) ⟨#[64]⟩ (by simp [Lib.size_eq]; omega)
  obtain ⟨t4, e4, n4, s4⟩ := add_str t3 ⟨(dgs g).toArray⟩ (by simp [Lib.size_eq] at n3 ⊢; omega)
  clear n1 n2 n3 n4 l1 l2 l3 l4
  have hfin : t4 = itemText a b c 0 false g := by rw [e4.out, e3.out]; simp [itemText]
  have HF := Lib.hid hfin
  clear hfin e1 e2 e3 e4
  have HV := Lib.hid hv
  clear hv
  go_enter Tryz.func45, Tryz.ntmps45
  go_wp2_with fail
  refine (hC _).mono ?_
  rintro e w1 ⟨rfl, hb1⟩
  obtain ⟨c0, c1, c2, c3, c4, c5, hbw, hsz⟩ := six rfl hb1
  have hp1 := hp.below hbw
  clear hb1 hC
  go_wp2_with fail
  go_region_held3 (fun w' => w'.cell? ⟨w.heap.size, 0, none⟩ = some (.int .i64 a) ∧ w'.cell? ⟨w.heap.size, 1, none⟩ = some (.int .i64 b) ∧ w'.cell? ⟨w.heap.size, 2, none⟩ = some (.int .i64 c) ∧ w'.cell? ⟨w.heap.size, 3, none⟩ = some (.int .i64 0) ∧ w'.cell? ⟨w.heap.size, 4, none⟩ = some (.bool false) ∧ w'.cell? ⟨w.heap.size, 5, none⟩ = some (.int .i64 g) ∧ Pow w' ∧ Below w.heap.size w w' ∧ w.heap.size + 1 ≤ w'.heap.size ∧ w.heap.size ≤ w.heap.size)
    (first | exact ⟨c0, c1, c2, c3, c4, c5, hp1.drew, hbw.drew, hsz, Nat.le_refl _⟩ | (refine ikeep ?_ hb2; assumption) | assumption)
    (first | (go_at_call 97; refine (itoa_any _ (by omega) (by omega) _ ?_).mono ?_; (apply ipow; assumption); rintro e w2 ⟨rfl, hb2⟩) | (go_at_call 99; refine (way_any _ _).mono ?_; rintro e w2 ⟨rfl, rfl⟩))
  have hS : w2.cell? ⟨w.heap.size, 0, none⟩ = some (.int .i64 a) ∧ w2.cell? ⟨w.heap.size, 1, none⟩ = some (.int .i64 b) ∧ w2.cell? ⟨w.heap.size, 2, none⟩ = some (.int .i64 c) ∧ w2.cell? ⟨w.heap.size, 3, none⟩ = some (.int .i64 0) ∧ w2.cell? ⟨w.heap.size, 4, none⟩ = some (.bool false) ∧ w2.cell? ⟨w.heap.size, 5, none⟩ = some (.int .i64 g) ∧ Pow w2 ∧ Below w.heap.size w w2 ∧ w.heap.size + 1 ≤ w2.heap.size ∧ w.heap.size ≤ w.heap.size := by assumption
  have hp2 := ipow hS
  have hbw2 := ibelow hS
  obtain ⟨d0, d1, d2, d3, d4, d5, _, _, hsz2, _⟩ := hS
  go_wp2_with fail
  refine (effect_yes _ _ _ _ hp2 HV.out).mono ?_
  rintro e w3 ⟨rfl, hb3⟩
  have f5 := (hb3.cell (p := ⟨w.heap.size, 5, none⟩) (by simp; omega)).trans d5
  have hp3 := hp2.below hb3
  go_wp2_with fail
  refine (itoa_any _ (by omega) (by omega) _ hp3).mono ?_
  rintro e w4 ⟨rfl, hb4⟩
  go_wp2_with fail
  go_ret2
  exact ⟨by rw [HF.out]; rfl, (hbw2.trans (hb3.mono (by omega))).trans (hb4.mono (by have := hb3.size; omega))⟩
end
section
open Go.RowKit

set_option maxHeartbeats 800000 in
theorem refItem_no (a b c m : Int) (i : Bool) (g : Int) (w : World) (hv : ¬ itemOk a b c m i g) :
    Calls Tryz.prog 83 #[.agg #[.int .i64 a, .int .i64 b, .int .i64 c, .int .i64 m, .bool i, .int .i64 g]] w fun e w' => e = .returned (.tuple #[.string ⟨#[]⟩, .int .i64 2]) ∧ Below w.heap.size w w' := by
  have hC := fun w => refCheckItem_any a b c m i g w
  rw [ckItem_no hv] at hC
  clear hv
  go_enter Tryz.func83, Tryz.ntmps83
  go_wp2_with fail
  refine (hC _).mono ?_
  rintro e w1 ⟨rfl, hb1⟩
  go_wp2
  go_ret2
  exact ⟨rfl, ((Below.refl _ _).alloc (Nat.le_refl _) _).trans (hb1.mono (by simp))⟩

theorem six' {w1 w2 : World} {B : Nat} {x0 x1 x2 x3 x4 x5 : Value} (hsz : B + 1 ≤ w1.heap.size) (hb : Below w1.heap.size w1 w2)
    (c0 : w1.cell? ⟨B, 0, none⟩ = some x0) (c1 : w1.cell? ⟨B, 1, none⟩ = some x1) (c2 : w1.cell? ⟨B, 2, none⟩ = some x2) (c3 : w1.cell? ⟨B, 3, none⟩ = some x3) (c4 : w1.cell? ⟨B, 4, none⟩ = some x4) (c5 : w1.cell? ⟨B, 5, none⟩ = some x5) :
    w2.cell? ⟨B, 0, none⟩ = some x0 ∧ w2.cell? ⟨B, 1, none⟩ = some x1 ∧ w2.cell? ⟨B, 2, none⟩ = some x2 ∧ w2.cell? ⟨B, 3, none⟩ = some x3 ∧ w2.cell? ⟨B, 4, none⟩ = some x4 ∧ w2.cell? ⟨B, 5, none⟩ = some x5 :=
  ⟨(hb.cell (by simp; omega)).trans c0, (hb.cell (by simp; omega)).trans c1, (hb.cell (by simp; omega)).trans c2, (hb.cell (by simp; omega)).trans c3, (hb.cell (by simp; omega)).trans c4, (hb.cell (by simp; omega)).trans c5⟩

set_option maxHeartbeats 2000000 in
theorem refItem_eff (a b c g : Int) (w : World) (hv : effOk a b c) (hg1 : 1 ≤ g) (hg2 : g ≤ 7) :
    Calls Tryz.prog 83 #[.agg #[.int .i64 a, .int .i64 b, .int .i64 c, .int .i64 0, .bool false, .int .i64 g]] w fun e w' => e = .returned (.tuple #[.string ⟨(itemText a b c 0 false g).toArray⟩, .int .i64 0]) ∧ Below w.heap.size w w' := by
  have hC := fun w => refCheckItem_any a b c 0 false g w
  rw [ckItem_eff hg1 hg2, ckEff_yes hv] at hC
  have l2 := dgs_len (a := g) (by omega)
  have l4 : (effText a b c).length ≤ 20 := by
    have h1 := dgs_len (a := a) (by have := hv.2.1; omega)
    have h2 := dgs_len (a := b) (by have := hv.2.2.2.1; omega)
    simp [effText]; omega
  obtain ⟨t3, e3, n3, s3⟩ := add_str (effText a b c) ⟨#[64]⟩ (by simp [Lib.size_eq]; omega)
  obtain ⟨t4, e4, n4, s4⟩ := add_str t3 ⟨(dgs g).toArray⟩ (by simp [Lib.size_eq] at n3 ⊢; omega)
  clear n3 n4 l2 l4
  have hfin : t4 = itemText a b c 0 false g := by rw [e4.out, e3.out]; simp [itemText]
  have HF := Lib.hid hfin
  clear hfin e3 e4
  have HV := Lib.hid hv
  clear hv
  go_enter Tryz.func83, Tryz.ntmps83
  go_wp2_with fail
  refine (hC _).mono ?_
  rintro e w1 ⟨rfl, hb1⟩
  obtain ⟨c0, c1, c2, c3, c4, c5, hbw, hsz⟩ := six rfl hb1
  clear hb1 hC
  go_wp2_with fail
  refine (refEffect_yes _ _ _ _ HV.out).mono ?_
  rintro e w2 ⟨rfl, hb2⟩
  obtain ⟨d0, d1, d2, d3, d4, d5⟩ := six' hsz hb2 c0 c1 c2 c3 c4 c5
  go_wp2_with fail
  refine (digits_all _ _ (by omega) (by omega)).mono ?_
  rintro e w3 ⟨rfl, hb3⟩
  go_wp2_with fail
  go_ret2
  exact ⟨by rw [HF.out]; rfl, (hbw.trans (hb2.mono (by omega))).trans (hb3.mono (by have := hb2.size; omega))⟩

set_option maxHeartbeats 2000000 in
theorem refItem_move_no (m : Int) (g : Int) (w : World) (hm1 : 1 ≤ m) (hm2 : m ≤ 64) (hg1 : 1 ≤ g) (hg2 : g ≤ 7) :
    Calls Tryz.prog 83 #[.agg #[.int .i64 0, .int .i64 0, .int .i64 0, .int .i64 m, .bool false, .int .i64 g]] w fun e w' => e = .returned (.tuple #[.string ⟨(itemText 0 0 0 m false g).toArray⟩, .int .i64 0]) ∧ Below w.heap.size w w' := by
  have hC := fun w => refCheckItem_any 0 0 0 m false g w
  rw [ckItem_yes (a := 0) (b := 0) (c := 0) (m := m) (i := false) (g := g) ⟨⟨hg1, hg2⟩, .inr ⟨hm1, hm2, rfl, rfl, rfl⟩⟩] at hC
  have hm0 : ¬ m = 0 := by omega
  have hmb : ((m : Int) == 0) = false := by simp; omega
  have l1 := dgs_len (a := m) (by omega)
  have l2 := dgs_len (a := g) (by omega)
  obtain ⟨t1, e1, n1, s1⟩ := add_str [109] ⟨(dgs m).toArray⟩ (by simp [Lib.size_eq]; omega)
  obtain ⟨t2, e2, n2, s2⟩ := add_str t1 ⟨(wayL false).toArray⟩ (by simp [Lib.size_eq, wayL] at n1 ⊢; omega)
  obtain ⟨t3, e3, n3, s3⟩ := add_str t2 ⟨#[64]⟩ (by simp [Lib.size_eq, wayL] at n1 n2 ⊢; omega)
  obtain ⟨t4, e4, n4, s4⟩ := add_str t3 ⟨(dgs g).toArray⟩ (by simp [Lib.size_eq, wayL] at n1 n2 n3 ⊢; omega)
  clear n1 n2 n3 n4 l1 l2
  have hfin : t4 = itemText 0 0 0 m false g := by rw [e4.out, e3.out, e2.out, e1.out]; simp [itemText, hm0]
  have HF := Lib.hid hfin
  clear hfin e1 e2 e3 e4 hm0
  simp only [wayL, if_false, Bool.false_eq_true] at s2
  go_enter Tryz.func83, Tryz.ntmps83
  go_wp2_with fail
  refine (hC _).mono ?_
  rintro e w1 ⟨rfl, hb1⟩
  obtain ⟨c0, c1, c2, c3, c4, c5, hbw, hsz⟩ := six rfl hb1
  clear hb1 hC
  go_wp2_with fail
  refine (refEffect_no _ _ _ _ (by decide)).mono ?_
  rintro e w2 ⟨rfl, hb2⟩
  obtain ⟨d0, d1, d2, d3, d4, d5⟩ := six' hsz hb2 c0 c1 c2 c3 c4 c5
  have hsz2 : w.heap.size + 1 ≤ w2.heap.size := Nat.le_trans hsz hb2.size
  have hbw2 := hbw.trans (hb2.mono (by omega))
  clear c0 c1 c2 c3 c4 c5 hb2
  go_wp2_with fail
  refine (digits_all _ _ (by omega) (by omega)).mono ?_
  rintro e w3 ⟨rfl, hb3⟩
  obtain ⟨f0, f1, f2, f3, f4, f5⟩ := six' hsz2 hb3 d0 d1 d2 d3 d4 d5
  have hsz3 : w.heap.size + 1 ≤ w3.heap.size := Nat.le_trans hsz2 hb3.size
  have hbw3 := hbw2.trans (hb3.mono (by omega))
  clear d0 d1 d2 d3 d4 d5 hb3
  go_wp2_with fail
  refine (digits_all _ _ (by omega) (by omega)).mono ?_
  rintro e w4 ⟨rfl, hb4⟩
  obtain ⟨g0, g1, g2, g3, g4, g5⟩ := six' hsz3 hb4 f0 f1 f2 f3 f4 f5
  go_wp2_with fail
  go_ret2
  exact ⟨by rw [HF.out]; rfl, hbw3.trans (hb4.mono (by omega))⟩
set_option maxHeartbeats 2000000 in
theorem refItem_move_yes (m : Int) (g : Int) (w : World) (hm1 : 1 ≤ m) (hm2 : m ≤ 64) (hg1 : 1 ≤ g) (hg2 : g ≤ 7) :
    Calls Tryz.prog 83 #[.agg #[.int .i64 0, .int .i64 0, .int .i64 0, .int .i64 m, .bool true, .int .i64 g]] w fun e w' => e = .returned (.tuple #[.string ⟨(itemText 0 0 0 m true g).toArray⟩, .int .i64 0]) ∧ Below w.heap.size w w' := by
  have hC := fun w => refCheckItem_any 0 0 0 m true g w
  rw [ckItem_yes (a := 0) (b := 0) (c := 0) (m := m) (i := true) (g := g) ⟨⟨hg1, hg2⟩, .inr ⟨hm1, hm2, rfl, rfl, rfl⟩⟩] at hC
  have hm0 : ¬ m = 0 := by omega
  have hmb : ((m : Int) == 0) = false := by simp; omega
  have l1 := dgs_len (a := m) (by omega)
  have l2 := dgs_len (a := g) (by omega)
  obtain ⟨t1, e1, n1, s1⟩ := add_str [109] ⟨(dgs m).toArray⟩ (by simp [Lib.size_eq]; omega)
  obtain ⟨t0, e0, n0, s0⟩ := add_str t1 ⟨#[47, 111, 117, 116]⟩ (by simp [Lib.size_eq] at n1 ⊢; omega)
  obtain ⟨t2, e2, n2, s2⟩ := add_str t1 ⟨(wayL true).toArray⟩ (by simp [Lib.size_eq, wayL] at n1 ⊢; omega)
  obtain ⟨t3, e3, n3, s3⟩ := add_str t2 ⟨#[64]⟩ (by simp [Lib.size_eq, wayL] at n1 n2 ⊢; omega)
  obtain ⟨t4, e4, n4, s4⟩ := add_str t3 ⟨(dgs g).toArray⟩ (by simp [Lib.size_eq, wayL] at n1 n2 n3 ⊢; omega)
  clear n0 n1 n2 n3 n4 l1 l2
  have hfin : t4 = itemText 0 0 0 m true g := by rw [e4.out, e3.out, e2.out, e1.out]; simp [itemText, hm0]
  have HF := Lib.hid hfin
  clear hfin e0 e1 e2 e3 e4 hm0
  simp only [wayL, if_true] at s2
  go_enter Tryz.func83, Tryz.ntmps83
  go_wp2_with fail
  refine (hC _).mono ?_
  rintro e w1 ⟨rfl, hb1⟩
  obtain ⟨c0, c1, c2, c3, c4, c5, hbw, hsz⟩ := six rfl hb1
  clear hb1 hC
  go_wp2_with fail
  refine (refEffect_no _ _ _ _ (by decide)).mono ?_
  rintro e w2 ⟨rfl, hb2⟩
  obtain ⟨d0, d1, d2, d3, d4, d5⟩ := six' hsz hb2 c0 c1 c2 c3 c4 c5
  have hsz2 : w.heap.size + 1 ≤ w2.heap.size := Nat.le_trans hsz hb2.size
  have hbw2 := hbw.trans (hb2.mono (by omega))
  clear c0 c1 c2 c3 c4 c5 hb2
  go_wp2_with fail
  refine (digits_all _ _ (by omega) (by omega)).mono ?_
  rintro e w3 ⟨rfl, hb3⟩
  obtain ⟨f0, f1, f2, f3, f4, f5⟩ := six' hsz2 hb3 d0 d1 d2 d3 d4 d5
  have hsz3 : w.heap.size + 1 ≤ w3.heap.size := Nat.le_trans hsz2 hb3.size
  have hbw3 := hbw2.trans (hb3.mono (by omega))
  clear d0 d1 d2 d3 d4 d5 hb3
  go_wp2_with fail
  refine (digits_all _ _ (by omega) (by omega)).mono ?_
  rintro e w4 ⟨rfl, hb4⟩
  obtain ⟨g0, g1, g2, g3, g4, g5⟩ := six' hsz3 hb4 f0 f1 f2 f3 f4 f5
  have hsz4 : w.heap.size + 1 ≤ w4.heap.size := Nat.le_trans hsz3 hb4.size
  have hbw4 := hbw3.trans (hb4.mono (by omega))
  clear f0 f1 f2 f3 f4 f5 hb4
  go_wp2_with fail
  refine (digits_all _ _ (by omega) (by omega)).mono ?_
  rintro e w5 ⟨rfl, hb5⟩
  go_wp2_with fail
  go_ret2
  exact ⟨by rw [HF.out]; rfl, hbw4.trans (hb5.mono (by omega))⟩
end
section
open Go.RowKit

def effR (a b c : Int) : List UInt8 × Int := if effOk a b c then (effText a b c, 0) else ([], 2)
def itemW (a b c m : Int) (i : Bool) (g : Int) : List UInt8 × Int := if itemOk a b c m i g then (itemText a b c m i g, 0) else ([], 2)
theorem effR_yes {a b c : Int} (h : effOk a b c) : effR a b c = (effText a b c, 0) := if_pos h
theorem effR_no {a b c : Int} (h : ¬ effOk a b c) : effR a b c = ([], 2) := if_neg h
theorem itemW_yes {a b c m : Int} {i : Bool} {g : Int} (h : itemOk a b c m i g) : itemW a b c m i g = (itemText a b c m i g, 0) := if_pos h
theorem itemW_no {a b c m : Int} {i : Bool} {g : Int} (h : ¬ itemOk a b c m i g) : itemW a b c m i g = ([], 2) := if_neg h

theorem effect_all (a b c : Int) (w : World) (hp : Pow w) :
    Calls Tryz.prog 44 #[.agg #[.int .i64 a, .int .i64 b, .int .i64 c]] w fun e w' => e = .returned (.tuple #[.string ⟨(effR a b c).1.toArray⟩, .int .i64 (effR a b c).2]) ∧ Below w.heap.size w w' := by
  by_cases h : effOk a b c
  · rw [effR_yes h]; exact effect_yes a b c w hp h
  · rw [effR_no h]; exact effect_no a b c w h
theorem refEffect_all (a b c : Int) (w : World) :
    Calls Tryz.prog 79 #[.agg #[.int .i64 a, .int .i64 b, .int .i64 c]] w fun e w' => e = .returned (.tuple #[.string ⟨(effR a b c).1.toArray⟩, .int .i64 (effR a b c).2]) ∧ Below w.heap.size w w' := by
  by_cases h : effOk a b c
  · rw [effR_yes h]; exact refEffect_yes a b c w h
  · rw [effR_no h]; exact refEffect_no a b c w h
theorem item_all (a b c m : Int) (i : Bool) (g : Int) (w : World) (hp : Pow w) :
    Calls Tryz.prog 45 #[.agg #[.int .i64 a, .int .i64 b, .int .i64 c, .int .i64 m, .bool i, .int .i64 g]] w fun e w' => e = .returned (.tuple #[.string ⟨(itemW a b c m i g).1.toArray⟩, .int .i64 (itemW a b c m i g).2]) ∧ Below w.heap.size w w' := by
  by_cases h : itemOk a b c m i g
  · rw [itemW_yes h]
    obtain ⟨⟨h1, h2⟩, ⟨rfl, rfl, h3⟩ | ⟨h3, h4, rfl, rfl, rfl⟩⟩ := h
    · exact item_eff a b c g w hp h3 h1 h2
    · exact item_move m i g w hp h3 h4 h1 h2
  · rw [itemW_no h]; exact item_no a b c m i g w h
theorem refItem_all (a b c m : Int) (i : Bool) (g : Int) (w : World) :
    Calls Tryz.prog 83 #[.agg #[.int .i64 a, .int .i64 b, .int .i64 c, .int .i64 m, .bool i, .int .i64 g]] w fun e w' => e = .returned (.tuple #[.string ⟨(itemW a b c m i g).1.toArray⟩, .int .i64 (itemW a b c m i g).2]) ∧ Below w.heap.size w w' := by
  by_cases h : itemOk a b c m i g
  · rw [itemW_yes h]
    obtain ⟨⟨h1, h2⟩, ⟨rfl, rfl, h3⟩ | ⟨h3, h4, rfl, rfl, rfl⟩⟩ := h
    · exact refItem_eff a b c g w h3 h1 h2
    · cases i
      · exact refItem_move_no m g w h3 h4 h1 h2
      · exact refItem_move_yes m g w h3 h4 h1 h2
  · rw [itemW_no h]; exact refItem_no a b c m i g w h
end
end Go.Proofs.YtgjnmfmbheejoaaGreatDoor.Id
