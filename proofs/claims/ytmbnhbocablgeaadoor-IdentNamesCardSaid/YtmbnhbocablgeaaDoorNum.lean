/- What Number and FromNumber of ident and of the reference return; memory that lay stays. Conditions: as each theorem says which numbers it speaks of. -/
import Derived.Test.YtmbnhbocablgeaaDoorItem
import Derived.Handy
namespace Go.Proofs.YtmbnhbocablgeaaDoor
open Go.RowKit

def numEff (a b c g : Int) : Int := 1 + (((a - 1) * 8 + b) * 3 + c - 1) * 7 + g - 1
def numMove (m : Int) (i : Bool) (g : Int) : Int := 1679833 + ((m - 1) * 2 + if i then 1 else 0) * 7 + g - 1

theorem ret2i {a b c d : Int} (h : a = c) (h' : b = d) : Ending.returned (.tuple #[.int .i64 a, .int .i64 b]) = .returned (.tuple #[.int .i64 c, .int .i64 d]) := by rw [h, h']

set_option maxHeartbeats 800000 in
theorem number_eff (a b c g : Int) (w : World) (hg1 : 1 ≤ g) (hg2 : g ≤ 7) (hv : effOk a b c) :
    Calls Tryd.prog 26 #[.agg #[.int .i64 a, .int .i64 b, .int .i64 c, .int .i64 0, .bool false, .int .i64 g]] w fun e w' => e = .returned (.tuple #[.int .i64 (numEff a b c g), .int .i64 0]) ∧ Below w.heap.size w w' := by
  have hC := fun w => checkItem_any a b c 0 false g w
  rw [ckItem_eff hg1 hg2, ckEff_yes hv] at hC
  obtain ⟨h1, h2, h3, h4, h5, h6⟩ := hv
  go_enter Tryd.func26, Tryd.ntmps26
  go_wp2_with fail
  refine (hC _).mono ?_
  rintro e w1 ⟨rfl, hb1⟩
  have c0 := hb1.cell (p := ⟨w.heap.size, 0, none⟩) (by simp)
  have c1 := hb1.cell (p := ⟨w.heap.size, 1, none⟩) (by simp)
  have c2 := hb1.cell (p := ⟨w.heap.size, 2, none⟩) (by simp)
  have c3 := hb1.cell (p := ⟨w.heap.size, 3, none⟩) (by simp)
  have c4 := hb1.cell (p := ⟨w.heap.size, 4, none⟩) (by simp)
  have c5 := hb1.cell (p := ⟨w.heap.size, 5, none⟩) (by simp)
  simp [go_sem] at c0 c1 c2 c3 c4 c5
  go_wp2
  go_ret2
  exact ⟨ret2i (by first | (simp [numEff]; done) | (simp [numEff]; omega)) rfl, ((Below.refl _ _).alloc (Nat.le_refl _) _).trans (hb1.mono (by simp))⟩

set_option maxHeartbeats 800000 in
theorem number_move (m : Int) (i : Bool) (g : Int) (w : World) (hg1 : 1 ≤ g) (hg2 : g ≤ 7) (hm1 : 1 ≤ m) (hm2 : m ≤ 64) :
    Calls Tryd.prog 26 #[.agg #[.int .i64 0, .int .i64 0, .int .i64 0, .int .i64 m, .bool i, .int .i64 g]] w fun e w' => e = .returned (.tuple #[.int .i64 (numMove m i g), .int .i64 0]) ∧ Below w.heap.size w w' := by
  have hC := fun w => checkItem_any 0 0 0 m i g w
  rw [ckItem_yes (a := 0) (b := 0) (c := 0) (m := m) (i := i) (g := g) ⟨⟨hg1, hg2⟩, .inr ⟨hm1, hm2, rfl, rfl, rfl⟩⟩] at hC
  have hmb : ((m : Int) == 0) = false := by simp; omega
  cases i
  all_goals
    go_enter Tryd.func26, Tryd.ntmps26
    go_wp2_with fail
    refine (hC _).mono ?_
    rintro e w1 ⟨rfl, hb1⟩
    have c0 := hb1.cell (p := ⟨w.heap.size, 0, none⟩) (by simp)
    have c1 := hb1.cell (p := ⟨w.heap.size, 1, none⟩) (by simp)
    have c2 := hb1.cell (p := ⟨w.heap.size, 2, none⟩) (by simp)
    have c3 := hb1.cell (p := ⟨w.heap.size, 3, none⟩) (by simp)
    have c4 := hb1.cell (p := ⟨w.heap.size, 4, none⟩) (by simp)
    have c5 := hb1.cell (p := ⟨w.heap.size, 5, none⟩) (by simp)
    simp [go_sem] at c0 c1 c2 c3 c4 c5
    go_wp2
    go_ret2
    exact ⟨ret2i (by first | (simp [numMove]; done) | (simp [numMove]; omega)) rfl, ((Below.refl _ _).alloc (Nat.le_refl _) _).trans (hb1.mono (by simp))⟩

set_option maxHeartbeats 800000 in
theorem number_no (a b c m : Int) (i : Bool) (g : Int) (w : World) (hv : ¬ itemOk a b c m i g) :
    Calls Tryd.prog 26 #[.agg #[.int .i64 a, .int .i64 b, .int .i64 c, .int .i64 m, .bool i, .int .i64 g]] w fun e w' => e = .returned (.tuple #[.int .i64 0, .int .i64 2]) ∧ Below w.heap.size w w' := by
  have hC := fun w => checkItem_any a b c m i g w
  rw [ckItem_no hv] at hC
  clear hv
  go_enter Tryd.func26, Tryd.ntmps26
  go_wp2_with fail
  refine (hC _).mono ?_
  rintro e w1 ⟨rfl, hb1⟩
  go_wp2
  go_ret2
  exact ⟨rfl, ((Below.refl _ _).alloc (Nat.le_refl _) _).trans (hb1.mono (by simp))⟩
set_option maxHeartbeats 800000 in
theorem refNumber_eff (a b c g : Int) (w : World) (hg1 : 1 ≤ g) (hg2 : g ≤ 7) (hv : effOk a b c) :
    Calls Tryd.prog 27 #[.agg #[.int .i64 a, .int .i64 b, .int .i64 c, .int .i64 0, .bool false, .int .i64 g]] w fun e w' => e = .returned (.tuple #[.int .i64 (numEff a b c g), .int .i64 0]) ∧ Below w.heap.size w w' := by
  have hC := fun w => refCheckItem_any a b c 0 false g w
  rw [ckItem_eff hg1 hg2, ckEff_yes hv] at hC
  obtain ⟨h1, h2, h3, h4, h5, h6⟩ := hv
  go_enter Tryd.func27, Tryd.ntmps27
  go_wp2_with fail
  refine (hC _).mono ?_
  rintro e w1 ⟨rfl, hb1⟩
  have c0 := hb1.cell (p := ⟨w.heap.size, 0, none⟩) (by simp)
  have c1 := hb1.cell (p := ⟨w.heap.size, 1, none⟩) (by simp)
  have c2 := hb1.cell (p := ⟨w.heap.size, 2, none⟩) (by simp)
  have c3 := hb1.cell (p := ⟨w.heap.size, 3, none⟩) (by simp)
  have c4 := hb1.cell (p := ⟨w.heap.size, 4, none⟩) (by simp)
  have c5 := hb1.cell (p := ⟨w.heap.size, 5, none⟩) (by simp)
  simp [go_sem] at c0 c1 c2 c3 c4 c5
  go_wp2
  go_ret2
  exact ⟨ret2i (by first | (simp [numEff]; done) | (simp [numEff]; omega)) rfl, ((Below.refl _ _).alloc (Nat.le_refl _) _).trans (hb1.mono (by simp))⟩

set_option maxHeartbeats 800000 in
theorem refNumber_move (m : Int) (i : Bool) (g : Int) (w : World) (hg1 : 1 ≤ g) (hg2 : g ≤ 7) (hm1 : 1 ≤ m) (hm2 : m ≤ 64) :
    Calls Tryd.prog 27 #[.agg #[.int .i64 0, .int .i64 0, .int .i64 0, .int .i64 m, .bool i, .int .i64 g]] w fun e w' => e = .returned (.tuple #[.int .i64 (numMove m i g), .int .i64 0]) ∧ Below w.heap.size w w' := by
  have hC := fun w => refCheckItem_any 0 0 0 m i g w
  rw [ckItem_yes (a := 0) (b := 0) (c := 0) (m := m) (i := i) (g := g) ⟨⟨hg1, hg2⟩, .inr ⟨hm1, hm2, rfl, rfl, rfl⟩⟩] at hC
  have hmb : ((m : Int) == 0) = false := by simp; omega
  cases i
  all_goals
    go_enter Tryd.func27, Tryd.ntmps27
    go_wp2_with fail
    refine (hC _).mono ?_
    rintro e w1 ⟨rfl, hb1⟩
    have c0 := hb1.cell (p := ⟨w.heap.size, 0, none⟩) (by simp)
    have c1 := hb1.cell (p := ⟨w.heap.size, 1, none⟩) (by simp)
    have c2 := hb1.cell (p := ⟨w.heap.size, 2, none⟩) (by simp)
    have c3 := hb1.cell (p := ⟨w.heap.size, 3, none⟩) (by simp)
    have c4 := hb1.cell (p := ⟨w.heap.size, 4, none⟩) (by simp)
    have c5 := hb1.cell (p := ⟨w.heap.size, 5, none⟩) (by simp)
    simp [go_sem] at c0 c1 c2 c3 c4 c5
    go_wp2
    go_ret2
    exact ⟨ret2i (by first | (simp [numMove]; done) | (simp [numMove]; omega)) rfl, ((Below.refl _ _).alloc (Nat.le_refl _) _).trans (hb1.mono (by simp))⟩

set_option maxHeartbeats 800000 in
theorem refNumber_no (a b c m : Int) (i : Bool) (g : Int) (w : World) (hv : ¬ itemOk a b c m i g) :
    Calls Tryd.prog 27 #[.agg #[.int .i64 a, .int .i64 b, .int .i64 c, .int .i64 m, .bool i, .int .i64 g]] w fun e w' => e = .returned (.tuple #[.int .i64 0, .int .i64 2]) ∧ Below w.heap.size w w' := by
  have hC := fun w => refCheckItem_any a b c m i g w
  rw [ckItem_no hv] at hC
  clear hv
  go_enter Tryd.func27, Tryd.ntmps27
  go_wp2_with fail
  refine (hC _).mono ?_
  rintro e w1 ⟨rfl, hb1⟩
  go_wp2
  go_ret2
  exact ⟨rfl, ((Below.refl _ _).alloc (Nat.le_refl _) _).trans (hb1.mono (by simp))⟩

set_option maxHeartbeats 800000 in
theorem fromNumber_no (n : Int) (w : World) (h : ¬ (1 ≤ n ∧ n ≤ 1680728)) :
    Calls Tryd.prog 28 #[.int .i64 n] w fun e w' => e = .returned (.tuple #[.agg #[.int .i64 0, .int .i64 0, .int .i64 0, .int .i64 0, .bool false, .int .i64 0], .int .i64 3]) ∧ Below w.heap.size w w' := by
  go_enter Tryd.func28, Tryd.ntmps28
  go_wp2
  all_goals
    refine bodyPost_ret (v := .tuple #[.agg #[.int .i64 0, .int .i64 0, .int .i64 0, .int .i64 0, .bool false, .int .i64 0], .int .i64 3]) (by simp [results, Tryd.results28, go_sem]) rfl ⟨rfl, ?_⟩
    exact (Below.refl _ _).alloc (Nat.le_refl _) _

set_option maxHeartbeats 800000 in
theorem fromNumber_eff (n : Int) (w : World) (h1 : 1 ≤ n) (h2 : n ≤ 1679832) :
    Calls Tryd.prog 28 #[.int .i64 n] w fun e w' => e = .returned (.tuple #[.agg #[.int .i64 ((n - 1) / 7 / 3 / 8 + 1), .int .i64 ((n - 1) / 7 / 3 % 8), .int .i64 ((n - 1) / 7 % 3 + 1), .int .i64 0, .bool false, .int .i64 ((n - 1) % 7 + 1)], .int .i64 0]) ∧ Below w.heap.size w w' := by
  go_enter Tryd.func28, Tryd.ntmps28
  go_wp2
  refine bodyPost_ret (v := .tuple #[.agg #[.int .i64 ((n - 1) / 7 / 3 / 8 + 1), .int .i64 ((n - 1) / 7 / 3 % 8), .int .i64 ((n - 1) / 7 % 3 + 1), .int .i64 0, .bool false, .int .i64 ((n - 1) % 7 + 1)], .int .i64 0]) (by simp [results, Tryd.results28, go_sem]) rfl ⟨rfl, ?_⟩
  go_grown
set_option maxHeartbeats 800000 in
theorem refFromNumber_no (n : Int) (w : World) (h : ¬ (1 ≤ n ∧ n ≤ 1680728)) :
    Calls Tryd.prog 29 #[.int .i64 n] w fun e w' => e = .returned (.tuple #[.agg #[.int .i64 0, .int .i64 0, .int .i64 0, .int .i64 0, .bool false, .int .i64 0], .int .i64 3]) ∧ Below w.heap.size w w' := by
  go_enter Tryd.func29, Tryd.ntmps29
  go_wp2
  all_goals
    refine bodyPost_ret (v := .tuple #[.agg #[.int .i64 0, .int .i64 0, .int .i64 0, .int .i64 0, .bool false, .int .i64 0], .int .i64 3]) (by simp [results, Tryd.results29, go_sem]) rfl ⟨rfl, ?_⟩
    exact (Below.refl _ _).alloc (Nat.le_refl _) _

set_option maxHeartbeats 800000 in
theorem refFromNumber_eff (n : Int) (w : World) (h1 : 1 ≤ n) (h2 : n ≤ 1679832) :
    Calls Tryd.prog 29 #[.int .i64 n] w fun e w' => e = .returned (.tuple #[.agg #[.int .i64 ((n - 1) / 7 / 3 / 8 + 1), .int .i64 ((n - 1) / 7 / 3 % 8), .int .i64 ((n - 1) / 7 % 3 + 1), .int .i64 0, .bool false, .int .i64 ((n - 1) % 7 + 1)], .int .i64 0]) ∧ Below w.heap.size w w' := by
  go_enter Tryd.func29, Tryd.ntmps29
  go_wp2
  refine bodyPost_ret (v := .tuple #[.agg #[.int .i64 ((n - 1) / 7 / 3 / 8 + 1), .int .i64 ((n - 1) / 7 / 3 % 8), .int .i64 ((n - 1) / 7 % 3 + 1), .int .i64 0, .bool false, .int .i64 ((n - 1) % 7 + 1)], .int .i64 0]) (by simp [results, Tryd.results29, go_sem]) rfl ⟨rfl, ?_⟩
  go_grown

theorem itemR {a b c m g a' b' c' m' g' e e' : Int} {i i' : Bool} (h1 : a = a') (h2 : b = b') (h3 : c = c') (h4 : m = m') (h5 : i = i') (h6 : g = g') (h7 : e = e') :
    Ending.returned (.tuple #[.agg #[.int .i64 a, .int .i64 b, .int .i64 c, .int .i64 m, .bool i, .int .i64 g], .int .i64 e]) = .returned (.tuple #[.agg #[.int .i64 a', .int .i64 b', .int .i64 c', .int .i64 m', .bool i', .int .i64 g'], .int .i64 e']) := by
  rw [h1, h2, h3, h4, h5, h6, h7]
theorem odd_eq {a b : Int} (h : a = b) : (a % 2 == 1) = decide (b % 2 = 1) := by rw [h]; rfl

set_option maxHeartbeats 800000 in
theorem fromNumber_move (n : Int) (w : World) (h1 : 1679833 ≤ n) (h2 : n ≤ 1680728) :
    Calls Tryd.prog 28 #[.int .i64 n] w fun e w' => e = .returned (.tuple #[.agg #[.int .i64 0, .int .i64 0, .int .i64 0, .int .i64 ((n - 1679833) / 14 + 1), .bool (decide ((n - 1679833) / 7 % 2 = 1)), .int .i64 ((n - 1) % 7 + 1)], .int .i64 0]) ∧ Below w.heap.size w w' := by
  go_enter Tryd.func28, Tryd.ntmps28
  go_wp2
  refine bodyPost_ret (v := .tuple #[.agg #[.int .i64 0, .int .i64 0, .int .i64 0, .int .i64 (((n - 1) / 7 - 239976) / 2 + 1), .bool (((n - 1) / 7 - 239976) % 2 == 1), .int .i64 ((n - 1) % 7 + 1)], .int .i64 0]) (by simp [results, Tryd.results28, go_sem]) rfl
    ⟨itemR rfl rfl rfl (by omega) (odd_eq (by omega)) rfl rfl, ?_⟩
  go_grown

set_option maxHeartbeats 800000 in
theorem refFromNumber_move (n : Int) (w : World) (h1 : 1679833 ≤ n) (h2 : n ≤ 1680728) :
    Calls Tryd.prog 29 #[.int .i64 n] w fun e w' => e = .returned (.tuple #[.agg #[.int .i64 0, .int .i64 0, .int .i64 0, .int .i64 ((n - 1679833) / 14 + 1), .bool (decide ((n - 1679833) / 7 % 2 = 1)), .int .i64 ((n - 1) % 7 + 1)], .int .i64 0]) ∧ Below w.heap.size w w' := by
  go_enter Tryd.func29, Tryd.ntmps29
  go_wp2
  refine bodyPost_ret (v := .tuple #[.agg #[.int .i64 0, .int .i64 0, .int .i64 0, .int .i64 ((n - 1679833) / 7 / 2 + 1), .bool ((n - 1679833) / 7 % 2 == 1), .int .i64 ((n - 1679833) % 7 + 1)], .int .i64 0]) (by simp [results, Tryd.results29, go_sem]) rfl
    ⟨itemR rfl rfl rfl (by omega) (odd_eq rfl) (by omega) rfl, ?_⟩
  go_grown
end Go.Proofs.YtmbnhbocablgeaaDoor