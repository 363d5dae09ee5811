/- What the reference's Item returns; memory that lay stays. No condition. -/
import Derived.Test.YtmbnhbocablgeaaDoorRefText
import Derived.Test.YtmbnhbocablgeaaDoorItemText
namespace Go.Proofs.YtmbnhbocablgeaaDoor
open Go.RowKit

set_option maxHeartbeats 800000 in
theorem refItem_no (a b c m : Int) (i : Bool) (g : Int) (w : World) (hv : ¬ itemOk a b c m i g) :
    Calls Tryd.prog 21 #[.agg #[.int .i64 a, .int .i64 b, .int .i64 c, .int .i64 m, .bool i, .int .i64 g]] w fun e w' => e = .returned (.tuple #[.string ⟨#[]⟩, .int .i64 2]) ∧ Below w.heap.size w w' := by
  have hC := fun w => refCheckItem_any a b c m i g w
  rw [ckItem_no hv] at hC
  clear hv
  go_enter Tryd.func21, Tryd.ntmps21
  go_wp2_with fail
  refine (hC _).mono ?_
  rintro e w1 ⟨rfl, hb1⟩
  go_wp2
  go_ret2
  exact ⟨rfl, ((Below.refl _ _).alloc (Nat.le_refl _) _).trans (hb1.mono (by simp))⟩

theorem six' {w1 w2 : World} {B : Nat} {x0 x1 x2 x3 x4 x5 : Value} (hsz : B + 1 ≤ w1.heap.size) (hb : Below w1.heap.size w1 w2)
    (c0 : w1.cell? ⟨B, 0, none⟩ = some x0) (c1 : w1.cell? ⟨B, 1, none⟩ = some x1) (c2 : w1.cell? ⟨B, 2, none⟩ = some x2) (c3 : w1.cell? ⟨B, 3, none⟩ = some x3) (c4 : w1.cell? ⟨B, 4, none⟩ = some x4) (c5 : w1.cell? ⟨B, 5, none⟩ = some x5) :
    w2.cell? ⟨B, 0, none⟩ = some x0 ∧ w2.cell? ⟨B, 1, none⟩ = some x1 ∧ w2.cell? ⟨B, 2, none⟩ = some x2 ∧ w2.cell? ⟨B, 3, none⟩ = some x3 ∧ w2.cell? ⟨B, 4, none⟩ = some x4 ∧ w2.cell? ⟨B, 5, none⟩ = some x5 :=
  ⟨(hb.cell (by simp; omega)).trans c0, (hb.cell (by simp; omega)).trans c1, (hb.cell (by simp; omega)).trans c2, (hb.cell (by simp; omega)).trans c3, (hb.cell (by simp; omega)).trans c4, (hb.cell (by simp; omega)).trans c5⟩

set_option maxHeartbeats 2000000 in
theorem refItem_eff (a b c g : Int) (w : World) (hv : effOk a b c) (hg1 : 1 ≤ g) (hg2 : g ≤ 7) :
    Calls Tryd.prog 21 #[.agg #[.int .i64 a, .int .i64 b, .int .i64 c, .int .i64 0, .bool false, .int .i64 g]] w fun e w' => e = .returned (.tuple #[.string ⟨(itemText a b c 0 false g).toArray⟩, .int .i64 0]) ∧ Below w.heap.size w w' := by
  have hC := fun w => refCheckItem_any a b c 0 false g w
  rw [ckItem_eff hg1 hg2, ckEff_yes hv] at hC
  have l2 := dgs_len (a := g) (by omega)
  have l4 : (effText a b c).length ≤ 20 := by
    have h1 := dgs_len (a := a) (by have := hv.2.1; omega)
    have h2 := dgs_len (a := b) (by have := hv.2.2.2.1; omega)
    simp [effText]; omega
  obtain ⟨t3, e3, n3, s3⟩ := add_str (effText a b c) ⟨#[64]⟩ (by simp [Lib.size_eq]; omega)
  obtain ⟨t4, e4, n4, s4⟩ := add_str t3 ⟨(dgs g).toArray⟩ (by simp [Lib.size_eq] at n3 ⊢; omega)
  clear n3 n4 l2 l4
  have hfin : t4 = itemText a b c 0 false g := by rw [e4.out, e3.out]; simp [itemText]
  have HF := Lib.hid hfin
  clear hfin e3 e4
  have HV := Lib.hid hv
  clear hv
  go_enter Tryd.func21, Tryd.ntmps21
  go_wp2_with fail
  refine (hC _).mono ?_
  rintro e w1 ⟨rfl, hb1⟩
  obtain ⟨c0, c1, c2, c3, c4, c5, hbw, hsz⟩ := six rfl hb1
  clear hb1 hC
  go_wp2_with fail
  refine (refEffect_yes _ _ _ _ HV.out).mono ?_
  rintro e w2 ⟨rfl, hb2⟩
  obtain ⟨d0, d1, d2, d3, d4, d5⟩ := six' hsz hb2 c0 c1 c2 c3 c4 c5
  go_wp2_with fail
  refine (digits_all _ _ (by omega) (by omega)).mono ?_
  rintro e w3 ⟨rfl, hb3⟩
  go_wp2_with fail
  go_ret2
  exact ⟨by rw [HF.out]; rfl, (hbw.trans (hb2.mono (by omega))).trans (hb3.mono (by have := hb2.size; omega))⟩

set_option maxHeartbeats 2000000 in
theorem refItem_move_no (m : Int) (g : Int) (w : World) (hm1 : 1 ≤ m) (hm2 : m ≤ 64) (hg1 : 1 ≤ g) (hg2 : g ≤ 7) :
    Calls Tryd.prog 21 #[.agg #[.int .i64 0, .int .i64 0, .int .i64 0, .int .i64 m, .bool false, .int .i64 g]] w fun e w' => e = .returned (.tuple #[.string ⟨(itemText 0 0 0 m false g).toArray⟩, .int .i64 0]) ∧ Below w.heap.size w w' := by
  have hC := fun w => refCheckItem_any 0 0 0 m false g w
  rw [ckItem_yes (a := 0) (b := 0) (c := 0) (m := m) (i := false) (g := g) ⟨⟨hg1, hg2⟩, .inr ⟨hm1, hm2, rfl, rfl, rfl⟩⟩] at hC
  have hm0 : ¬ m = 0 := by omega
  have hmb : ((m : Int) == 0) = false := by simp; omega
  have l1 := dgs_len (a := m) (by omega)
  have l2 := dgs_len (a := g) (by omega)
  obtain ⟨t1, e1, n1, s1⟩ := add_str [109] ⟨(dgs m).toArray⟩ (by simp [Lib.size_eq]; omega)
  obtain ⟨t2, e2, n2, s2⟩ := add_str t1 ⟨(wayL false).toArray⟩ (by simp [Lib.size_eq, wayL] at n1 ⊢; omega)
  obtain ⟨t3, e3, n3, s3⟩ := add_str t2 ⟨#[64]⟩ (by simp [Lib.size_eq, wayL] at n1 n2 ⊢; omega)
  obtain ⟨t4, e4, n4, s4⟩ := add_str t3 ⟨(dgs g).toArray⟩ (by simp [Lib.size_eq, wayL] at n1 n2 n3 ⊢; omega)
  clear n1 n2 n3 n4 l1 l2
  have hfin : t4 = itemText 0 0 0 m false g := by rw [e4.out, e3.out, e2.out, e1.out]; simp [itemText, hm0]
  have HF := Lib.hid hfin
  clear hfin e1 e2 e3 e4 hm0
  simp only [wayL, if_false, Bool.false_eq_true] at s2
  go_enter Tryd.func21, Tryd.ntmps21
  go_wp2_with fail
  refine (hC _).mono ?_
  rintro e w1 ⟨rfl, hb1⟩
  obtain ⟨c0, c1, c2, c3, c4, c5, hbw, hsz⟩ := six rfl hb1
  clear hb1 hC
  go_wp2_with fail
  refine (refEffect_no _ _ _ _ (by decide)).mono ?_
  rintro e w2 ⟨rfl, hb2⟩
  obtain ⟨d0, d1, d2, d3, d4, d5⟩ := six' hsz hb2 c0 c1 c2 c3 c4 c5
  have hsz2 : w.heap.size + 1 ≤ w2.heap.size := Nat.le_trans hsz hb2.size
  have hbw2 := hbw.trans (hb2.mono (by omega))
  clear c0 c1 c2 c3 c4 c5 hb2
  go_wp2_with fail
  refine (digits_all _ _ (by omega) (by omega)).mono ?_
  rintro e w3 ⟨rfl, hb3⟩
  obtain ⟨f0, f1, f2, f3, f4, f5⟩ := six' hsz2 hb3 d0 d1 d2 d3 d4 d5
  have hsz3 : w.heap.size + 1 ≤ w3.heap.size := Nat.le_trans hsz2 hb3.size
  have hbw3 := hbw2.trans (hb3.mono (by omega))
  clear d0 d1 d2 d3 d4 d5 hb3
  go_wp2_with fail
  refine (digits_all _ _ (by omega) (by omega)).mono ?_
  rintro e w4 ⟨rfl, hb4⟩
  obtain ⟨g0, g1, g2, g3, g4, g5⟩ := six' hsz3 hb4 f0 f1 f2 f3 f4 f5
  go_wp2_with fail
  go_ret2
  exact ⟨by rw [HF.out]; rfl, hbw3.trans (hb4.mono (by omega))⟩
set_option maxHeartbeats 2000000 in
theorem refItem_move_yes (m : Int) (g : Int) (w : World) (hm1 : 1 ≤ m) (hm2 : m ≤ 64) (hg1 : 1 ≤ g) (hg2 : g ≤ 7) :
    Calls Tryd.prog 21 #[.agg #[.int .i64 0, .int .i64 0, .int .i64 0, .int .i64 m, .bool true, .int .i64 g]] w fun e w' => e = .returned (.tuple #[.string ⟨(itemText 0 0 0 m true g).toArray⟩, .int .i64 0]) ∧ Below w.heap.size w w' := by
  have hC := fun w => refCheckItem_any 0 0 0 m true g w
  rw [ckItem_yes (a := 0) (b := 0) (c := 0) (m := m) (i := true) (g := g) ⟨⟨hg1, hg2⟩, .inr ⟨hm1, hm2, rfl, rfl, rfl⟩⟩] at hC
  have hm0 : ¬ m = 0 := by omega
  have hmb : ((m : Int) == 0) = false := by simp; omega
  have l1 := dgs_len (a := m) (by omega)
  have l2 := dgs_len (a := g) (by omega)
  obtain ⟨t1, e1, n1, s1⟩ := add_str [109] ⟨(dgs m).toArray⟩ (by simp [Lib.size_eq]; omega)
  obtain ⟨t0, e0, n0, s0⟩ := add_str t1 ⟨#[47, 111, 117, 116]⟩ (by simp [Lib.size_eq] at n1 ⊢; omega)
  obtain ⟨t2, e2, n2, s2⟩ := add_str t1 ⟨(wayL true).toArray⟩ (by simp [Lib.size_eq, wayL] at n1 ⊢; omega)
  obtain ⟨t3, e3, n3, s3⟩ := add_str t2 ⟨#[64]⟩ (by simp [Lib.size_eq, wayL] at n1 n2 ⊢; omega)
  obtain ⟨t4, e4, n4, s4⟩ := add_str t3 ⟨(dgs g).toArray⟩ (by simp [Lib.size_eq, wayL] at n1 n2 n3 ⊢; omega)
  clear n0 n1 n2 n3 n4 l1 l2
  have hfin : t4 = itemText 0 0 0 m true g := by rw [e4.out, e3.out, e2.out, e1.out]; simp [itemText, hm0]
  have HF := Lib.hid hfin
  clear hfin e0 e1 e2 e3 e4 hm0
  simp only [wayL, if_true] at s2
  go_enter Tryd.func21, Tryd.ntmps21
  go_wp2_with fail
  refine (hC _).mono ?_
  rintro e w1 ⟨rfl, hb1⟩
  obtain ⟨c0, c1, c2, c3, c4, c5, hbw, hsz⟩ := six rfl hb1
  clear hb1 hC
  go_wp2_with fail
  refine (refEffect_no _ _ _ _ (by decide)).mono ?_
  rintro e w2 ⟨rfl, hb2⟩
  obtain ⟨d0, d1, d2, d3, d4, d5⟩ := six' hsz hb2 c0 c1 c2 c3 c4 c5
  have hsz2 : w.heap.size + 1 ≤ w2.heap.size := Nat.le_trans hsz hb2.size
  have hbw2 := hbw.trans (hb2.mono (by omega))
  clear c0 c1 c2 c3 c4 c5 hb2
  go_wp2_with fail
  refine (digits_all _ _ (by omega) (by omega)).mono ?_
  rintro e w3 ⟨rfl, hb3⟩
  obtain ⟨f0, f1, f2, f3, f4, f5⟩ := six' hsz2 hb3 d0 d1 d2 d3 d4 d5
  have hsz3 : w.heap.size + 1 ≤ w3.heap.size := Nat.le_trans hsz2 hb3.size
  have hbw3 := hbw2.trans (hb3.mono (by omega))
  clear d0 d1 d2 d3 d4 d5 hb3
  go_wp2_with fail
  refine (digits_all _ _ (by omega) (by omega)).mono ?_
  rintro e w4 ⟨rfl, hb4⟩
  obtain ⟨g0, g1, g2, g3, g4, g5⟩ := six' hsz3 hb4 f0 f1 f2 f3 f4 f5
  have hsz4 : w.heap.size + 1 ≤ w4.heap.size := Nat.le_trans hsz3 hb4.size
  have hbw4 := hbw3.trans (hb4.mono (by omega))
  clear f0 f1 f2 f3 f4 f5 hb4
  go_wp2_with fail
  refine (digits_all _ _ (by omega) (by omega)).mono ?_
  rintro e w5 ⟨rfl, hb5⟩
  go_wp2_with fail
  go_ret2
  exact ⟨by rw [HF.out]; rfl, hbw4.trans (hb5.mono (by omega))⟩
end Go.Proofs.YtmbnhbocablgeaaDoor
