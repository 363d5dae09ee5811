/- What Item of ident returns; memory that lay stays. Condition: the table of powers of ten lies as its initialiser lays it. -/
import Derived.Test.YtmbnhbocablgeaaDoorText
namespace Go.Proofs.YtmbnhbocablgeaaDoor
open Go.RowKit

abbrev I6 (a b c m : Int) (i : Bool) (g : Int) : Value := .agg #[.int .i64 a, .int .i64 b, .int .i64 c, .int .i64 m, .bool i, .int .i64 g]

theorem six {w w1 : World} {B t : Nat} {a b c m : Int} {i : Bool} {g : Int} (hB : w.heap.size = B) (hb : Below (w.alloc (.cells #[.int .i64 a, .int .i64 b, .int .i64 c, .int .i64 m, .bool i, .int .i64 g] t)).heap.size (w.alloc (.cells #[.int .i64 a, .int .i64 b, .int .i64 c, .int .i64 m, .bool i, .int .i64 g] t)) w1) :
    w1.cell? ⟨B, 0, none⟩ = some (.int .i64 a) ∧ w1.cell? ⟨B, 1, none⟩ = some (.int .i64 b) ∧ w1.cell? ⟨B, 2, none⟩ = some (.int .i64 c) ∧ w1.cell? ⟨B, 3, none⟩ = some (.int .i64 m) ∧ w1.cell? ⟨B, 4, none⟩ = some (.bool i) ∧ w1.cell? ⟨B, 5, none⟩ = some (.int .i64 g) ∧
      Below w.heap.size w w1 ∧ w.heap.size + 1 ≤ w1.heap.size := by
  subst hB
  have h : ∀ j, w1.cell? ⟨w.heap.size, j, none⟩ = (w.alloc (.cells #[.int .i64 a, .int .i64 b, .int .i64 c, .int .i64 m, .bool i, .int .i64 g] t)).cell? ⟨w.heap.size, j, none⟩ := fun j => hb.cell (by simp)
  refine ⟨by rw [h]; simp [go_sem], by rw [h]; simp [go_sem], by rw [h]; simp [go_sem], by rw [h]; simp [go_sem], by rw [h]; simp [go_sem], by rw [h]; simp [go_sem], ((Below.refl _ _).alloc (Nat.le_refl _) _).trans (hb.mono (by simp)), by have := hb.size; simp at this; exact this⟩

set_option maxHeartbeats 800000 in
theorem item_no (a b c m : Int) (i : Bool) (g : Int) (w : World) (hv : ¬ itemOk a b c m i g) :
    Calls Tryd.prog 20 #[.agg #[.int .i64 a, .int .i64 b, .int .i64 c, .int .i64 m, .bool i, .int .i64 g]] w fun e w' => e = .returned (.tuple #[.string ⟨#[]⟩, .int .i64 2]) ∧ Below w.heap.size w w' := by
  have hC := fun w => checkItem_any a b c m i g w
  rw [ckItem_no hv] at hC
  clear hv
  go_enter Tryd.func20, Tryd.ntmps20
  go_wp2_with fail
  refine (hC _).mono ?_
  rintro e w1 ⟨rfl, hb1⟩
  go_wp2
  go_ret2
  exact ⟨rfl, ((Below.refl _ _).alloc (Nat.le_refl _) _).trans (hb1.mono (by simp))⟩

theorem ikeep {w wc w2 : World} {B n : Nat} {x0 x1 x2 x3 x4 x5 : Value} (hH : wc.cell? ⟨B, 0, none⟩ = some x0 ∧ wc.cell? ⟨B, 1, none⟩ = some x1 ∧ wc.cell? ⟨B, 2, none⟩ = some x2 ∧ wc.cell? ⟨B, 3, none⟩ = some x3 ∧ wc.cell? ⟨B, 4, none⟩ = some x4 ∧ wc.cell? ⟨B, 5, none⟩ = some x5 ∧ Pow wc ∧ Below n w wc ∧ B + 1 ≤ wc.heap.size ∧ n ≤ B)
    (hb : Below wc.heap.size wc w2) : w2.cell? ⟨B, 0, none⟩ = some x0 ∧ w2.cell? ⟨B, 1, none⟩ = some x1 ∧ w2.cell? ⟨B, 2, none⟩ = some x2 ∧ w2.cell? ⟨B, 3, none⟩ = some x3 ∧ w2.cell? ⟨B, 4, none⟩ = some x4 ∧ w2.cell? ⟨B, 5, none⟩ = some x5 ∧ Pow w2 ∧ Below n w w2 ∧ B + 1 ≤ w2.heap.size ∧ n ≤ B := by
  obtain ⟨h0, h1, h2, h3, h4, h5, h6, h7, h8, h9⟩ := hH
  exact ⟨(hb.cell (by simp; omega)).trans h0, (hb.cell (by simp; omega)).trans h1, (hb.cell (by simp; omega)).trans h2, (hb.cell (by simp; omega)).trans h3, (hb.cell (by simp; omega)).trans h4, (hb.cell (by simp; omega)).trans h5, h6.below hb, h7.trans (hb.mono (by omega)), Nat.le_trans h8 hb.size, h9⟩
theorem ipow {w wc : World} {B n : Nat} {x0 x1 x2 x3 x4 x5 : Value} (hH : wc.cell? ⟨B, 0, none⟩ = some x0 ∧ wc.cell? ⟨B, 1, none⟩ = some x1 ∧ wc.cell? ⟨B, 2, none⟩ = some x2 ∧ wc.cell? ⟨B, 3, none⟩ = some x3 ∧ wc.cell? ⟨B, 4, none⟩ = some x4 ∧ wc.cell? ⟨B, 5, none⟩ = some x5 ∧ Pow wc ∧ Below n w wc ∧ B + 1 ≤ wc.heap.size ∧ n ≤ B) : Pow wc := hH.2.2.2.2.2.2.1
theorem ibelow {w wc : World} {B n : Nat} {x0 x1 x2 x3 x4 x5 : Value} (hH : wc.cell? ⟨B, 0, none⟩ = some x0 ∧ wc.cell? ⟨B, 1, none⟩ = some x1 ∧ wc.cell? ⟨B, 2, none⟩ = some x2 ∧ wc.cell? ⟨B, 3, none⟩ = some x3 ∧ wc.cell? ⟨B, 4, none⟩ = some x4 ∧ wc.cell? ⟨B, 5, none⟩ = some x5 ∧ Pow wc ∧ Below n w wc ∧ B + 1 ≤ wc.heap.size ∧ n ≤ B) : Below n w wc := hH.2.2.2.2.2.2.2.1

theorem wayL_len (i : Bool) : (wayL i).length ≤ 4 := by cases i <;> decide

set_option maxHeartbeats 4000000 in
theorem item_move (m : Int) (i : Bool) (g : Int) (w : World) (hp : Pow w) (hm1 : 1 ≤ m) (hm2 : m ≤ 64) (hg1 : 1 ≤ g) (hg2 : g ≤ 7) :
    Calls Tryd.prog 20 #[.agg #[.int .i64 0, .int .i64 0, .int .i64 0, .int .i64 m, .bool i, .int .i64 g]] w fun e w' => e = .returned (.tuple #[.string ⟨(itemText 0 0 0 m i g).toArray⟩, .int .i64 0]) ∧ Below w.heap.size w w' := by
  have hC := fun w => checkItem_any 0 0 0 m i g w
  rw [ckItem_yes (a := 0) (b := 0) (c := 0) (m := m) (i := i) (g := g) ⟨⟨hg1, hg2⟩, .inr ⟨hm1, hm2, rfl, rfl, rfl⟩⟩] at hC
  have hm0 : ¬ m = 0 := by omega
  have hmb : ((m : Int) == 0) = false := by simp; omega
  have l1 := dgs_len (a := m) (by omega)
  have l2 := dgs_len (a := g) (by omega)
  have l3 := wayL_len i
  obtain ⟨t1, e1, n1, s1⟩ := add_str [109] ⟨(dgs m).toArray⟩ (by simp [Lib.size_eq]; omega)
  obtain ⟨t2, e2, n2, s2⟩ := add_str t1 ⟨(wayL i).toArray⟩ (by simp [Lib.size_eq] at n1 ⊢; omega)
  obtain ⟨t3, e3, n3, s3⟩ := add_str t2 ⟨#[64]⟩ (by simp [Lib.size_eq] at n1 n2 ⊢; omega)
  obtain ⟨t4, e4, n4, s4⟩ := add_str t3 ⟨(dgs g).toArray⟩ (by simp [Lib.size_eq] at n1 n2 n3 ⊢; omega)
  clear n1 n2 n3 n4 l1 l2 l3
  have hfin : t4 = itemText 0 0 0 m i g := by rw [e4.out, e3.out, e2.out, e1.out]; simp [itemText, hm0]
  have HF := Lib.hid hfin
  clear hfin e1 e2 e3 e4 hm0
  go_enter Tryd.func20, Tryd.ntmps20
  go_wp2_with fail
  refine (hC _).mono ?_
  rintro e w1 ⟨rfl, hb1⟩
  obtain ⟨c0, c1, c2, c3, c4, c5, hbw, hsz⟩ := six rfl hb1
  have hp1 := hp.below hbw
  clear hb1 hC
  go_wp2_with fail
  go_region_held3 (fun w' => w'.cell? ⟨w.heap.size, 0, none⟩ = some (.int .i64 0) ∧ w'.cell? ⟨w.heap.size, 1, none⟩ = some (.int .i64 0) ∧ w'.cell? ⟨w.heap.size, 2, none⟩ = some (.int .i64 0) ∧ w'.cell? ⟨w.heap.size, 3, none⟩ = some (.int .i64 m) ∧ w'.cell? ⟨w.heap.size, 4, none⟩ = some (.bool i) ∧ w'.cell? ⟨w.heap.size, 5, none⟩ = some (.int .i64 g) ∧ Pow w' ∧ Below w.heap.size w w' ∧ w.heap.size + 1 ≤ w'.heap.size ∧ w.heap.size ≤ w.heap.size)
    (first | exact ⟨c0, c1, c2, c3, c4, c5, hp1.drew, hbw.drew, hsz, Nat.le_refl _⟩ | (refine ikeep ?_ hb2; assumption) | assumption)
    (first | (go_at_call 39; refine (itoa_any _ (by omega) (by omega) _ ?_).mono ?_; (apply ipow; assumption); rintro e w2 ⟨rfl, hb2⟩) | (go_at_call 43; refine (way_any _ _).mono ?_; rintro e w2 ⟨rfl, rfl⟩))
  have hS : w2.cell? ⟨w.heap.size, 0, none⟩ = some (.int .i64 0) ∧ w2.cell? ⟨w.heap.size, 1, none⟩ = some (.int .i64 0) ∧ w2.cell? ⟨w.heap.size, 2, none⟩ = some (.int .i64 0) ∧ w2.cell? ⟨w.heap.size, 3, none⟩ = some (.int .i64 m) ∧ w2.cell? ⟨w.heap.size, 4, none⟩ = some (.bool i) ∧ w2.cell? ⟨w.heap.size, 5, none⟩ = some (.int .i64 g) ∧ Pow w2 ∧ Below w.heap.size w w2 ∧ w.heap.size + 1 ≤ w2.heap.size ∧ w.heap.size ≤ w.heap.size := by assumption
  have hp2 := ipow hS
  have hbw2 := ibelow hS
  obtain ⟨d0, d1, d2, d3, d4, d5, _, _, hsz2, _⟩ := hS
  go_wp2_with fail
  refine (itoa_any _ (by omega) (by omega) _ hp2).mono ?_
  rintro e w3 ⟨rfl, hb3⟩
  go_wp2_with fail
  go_ret2
  exact ⟨by rw [HF.out]; rfl, hbw2.trans (hb3.mono (by omega))⟩

set_option maxHeartbeats 4000000 in
theorem item_eff (a b c g : Int) (w : World) (hp : Pow w) (hv : effOk a b c) (hg1 : 1 ≤ g) (hg2 : g ≤ 7) :
    Calls Tryd.prog 20 #[.agg #[.int .i64 a, .int .i64 b, .int .i64 c, .int .i64 0, .bool false, .int .i64 g]] w fun e w' => e = .returned (.tuple #[.string ⟨(itemText a b c 0 false g).toArray⟩, .int .i64 0]) ∧ Below w.heap.size w w' := by
  have hC := fun w => checkItem_any a b c 0 false g w
  rw [ckItem_eff hg1 hg2, ckEff_yes hv] at hC
  have l1 := dgs_len (a := 0) (by omega)
  have l2 := dgs_len (a := g) (by omega)
  have l3 := wayL_len false
  have l4 : (effText a b c).length ≤ 20 := by
    have h1 := dgs_len (a := a) (by have := hv.2.1; omega)
    have h2 := dgs_len (a := b) (by have := hv.2.2.2.1; omega)
    simp [effText]; omega
  obtain ⟨t1, e1, n1, s1⟩ := add_str [109] ⟨(dgs 0).toArray⟩ (by simp [Lib.size_eq]; omega)
  obtain ⟨t2, e2, n2, s2⟩ := add_str t1 ⟨(wayL false).toArray⟩ (by simp [Lib.size_eq] at n1 ⊢; omega)
  obtain ⟨t3, e3, n3, s3⟩ := add_str (effText a b c) ⟨#[64]⟩ (by simp [Lib.size_eq]; omega)
  obtain ⟨t4, e4, n4, s4⟩ := add_str t3 ⟨(dgs g).toArray⟩ (by simp [Lib.size_eq] at n3 ⊢; omega)
  clear n1 n2 n3 n4 l1 l2 l3 l4
  have hfin : t4 = itemText a b c 0 false g := by rw [e4.out, e3.out]; simp [itemText]
  have HF := Lib.hid hfin
  clear hfin e1 e2 e3 e4
  have HV := Lib.hid hv
  clear hv
  go_enter Tryd.func20, Tryd.ntmps20
  go_wp2_with fail
  refine (hC _).mono ?_
  rintro e w1 ⟨rfl, hb1⟩
  obtain ⟨c0, c1, c2, c3, c4, c5, hbw, hsz⟩ := six rfl hb1
  have hp1 := hp.below hbw
  clear hb1 hC
  go_wp2_with fail
  go_region_held3 (fun w' => w'.cell? ⟨w.heap.size, 0, none⟩ = some (.int .i64 a) ∧ w'.cell? ⟨w.heap.size, 1, none⟩ = some (.int .i64 b) ∧ w'.cell? ⟨w.heap.size, 2, none⟩ = some (.int .i64 c) ∧ w'.cell? ⟨w.heap.size, 3, none⟩ = some (.int .i64 0) ∧ w'.cell? ⟨w.heap.size, 4, none⟩ = some (.bool false) ∧ w'.cell? ⟨w.heap.size, 5, none⟩ = some (.int .i64 g) ∧ Pow w' ∧ Below w.heap.size w w' ∧ w.heap.size + 1 ≤ w'.heap.size ∧ w.heap.size ≤ w.heap.size)
    (first | exact ⟨c0, c1, c2, c3, c4, c5, hp1.drew, hbw.drew, hsz, Nat.le_refl _⟩ | (refine ikeep ?_ hb2; assumption) | assumption)
    (first | (go_at_call 39; refine (itoa_any _ (by omega) (by omega) _ ?_).mono ?_; (apply ipow; assumption); rintro e w2 ⟨rfl, hb2⟩) | (go_at_call 43; refine (way_any _ _).mono ?_; rintro e w2 ⟨rfl, rfl⟩))
  have hS : w2.cell? ⟨w.heap.size, 0, none⟩ = some (.int .i64 a) ∧ w2.cell? ⟨w.heap.size, 1, none⟩ = some (.int .i64 b) ∧ w2.cell? ⟨w.heap.size, 2, none⟩ = some (.int .i64 c) ∧ w2.cell? ⟨w.heap.size, 3, none⟩ = some (.int .i64 0) ∧ w2.cell? ⟨w.heap.size, 4, none⟩ = some (.bool false) ∧ w2.cell? ⟨w.heap.size, 5, none⟩ = some (.int .i64 g) ∧ Pow w2 ∧ Below w.heap.size w w2 ∧ w.heap.size + 1 ≤ w2.heap.size ∧ w.heap.size ≤ w.heap.size := by assumption
  have hp2 := ipow hS
  have hbw2 := ibelow hS
  obtain ⟨d0, d1, d2, d3, d4, d5, _, _, hsz2, _⟩ := hS
  go_wp2_with fail
  refine (effect_yes _ _ _ _ hp2 HV.out).mono ?_
  rintro e w3 ⟨rfl, hb3⟩
  have f5 := (hb3.cell (p := ⟨w.heap.size, 5, none⟩) (by simp; omega)).trans d5
  have hp3 := hp2.below hb3
  go_wp2_with fail
  refine (itoa_any _ (by omega) (by omega) _ hp3).mono ?_
  rintro e w4 ⟨rfl, hb4⟩
  go_wp2_with fail
  go_ret2
  exact ⟨by rw [HF.out]; rfl, (hbw2.trans (hb3.mono (by omega))).trans (hb4.mono (by have := hb3.size; omega))⟩
end Go.Proofs.YtmbnhbocablgeaaDoor
