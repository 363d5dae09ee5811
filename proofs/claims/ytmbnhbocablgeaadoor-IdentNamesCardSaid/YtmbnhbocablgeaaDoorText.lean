/- What Effect and Item of ident and of the reference return, and numbers in decimal digits; memory that lay stays. Condition: the table of powers of ten lies as its initialiser lays it. -/
import Derived.Test.YtmbnhbocablgeaaDoorItem
import Derived.Test.YtmbnhbocablgeaaDoorPlText
import Derived.Test.YtmbnhbocablgeaaDoorShelf
import Derived.Handy
import Derived.Deep.RegionHeld3
import Derived.WalkSmall
namespace Go.Proofs.YtmbnhbocablgeaaDoor
open Go.RowKit Go.Shelf Go.Sort

/-- The table of powers of ten lies as its initialiser lays it. -/
structure Pow (w : World) : Prop where
  tab : Lib.TabIs Tryd.prog w "internal/strconv.uint64pow10" .u64 Lib.pow10Tab
  lt : 1 < w.heap.size
theorem gPow : Tryd.prog.globalNamed "internal/strconv.uint64pow10" = some 1 := by kernel_rfl
theorem Pow.below {w w' : World} (h : Pow w) (hb : Below w.heap.size w w') : Pow w' :=
  ⟨var?_below hb gPow h.2 h.1, Nat.lt_of_lt_of_le h.2 hb.size⟩
theorem Pow.drew {w : World} (h : Pow w) : Pow w.drew := ⟨h.1, h.2⟩
theorem below_grow (w : World) (k : Nat) (os : Array Obj) : Below w.heap.size w (grow (w.drewN k) os) :=
  ⟨rfl, rfl, rfl, by simp [grow], fun i hi => by simp [grow, Array.getElem?_append_left hi]⟩

theorem itoa_any (n : Int) (h0 : 0 ≤ n) (h1 : n ≤ 9223372036854775807) (w : World) (hp : Pow w) :
    Calls Tryd.prog 39 #[.int .i64 n] w fun e w' => e = .returned (.string ⟨(dgs n).toArray⟩) ∧ Below w.heap.size w w' := by
  refine (Tryd.strconv_Itoa n (by omega) h1 w hp.1).mono ?_
  rintro e w' ⟨rfl, k, os, rfl⟩
  refine ⟨?_, below_grow w k os⟩
  have : Lib.itoa n = dgs n := by unfold Lib.itoa dgs; rw [if_neg (by omega)]
  rw [this]

set_option maxHeartbeats 400000 in
theorem way_any (i : Bool) (w : World) : Calls Tryd.prog 43 #[.bool i] w fun e w' => e = .returned (.string ⟨(wayL i).toArray⟩) ∧ w = w' := by
  cases i
  all_goals
    go_enter Tryd.func43, Tryd.ntmps43
    go_wp2
    go_ret
    exact ⟨rfl, rfl⟩

set_option maxHeartbeats 800000 in
theorem effect_no (a b c : Int) (w : World) (hv : ¬ effOk a b c) :
    Calls Tryd.prog 14 #[.agg #[.int .i64 a, .int .i64 b, .int .i64 c]] w fun e w' => e = .returned (.tuple #[.string ⟨#[]⟩, .int .i64 2]) ∧ Below w.heap.size w w' := by
  have hC := fun w => checkEffect_any a b c w
  rw [ckEff_no hv] at hC
  clear hv
  go_enter Tryd.func14, Tryd.ntmps14
  go_wp2_with fail
  refine (hC _).mono ?_
  rintro e w1 ⟨rfl, hb1⟩
  go_wp2
  go_ret2
  exact ⟨rfl, ((Below.refl _ _).alloc (Nat.le_refl _) _).trans (hb1.mono (by simp))⟩

/-- The sum of two strings under a name of its own. -/
theorem add_str (l : List UInt8) (b : ByteArray) (h : l.length + b.size ≤ 9223372036854775807) :
    ∃ t : List UInt8, Hid (t = l ++ b.data.toList) ∧ t.length ≤ l.length + b.size ∧ ∀ W : World, (Op.stringOp .add ⟨l.toArray⟩ b).run Tryd.prog W = .ok (.string ⟨t.toArray⟩) W := by
  refine ⟨l ++ b.data.toList, rfl, by rw [List.length_append, ← Lib.size_eq]; exact Nat.le_refl _, fun W => ?_⟩
  refine (run_string_add_sum (P := Tryd.prog) (w := W) ⟨l.toArray⟩ b (by rw [Lib.size_mk]; exact h)).trans ?_
  congr 2

theorem keep3 {w wc w2 : World} {B n : Nat} {x y z : Value} (hH : wc.cell? ⟨B, 0, none⟩ = some x ∧ wc.cell? ⟨B, 1, none⟩ = some y ∧ wc.cell? ⟨B, 2, none⟩ = some z ∧ Pow wc ∧ Below n w wc ∧ B + 1 ≤ wc.heap.size ∧ n ≤ B)
    (hb : Below wc.heap.size wc w2) : w2.cell? ⟨B, 0, none⟩ = some x ∧ w2.cell? ⟨B, 1, none⟩ = some y ∧ w2.cell? ⟨B, 2, none⟩ = some z ∧ Pow w2 ∧ Below n w w2 ∧ B + 1 ≤ w2.heap.size ∧ n ≤ B := by
  obtain ⟨h0, h1, h2, h3, h4, h5, h6⟩ := hH
  exact ⟨(hb.cell (by simp; omega)).trans h0, (hb.cell (by simp; omega)).trans h1, (hb.cell (by simp; omega)).trans h2, h3.below hb, h4.trans (hb.mono (by omega)), Nat.le_trans h5 hb.size, h6⟩
theorem below3 {w wc : World} {B n : Nat} {x y z : Value} (hH : wc.cell? ⟨B, 0, none⟩ = some x ∧ wc.cell? ⟨B, 1, none⟩ = some y ∧ wc.cell? ⟨B, 2, none⟩ = some z ∧ Pow wc ∧ Below n w wc ∧ B + 1 ≤ wc.heap.size ∧ n ≤ B) : Below n w wc := hH.2.2.2.2.1
theorem pow3 {w wc : World} {B n : Nat} {x y z : Value} (hH : wc.cell? ⟨B, 0, none⟩ = some x ∧ wc.cell? ⟨B, 1, none⟩ = some y ∧ wc.cell? ⟨B, 2, none⟩ = some z ∧ Pow wc ∧ Below n w wc ∧ B + 1 ≤ wc.heap.size ∧ n ≤ B) : Pow wc := hH.2.2.2.1
theorem ret2s {l m : List UInt8} {a b : Int} (h : l = m) (h' : a = b) : Ending.returned (.tuple #[.string ⟨l.toArray⟩, .int .i64 a]) = .returned (.tuple #[.string ⟨m.toArray⟩, .int .i64 b]) := by rw [h, h']

set_option maxHeartbeats 2000000 in
theorem effect_yes1 (a b : Int) (w : World) (hp : Pow w) (hv : effOk a b 1) :
    Calls Tryd.prog 14 #[.agg #[.int .i64 a, .int .i64 b, .int .i64 1]] w fun e w' => e = .returned (.tuple #[.string ⟨(effText a b 1).toArray⟩, .int .i64 0]) ∧ Below w.heap.size w w' := by
  have hC := fun w => checkEffect_any a b 1 w
  rw [ckEff_yes hv] at hC
  obtain ⟨h1, h2, h3, h4, _, _⟩ := hv
  go_enter Tryd.func14, Tryd.ntmps14
  go_wp2_with fail
  refine (hC _).mono ?_
  rintro e w1 ⟨rfl, hb1⟩
  have c0 := hb1.cell (p := ⟨w.heap.size, 0, none⟩) (by simp)
  have c1 := hb1.cell (p := ⟨w.heap.size, 1, none⟩) (by simp)
  have c2 := hb1.cell (p := ⟨w.heap.size, 2, none⟩) (by simp)
  simp [go_sem] at c0 c1 c2
  have hbw := ((Below.refl w.heap.size w).alloc (Nat.le_refl _) _).trans (hb1.mono (by simp))
  have hp1 := hp.below hbw
  have hsz : w.heap.size + 1 ≤ w1.heap.size := by have := hb1.size; simp at this; exact this
  clear hb1 hC
  have hw : IntKind.i64.wrap 0 = 0 := by decide
  have l1 := dgs_len (a := a) (by omega)
  have l2 := dgs_len (a := b) (by omega)
  obtain ⟨t1, e1, n1, s1⟩ := add_str (dgs a) ⟨#[47]⟩ (by simp [Lib.size_eq]; omega)
  obtain ⟨t2, e2, n2, s2⟩ := add_str t1 ⟨(dgs b).toArray⟩ (by simp [Lib.size_eq] at n1 ⊢; omega)
  obtain ⟨t3, e3, n3, s3⟩ := add_str t2 ⟨#[47]⟩ (by simp [Lib.size_eq] at n1 n2 ⊢; omega)
  obtain ⟨t4, e4, n4, s4⟩ := add_str t3 ⟨#[102]⟩ (by simp [Lib.size_eq] at n1 n2 n3 ⊢; omega)
  clear n1 n2 n3 n4
  have hsl : ∀ W : World, (Instr.slice 9 (.string ⟨#[102, 117, 114]⟩) (some (.int .i64 0)) (some (.int .i64 1)) none).run Tryd.prog W = .ok (.string ⟨#[102]⟩) W := fun _ => by kernel_rfl
  go_wp2_with fail
  go_region_held3 (fun w' => w'.cell? ⟨w.heap.size, 0, none⟩ = some (.int .i64 a) ∧ w'.cell? ⟨w.heap.size, 1, none⟩ = some (.int .i64 b) ∧ w'.cell? ⟨w.heap.size, 2, none⟩ = some (.int .i64 1) ∧ Pow w' ∧ Below w.heap.size w w' ∧ w.heap.size + 1 ≤ w'.heap.size ∧ w.heap.size ≤ w.heap.size)
    (first | exact ⟨c0, c1, c2, hp1.drew, hbw.drew, hsz, Nat.le_refl _⟩ | (refine keep3 ?_ hb2; assumption))
    (first | (go_at_call 39; refine (itoa_any _ (by omega) (by omega) _ ?_).mono ?_; (apply pow3; assumption); rintro e w2 ⟨rfl, hb2⟩))
  go_wp2
  go_ret2
  refine ⟨ret2s ?_ rfl, by apply below3; assumption⟩
  rw [e4.out, e3.out, e2.out, e1.out]
  simp [effText, phL]
set_option maxHeartbeats 2000000 in
theorem effect_yes2 (a b : Int) (w : World) (hp : Pow w) (hv : effOk a b 2) :
    Calls Tryd.prog 14 #[.agg #[.int .i64 a, .int .i64 b, .int .i64 2]] w fun e w' => e = .returned (.tuple #[.string ⟨(effText a b 2).toArray⟩, .int .i64 0]) ∧ Below w.heap.size w w' := by
  have hC := fun w => checkEffect_any a b 2 w
  rw [ckEff_yes hv] at hC
  obtain ⟨h1, h2, h3, h4, _, _⟩ := hv
  go_enter Tryd.func14, Tryd.ntmps14
  go_wp2_with fail
  refine (hC _).mono ?_
  rintro e w1 ⟨rfl, hb1⟩
  have c0 := hb1.cell (p := ⟨w.heap.size, 0, none⟩) (by simp)
  have c1 := hb1.cell (p := ⟨w.heap.size, 1, none⟩) (by simp)
  have c2 := hb1.cell (p := ⟨w.heap.size, 2, none⟩) (by simp)
  simp [go_sem] at c0 c1 c2
  have hbw := ((Below.refl w.heap.size w).alloc (Nat.le_refl _) _).trans (hb1.mono (by simp))
  have hp1 := hp.below hbw
  have hsz : w.heap.size + 1 ≤ w1.heap.size := by have := hb1.size; simp at this; exact this
  clear hb1 hC
  have hw : IntKind.i64.wrap 1 = 1 := by decide
  have l1 := dgs_len (a := a) (by omega)
  have l2 := dgs_len (a := b) (by omega)
  obtain ⟨t1, e1, n1, s1⟩ := add_str (dgs a) ⟨#[47]⟩ (by simp [Lib.size_eq]; omega)
  obtain ⟨t2, e2, n2, s2⟩ := add_str t1 ⟨(dgs b).toArray⟩ (by simp [Lib.size_eq] at n1 ⊢; omega)
  obtain ⟨t3, e3, n3, s3⟩ := add_str t2 ⟨#[47]⟩ (by simp [Lib.size_eq] at n1 n2 ⊢; omega)
  obtain ⟨t4, e4, n4, s4⟩ := add_str t3 ⟨#[117]⟩ (by simp [Lib.size_eq] at n1 n2 n3 ⊢; omega)
  clear n1 n2 n3 n4
  have hsl : ∀ W : World, (Instr.slice 9 (.string ⟨#[102, 117, 114]⟩) (some (.int .i64 1)) (some (.int .i64 2)) none).run Tryd.prog W = .ok (.string ⟨#[117]⟩) W := fun _ => by kernel_rfl
  go_wp2_with fail
  go_region_held3 (fun w' => w'.cell? ⟨w.heap.size, 0, none⟩ = some (.int .i64 a) ∧ w'.cell? ⟨w.heap.size, 1, none⟩ = some (.int .i64 b) ∧ w'.cell? ⟨w.heap.size, 2, none⟩ = some (.int .i64 2) ∧ Pow w' ∧ Below w.heap.size w w' ∧ w.heap.size + 1 ≤ w'.heap.size ∧ w.heap.size ≤ w.heap.size)
    (first | exact ⟨c0, c1, c2, hp1.drew, hbw.drew, hsz, Nat.le_refl _⟩ | (refine keep3 ?_ hb2; assumption))
    (first | (go_at_call 39; refine (itoa_any _ (by omega) (by omega) _ ?_).mono ?_; (apply pow3; assumption); rintro e w2 ⟨rfl, hb2⟩))
  go_wp2
  go_ret2
  refine ⟨ret2s ?_ rfl, by apply below3; assumption⟩
  rw [e4.out, e3.out, e2.out, e1.out]
  simp [effText, phL]
set_option maxHeartbeats 2000000 in
theorem effect_yes3 (a b : Int) (w : World) (hp : Pow w) (hv : effOk a b 3) :
    Calls Tryd.prog 14 #[.agg #[.int .i64 a, .int .i64 b, .int .i64 3]] w fun e w' => e = .returned (.tuple #[.string ⟨(effText a b 3).toArray⟩, .int .i64 0]) ∧ Below w.heap.size w w' := by
  have hC := fun w => checkEffect_any a b 3 w
  rw [ckEff_yes hv] at hC
  obtain ⟨h1, h2, h3, h4, _, _⟩ := hv
  go_enter Tryd.func14, Tryd.ntmps14
  go_wp2_with fail
  refine (hC _).mono ?_
  rintro e w1 ⟨rfl, hb1⟩
  have c0 := hb1.cell (p := ⟨w.heap.size, 0, none⟩) (by simp)
  have c1 := hb1.cell (p := ⟨w.heap.size, 1, none⟩) (by simp)
  have c2 := hb1.cell (p := ⟨w.heap.size, 2, none⟩) (by simp)
  simp [go_sem] at c0 c1 c2
  have hbw := ((Below.refl w.heap.size w).alloc (Nat.le_refl _) _).trans (hb1.mono (by simp))
  have hp1 := hp.below hbw
  have hsz : w.heap.size + 1 ≤ w1.heap.size := by have := hb1.size; simp at this; exact this
  clear hb1 hC
  have hw : IntKind.i64.wrap 2 = 2 := by decide
  have l1 := dgs_len (a := a) (by omega)
  have l2 := dgs_len (a := b) (by omega)
  obtain ⟨t1, e1, n1, s1⟩ := add_str (dgs a) ⟨#[47]⟩ (by simp [Lib.size_eq]; omega)
  obtain ⟨t2, e2, n2, s2⟩ := add_str t1 ⟨(dgs b).toArray⟩ (by simp [Lib.size_eq] at n1 ⊢; omega)
  obtain ⟨t3, e3, n3, s3⟩ := add_str t2 ⟨#[47]⟩ (by simp [Lib.size_eq] at n1 n2 ⊢; omega)
  obtain ⟨t4, e4, n4, s4⟩ := add_str t3 ⟨#[114]⟩ (by simp [Lib.size_eq] at n1 n2 n3 ⊢; omega)
  clear n1 n2 n3 n4
  have hsl : ∀ W : World, (Instr.slice 9 (.string ⟨#[102, 117, 114]⟩) (some (.int .i64 2)) (some (.int .i64 3)) none).run Tryd.prog W = .ok (.string ⟨#[114]⟩) W := fun _ => by kernel_rfl
  go_wp2_with fail
  go_region_held3 (fun w' => w'.cell? ⟨w.heap.size, 0, none⟩ = some (.int .i64 a) ∧ w'.cell? ⟨w.heap.size, 1, none⟩ = some (.int .i64 b) ∧ w'.cell? ⟨w.heap.size, 2, none⟩ = some (.int .i64 3) ∧ Pow w' ∧ Below w.heap.size w w' ∧ w.heap.size + 1 ≤ w'.heap.size ∧ w.heap.size ≤ w.heap.size)
    (first | exact ⟨c0, c1, c2, hp1.drew, hbw.drew, hsz, Nat.le_refl _⟩ | (refine keep3 ?_ hb2; assumption))
    (first | (go_at_call 39; refine (itoa_any _ (by omega) (by omega) _ ?_).mono ?_; (apply pow3; assumption); rintro e w2 ⟨rfl, hb2⟩))
  go_wp2
  go_ret2
  refine ⟨ret2s ?_ rfl, by apply below3; assumption⟩
  rw [e4.out, e3.out, e2.out, e1.out]
  simp [effText, phL]
theorem effect_yes (a b c : Int) (w : World) (hp : Pow w) (hv : effOk a b c) :
    Calls Tryd.prog 14 #[.agg #[.int .i64 a, .int .i64 b, .int .i64 c]] w fun e w' => e = .returned (.tuple #[.string ⟨(effText a b c).toArray⟩, .int .i64 0]) ∧ Below w.heap.size w w' := by
  obtain rfl | rfl | rfl : c = 1 ∨ c = 2 ∨ c = 3 := by have := hv.2.2.2.2; omega
  · exact effect_yes1 a b w hp hv
  · exact effect_yes2 a b w hp hv
  · exact effect_yes3 a b w hp hv

end Go.Proofs.YtmbnhbocablgeaaDoor
