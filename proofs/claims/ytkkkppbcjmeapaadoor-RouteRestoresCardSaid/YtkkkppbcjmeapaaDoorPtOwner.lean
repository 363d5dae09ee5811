/- Owner of a range. Condition: the map is small, texts are no longer than an int can say. -/
import Derived.Test.YtkkkppbcjmeapaaDoorPtTouch
import Derived.BigRegionIn
namespace Go.Proofs.YtkkkppbcjmeapaaDoor
open Go.RowKit Go.Shelf
attribute [local go_sem] Oper.semAt_some

/-- The group of all these parts, beginning with o; none: they are of several. -/
def ownL : List (Nat × Pt) → Int → Option Int
  | [], o => some o
  | q :: l, o => if o ≠ 0 ∧ q.2.g ≠ o then none else ownL l q.2.g
theorem ownL_append : ∀ (l m : List (Nat × Pt)) (o : Int), ownL (l ++ m) o = (ownL l o).bind (ownL m)
  | [], m, o => rfl
  | q :: l, m, o => by
    simp only [List.cons_append, ownL]
    split
    · rfl
    · exact ownL_append l m q.2.g
/-- What Owner answers. -/
def ownerV (d : List Pt) (x y : ByteArray) : Int × Bool × Int :=
  if d = [] then (0, false, 1) else if okR x y = false then (0, false, 2) else match ownL (tl d x y d.length) 0 with | none => (0, false, 0) | some o => (o, decide (0 < o), 0)
def ownerE (v : Int × Bool × Int) : Value := .tuple #[.int .i64 v.1, .bool v.2.1, .int .i64 v.2.2]

theorem tl_prefix (d : List Pt) (x y : ByteArray) {k n : Nat} (h : k ≤ n) : ∃ m, tl d x y n = tl d x y k ++ m := by
  induction n with
  | zero => exact ⟨[], by rw [Nat.le_zero.1 h]; simp⟩
  | succ n ih =>
    rcases Nat.lt_or_ge k (n + 1) with h1 | h1
    · obtain ⟨m, hm⟩ := ih (by omega)
      exact ⟨m ++ _, by rw [tl, hm, List.append_assoc]⟩
    · exact ⟨[], by rw [show k = n + 1 by omega]; simp⟩
theorem own_stop (d : List Pt) (x y : ByteArray) {k : Nat} (h : k ≤ d.length) (hn : ownL (tl d x y k) 0 = none) : ownL (tl d x y d.length) 0 = none := by
  obtain ⟨m, hm⟩ := tl_prefix d x y h
  rw [hm, ownL_append, hn]; rfl

theorem KpT.set {n₀ B2 b : Nat} {W W' : World} (h : KpT n₀ B2 W W') (hb : n₀ ≤ b) (hne : b ≠ B2) (u : Value) : KpT n₀ B2 W (W'.setCell ⟨b, 0, none⟩ u) :=
  ⟨h.1.setCell (p := ⟨b, 0, none⟩) hb u, (Below.heap_setCell _ ⟨b, 0, none⟩ u B2 (fun e => hne e.symm)).trans h.2⟩
theorem whole_own {β : Type} (B : Nat) (t : TypeId) (f : β → Array Value) : Own (fun s W => Whole W B t (f s)) := fun s X Y row hs hg hrow =>
  (hg.block B hs.lt (fun e => by
    obtain ⟨o, ho, hc⟩ := hrow B e.symm
    rw [show X.heap[B]? = _ from hs] at ho; cases ho; cases hc)).trans hs
theorem whole_set {W : World} {b b' : Nat} {t : TypeId} {cs : Array Value} (h : Whole W b t cs) (hne : b ≠ b') (u : Value) : Whole (W.setCell ⟨b', 0, none⟩ u) b t cs :=
  (Below.heap_setCell W ⟨b', 0, none⟩ u b hne).trans h

set_option maxHeartbeats 1000000 in
theorem owner_nil (x y : ByteArray) (w : World) :
    Calls Tryd.prog 16 #[.pointer none, .agg #[.string x, .string y]] w fun e w' => e = .returned (ownerE (0, false, 1)) ∧ Below w.heap.size w w' := by
  refine (callsIn_wide (n := 8)).1 ?_
  refine callsIn_of_wp_marks Tryd.func16 rfl trivial ?_ rfl
  simp only [Tryd.ntmps16, List.size_toArray, List.length_cons, List.length_nil, Nat.reduceAdd, Nat.reduceSub, Array.replicate_succ, Array.replicate_zero, List.push_toArray, List.append_toArray, List.nil_append, List.cons_append]
  gi_wp2_with (refine ⟨trivial, ?_⟩; gi_at_call 45; refine (callsIn_wide.2 (made_nil _)).mono ?_; rintro e w1 ⟨rfl, rfl⟩)
  refine ⟨ownerE (0, false, 1), ?_, rfl, ((((Below.refl _ _).alloc (Nat.le_refl _) _).alloc (by simp) _).alloc (by simp; omega) _).alloc (by simp; omega) _⟩
  simp [results, ownerE, Tryd.f16, go_sem]

set_option maxRecDepth 100000 in
set_option maxHeartbeats 4000000 in
theorem owner_any (B : Nat) (d : List Pt) (x y : ByteArray) (w : World) (h : MapAt w B d) (hs : SmallP d) (hx : x.size ≤ 9223372036854775807) (hy : y.size ≤ 9223372036854775807) :
    Calls Tryd.prog 16 #[.pointer (some ⟨B, 0, none⟩), .agg #[.string x, .string y]] w fun e w' => e = .returned (ownerE (ownerV d x y)) ∧ Below w.heap.size w w' := by
  have b1 := ((((Below.refl w.heap.size w).alloc (Nat.le_refl _) (.cells #[.string x, .string y] 30)).alloc (by simp) (.cells #[.int .i64 0] 3)).alloc (by simp; omega) (.cells #[.bool false] 4)).alloc (by simp; omega) (.cells #[.int .i64 0] 35)
  have hm := h.keep b1
  have M := Lib.hid (made_any B d _ hm)
  have CK := Lib.hid (fun W => check_any x y W hx hy)
  have hb : B < w.heap.size := h.lt
  have R0 := (((Whole.new w 30 #[.string x, .string y]).alloc (.cells #[.int .i64 0] 3)).alloc (.cells #[.bool false] 4)).alloc (.cells #[.int .i64 0] 35)
  have r0 := R0.cell 0
  have r1 := R0.cell 1
  simp only [List.getElem?_toArray, List.getElem?_cons_succ, List.getElem?_cons_zero] at r0 r1
  unfold ownerV
  by_cases h0 : d = []
  · subst h0
    simp only [List.length_nil, Nat.lt_irrefl, decide_false] at M
    rw [if_pos rfl]
    clear h hm hs CK R0 r0 r1
    refine (callsIn_wide (n := 8)).1 ?_
    refine callsIn_of_wp_marks Tryd.func16 rfl trivial ?_ rfl
    simp only [Tryd.ntmps16, List.size_toArray, List.length_cons, List.length_nil, Nat.reduceAdd, Nat.reduceSub, Array.replicate_succ, Array.replicate_zero, List.push_toArray, List.append_toArray, List.nil_append, List.cons_append]
    gi_wp2_with (refine ⟨trivial, ?_⟩; gi_at_call 45; refine (callsIn_wide.2 M.out).mono ?_; rintro e w1 ⟨rfl, rfl⟩)
    refine ⟨ownerE (0, false, 1), ?_, rfl, ((((Below.refl _ _).alloc (Nat.le_refl _) _).alloc (by simp) _).alloc (by simp; omega) _).alloc (by simp; omega) _⟩
    simp [results, ownerE, Tryd.f16, go_sem]
  · have hpos : 0 < d.length := by cases d with | nil => exact absurd rfl h0 | cons p ps => simp
    rw [decide_eq_true hpos] at M
    rw [if_neg h0]
    cases hok : okR x y with
    | false =>
      rw [hok] at CK
      rw [if_pos rfl]
      simp only [ckI] at CK
      clear h hm hs
      refine (callsIn_wide (n := 8)).1 ?_
      refine callsIn_of_wp_marks Tryd.func16 rfl trivial ?_ rfl
      simp only [Tryd.ntmps16, List.size_toArray, List.length_cons, List.length_nil, Nat.reduceAdd, Nat.reduceSub, Array.replicate_succ, Array.replicate_zero, List.push_toArray, List.append_toArray, List.nil_append, List.cons_append]
      gi_wp2_with (first
        | (refine ⟨trivial, ?_⟩; gi_at_call 45; refine (callsIn_wide.2 M.out).mono ?_; rintro e w1 ⟨rfl, rfl⟩)
        | (refine ⟨trivial, ?_⟩; gi_at_call 46; refine (callsIn_wide.2 (CK.out _)).mono ?_; rintro e w1 ⟨rfl, hb1⟩; have e4 := boxed_keep ((((Boxed.new (w.alloc (.cells #[.string x, .string y] 30)) 3 (.int .i64 0)).alloc (.cells #[.bool false] 4))).alloc (.cells #[.int .i64 0] 35)) hb1; have e5 := boxed_keep ((Boxed.new ((w.alloc (.cells #[.string x, .string y] 30)).alloc (.cells #[.int .i64 0] 3)) 4 (.bool false)).alloc (.cells #[.int .i64 0] 35)) hb1; have e6 := boxed_keep (Boxed.new (((w.alloc (.cells #[.string x, .string y] 30)).alloc (.cells #[.int .i64 0] 3)).alloc (.cells #[.bool false] 4)) 35 (.int .i64 0)) hb1; simp only [World.size_alloc] at e4 e5 e6; have k4 := e4.cell; have k5 := e5.cell; have k6 := e6.cell; have g4 := e4.frozen; have g5 := e5.frozen; have g6 := e6.frozen; have E4 := Lib.hid e4; have E5 := Lib.hid e5; have E6 := Lib.hid e6; have HB := Lib.hid (b1.trans (hb1.mono b1.size)); clear e4 e5 e6 hb1))
      have j4 := (((E4.out.set (.int .i64 0)).other (B' := w.heap.size + 1 + 1) (by omega) (.bool false)).other (B' := w.heap.size + 1 + 1 + 1) (by omega) (.int .i64 2)).cell
      have j5 := (((E5.out.other (B' := w.heap.size + 1) (by omega) (.int .i64 0)).set (.bool false)).other (B' := w.heap.size + 1 + 1 + 1) (by omega) (.int .i64 2)).cell
      have j6 := (((E6.out.other (B' := w.heap.size + 1) (by omega) (.int .i64 0)).other (B' := w.heap.size + 1 + 1) (by omega) (.bool false)).set (.int .i64 2)).cell
      have hB3 := ((HB.out.setCell (p := ⟨w.heap.size + 1, 0, none⟩) (by show w.heap.size ≤ w.heap.size + 1; omega) (.int .i64 0)).setCell (p := ⟨w.heap.size + 1 + 1, 0, none⟩) (by show w.heap.size ≤ w.heap.size + 1 + 1; omega) (.bool false)).setCell (p := ⟨w.heap.size + 1 + 1 + 1, 0, none⟩) (by show w.heap.size ≤ w.heap.size + 1 + 1 + 1; omega) (.int .i64 2)
      refine ⟨ownerE (0, false, 2), ?_, rfl, hB3⟩
      generalize ((w1.setCell ⟨w.heap.size + 1, 0, none⟩ (.int .i64 0)).setCell ⟨w.heap.size + 1 + 1, 0, none⟩ (.bool false)).setCell ⟨w.heap.size + 1 + 1 + 1, 0, none⟩ (.int .i64 2) = X at j4 j5 j6 ⊢
      simp [results, ownerE, Tryd.f16, go_sem, j4, j5, j6]
    | true =>
      rw [hok] at CK
      rw [if_neg (by decide)]
      simp only [ckI] at CK
      have mixed : Tryd.prog.follows Departure.mixedOrders = true := by kernel_rfl
      generalize hV : (match ownL (tl d x y d.length) 0 with | none => ((0, false, 0) : Int × Bool × Int) | some o => (o, decide (0 < o), 0)) = V
      have HV := Lib.hid hV
      clear hV
      refine (callsIn_wide (n := 8)).1 ?_
      refine callsIn_of_wp_marks Tryd.func16 rfl trivial ?_ rfl
      simp only [Tryd.ntmps16, List.size_toArray, List.length_cons, List.length_nil, Nat.reduceAdd, Nat.reduceSub, Array.replicate_succ, Array.replicate_zero, List.push_toArray, List.append_toArray, List.nil_append, List.cons_append]
      gi_wp2_with (first
        | (refine ⟨trivial, ?_⟩; gi_at_call 45; refine (callsIn_wide.2 M.out).mono ?_; rintro e w1 ⟨rfl, rfl⟩)
        | (refine ⟨trivial, ?_⟩; gi_at_call 46; refine (callsIn_wide.2 (CK.out _)).mono ?_; rintro e w1 ⟨rfl, hb1⟩; have R1 := R0.below hb1 R0.lt; have s0 : (w1.alloc (.cells #[.int .i64 0] 3)).cell? ⟨w.heap.size, 0, none⟩ = some (.string x) := cell_al (.cells #[.int .i64 0] 3) (R1.cell 0); have s1 : (w1.alloc (.cells #[.int .i64 0] 3)).cell? ⟨w.heap.size, 1, none⟩ = some (.string y) := cell_al (.cells #[.int .i64 0] 3) (R1.cell 1))
        | (refine ⟨trivial, ?_⟩; gi_at_call 42; refine (touched_in _ _ _ _ _).mono ?_; rintro e w2 ⟨rfl, rfl⟩))
      obtain ⟨v, hbx, hpa⟩ := h
      rcases hpa with ⟨h3, _⟩ | ⟨g, o, cap, rfl, hc, _⟩
      · exact absurd h3 h0
      have hlw : w.heap.size + 4 ≤ w1.heap.size := by have := hb1.size; simp at this; omega
      have e4 := boxed_keep ((((Boxed.new (w.alloc (.cells #[.string x, .string y] 30)) 3 (.int .i64 0)).alloc (.cells #[.bool false] 4))).alloc (.cells #[.int .i64 0] 35)) hb1
      have e5 := boxed_keep ((Boxed.new ((w.alloc (.cells #[.string x, .string y] 30)).alloc (.cells #[.int .i64 0] 3)) 4 (.bool false)).alloc (.cells #[.int .i64 0] 35)) hb1
      have e6 := boxed_keep (Boxed.new (((w.alloc (.cells #[.string x, .string y] 30)).alloc (.cells #[.int .i64 0] 3)).alloc (.cells #[.bool false] 4)) 35 (.int .i64 0)) hb1
      simp only [World.size_alloc] at e4 e5 e6
      have f4 := ((e4.alloc (.cells #[.int .i64 0] 3)).alloc (.cells #[.pointer (some ⟨B, 0, none⟩)] 25)).alloc (.cells #[.string x, .string y] 30)
      have f5 := ((e5.alloc (.cells #[.int .i64 0] 3)).alloc (.cells #[.pointer (some ⟨B, 0, none⟩)] 25)).alloc (.cells #[.string x, .string y] 30)
      have f6 := ((e6.alloc (.cells #[.int .i64 0] 3)).alloc (.cells #[.pointer (some ⟨B, 0, none⟩)] 25)).alloc (.cells #[.string x, .string y] 30)
      have f8 := ((Boxed.new w1 3 (.int .i64 0)).alloc (.cells #[.pointer (some ⟨B, 0, none⟩)] 25)).alloc (.cells #[.string x, .string y] 30)
      have f9 := (Boxed.new (w1.alloc (.cells #[.int .i64 0] 3)) 25 (.pointer (some ⟨B, 0, none⟩))).alloc (.cells #[.string x, .string y] 30)
      have fR := Whole.new ((w1.alloc (.cells #[.int .i64 0] 3)).alloc (.cells #[.pointer (some ⟨B, 0, none⟩)] 25)) 30 #[.string x, .string y]
      simp only [World.size_alloc] at f9 fR
      have hB1 := b1.trans (hb1.mono b1.size)
      have hB0 : Below w.heap.size w (((w1.alloc (.cells #[.int .i64 0] 3)).alloc (.cells #[.pointer (some ⟨B, 0, none⟩)] 25)).alloc (.cells #[.string x, .string y] 30)) := ((hB1.alloc (by omega) _).alloc (by simp; omega) _).alloc (by simp; omega) _
      have hsz : (((w1.alloc (.cells #[.int .i64 0] 3)).alloc (.cells #[.pointer (some ⟨B, 0, none⟩)] 25)).alloc (.cells #[.string x, .string y] 30)).heap.size = w1.heap.size + 3 := by simp
      obtain ⟨W0, hW0⟩ : ∃ W0, ((w1.alloc (.cells #[.int .i64 0] 3)).alloc (.cells #[.pointer (some ⟨B, 0, none⟩)] 25)).alloc (.cells #[.string x, .string y] 30) = W0 := ⟨_, rfl⟩
      rw [hW0] at f4 f5 f6 f8 f9 fR hB0 hsz ⊢
      have hg : g < w.heap.size := by
        obtain ⟨p, hp⟩ : ∃ p, d[0]? = some p := by cases d with | nil => exact absurd rfl h0 | cons p ps => exact ⟨p, rfl⟩
        exact lt_of_cellR (hc 0 p hp).1
      have TM : TouchM W0 w.heap.size (w1.heap.size + 1 + 1) B g o x y d cap := ⟨hb, hg, fR.cell 0, fR.cell 1, (hB0.cell hb).trans hbx.cell, hc.keep hB0⟩
      clear hW0 b1 hm M CK R0 r0 r1 R1 s0 s1 hb1 e4 e5 e6 hB1 hbx hc hpos hok
      refine wpIn_rangeFunc_ownH rfl (by decide) (gf := 66) (lb := #[.pointer (some ⟨w1.heap.size + 1, 0, none⟩), .pointer (some ⟨w1.heap.size + 1 + 1, 0, none⟩)]) rfl trivial (enters_of Tryd.func66 (by kernel_rfl) rfl)
        (touched_stops (8 - 1) (by decide) (w1.heap.size + 1) (w1.heap.size + 1 + 1) B g o cap w.heap.size x y d hx hy hs W0 (by omega) TM f9.cell) KpT.trans (kpT_b (by omega) (by omega)) (Below.refl _ _) (fun _ => rfl)
        (fun pre W => ((((∃ ow, ownL pre 0 = some ow ∧ Boxed W w1.heap.size 3 (.int .i64 ow)) ∧ Boxed W (w.heap.size + 1) 3 (.int .i64 0)) ∧ Boxed W (w.heap.size + 1 + 1) 4 (.bool false)) ∧ Boxed W (w.heap.size + 1 + 1 + 1) 35 (.int .i64 0)) ∧ Below w.heap.size W0 W)
        (fun c pre W => (((c = .ret ∧ ownL pre 0 = none) ∧ Boxed W (w.heap.size + 1) 3 (.int .i64 0)) ∧ (Boxed W (w.heap.size + 1 + 1) 4 (.bool false) ∧ Boxed W (w.heap.size + 1 + 1 + 1) 35 (.int .i64 0))) ∧ Below w.heap.size W0 W)
        (OwnFrom.and (OwnFrom.and (OwnFrom.and (OwnFrom.and (fun pre X Y row hs hg hr => by obtain ⟨ow, h1, h2⟩ := hs; exact ⟨ow, h1, boxed_own w1.heap.size 3 (fun (_ : Unit) => Value.int .i64 ow) () X Y row h2 hg (fun r e => (hr r e).2)⟩) (Own.from (boxed_own _ _ _) _)) (Own.from (boxed_own _ _ _) _)) (Own.from (boxed_own _ _ _) _)) (ownFrom_below (by omega) (by omega)))
        (fun c => OwnFrom.and (OwnFrom.and (OwnFrom.and (fun _ _ _ _ hs _ _ => hs) (Own.from (boxed_own _ _ _) _)) (OwnFrom.and (Own.from (boxed_own _ _ _) _) (Own.from (boxed_own _ _ _) _))) (ownFrom_below (by omega) (by omega)))
        ⟨⟨⟨⟨⟨0, rfl, f8⟩, f4⟩, f5⟩, f6⟩, Below.refl _ _⟩
        (fun q a' W => ∃ Bx, w1.heap.size + 2 < Bx ∧ Whole W Bx 89 #[.string q.2.f, .string q.2.t, .int .i64 q.2.g, .int .i64 q.2.e] ∧ a' = { tmps := #[.pointer (some ⟨B, 0, none⟩), .agg #[.string x, .string y], undef, .pointer (some ⟨w.heap.size, 0, none⟩), .pointer (some ⟨w.heap.size + 1, 0, none⟩), .pointer (some ⟨w.heap.size + 1 + 1, 0, none⟩), .pointer (some ⟨w.heap.size + 1 + 1 + 1, 0, none⟩), .int .i64 0, .pointer (some ⟨w1.heap.size, 0, none⟩), undef, .pointer (some ⟨Bx, 0, none⟩), .pointer (some ⟨B, 0, none⟩), .bool true, .bool false, .agg #[.string x, .string y], .int .i64 0, .int .i64 0, .bool false, .pointer (some ⟨B, 0, none⟩), .agg #[.string x, .string y], .func (.func 66) #[] #[.pointer (some ⟨w1.heap.size + 1, 0, none⟩), .pointer (some ⟨w1.heap.size + 1 + 1, 0, none⟩)], .int .i64 (q.1 : Int), .agg #[.string q.2.f, .string q.2.t, .int .i64 q.2.g, .int .i64 q.2.e], undef, undef, undef, undef, undef, undef, undef, undef, undef, undef, undef, undef, undef], defers := [] })
        (fun q a' _ X Y row hs hg hr => by obtain ⟨Bx, h1, h2, h3⟩ := hs; exact ⟨Bx, h1, whole_own Bx 89 (fun (_ : Unit) => #[.string q.2.f, .string q.2.t, .int .i64 q.2.g, .int .i64 q.2.e]) () X Y row h2 hg (fun r e => (hr r e).2), h3⟩)
        ?assign ?body ?done ?stop
      case assign =>
        rintro l pre q W K ⟨⟨⟨⟨⟨ow, how, i8⟩, i4⟩, i5⟩, i6⟩, hB⟩ hK
        have hsW := hB.size
        unfold ptV
        gi_wp2
        exact hK _ _ ((KeepsOthers.alloc _ _).from _) (KpT.of_below ((Below.refl _ W).alloc (Nat.le_refl _) _) (by omega) (by omega)) ⟨⟨⟨⟨⟨ow, how, i8.alloc _⟩, i4.alloc _⟩, i5.alloc _⟩, i6.alloc _⟩, hB.alloc (by omega) _⟩ ⟨W.heap.size, by omega, Whole.new W _ _, rfl⟩
      case body =>
        rintro l pre q a' W hl ⟨r, hr⟩ ⟨⟨⟨⟨⟨ow, how, i8⟩, i4⟩, i5⟩, i6⟩, hB⟩ ⟨Bx, hBx, rX, rfl⟩ hlt
        have c8 := i8.cell
        have x2 := rX.cell 2
        have f8' := i8.frozen
        have k4 := i4.cell
        have k5 := i5.cell
        have k6 := i6.cell
        have g4 := i4.frozen
        have g5 := i5.frozen
        have g6 := i6.frozen
        simp only [List.getElem?_toArray, List.getElem?_cons_succ, List.getElem?_cons_zero] at x2
        have HOW := Lib.hid how
        have I4 := Lib.hid i4
        have I5 := Lib.hid i5
        have I6 := Lib.hid i6
        have I8 := Lib.hid i8
        have HB := Lib.hid hB
        have hsW := hB.size
        by_cases ho : ow = 0
        · have HN : Hid (ownL (pre ++ [q]) 0 = some q.2.g) := Lib.hid (by rw [ownL_append, how]; simp [ownL, ho])
          subst ho
          clear i4 i5 i6 i8 hB how rX
          gi_wp2
          exact ⟨(KeepsOthers.setCell _ _ _).from _, (KpT.refl _ _ _).set (by omega) (by omega) _, ⟨⟨⟨⟨q.2.g, HN.out, I8.out.set _⟩, I4.out.other (by omega) _⟩, I5.out.other (by omega) _⟩, I6.out.other (by omega) _⟩, HB.out.setCell (p := ⟨w1.heap.size, 0, none⟩) (by show w.heap.size ≤ w1.heap.size; omega) _⟩
        · by_cases hgo : q.2.g = ow
          · have HN : Hid (ownL (pre ++ [q]) 0 = some q.2.g) := Lib.hid (by rw [ownL_append, how]; simp [ownL, hgo])
            clear i4 i5 i6 i8 hB how rX
            have hb1 : (ow != 0) = true := by simpa using ho
            have hb2 : (q.2.g != ow) = false := by simpa using hgo
            gi_wp2
            exact ⟨(KeepsOthers.setCell _ _ _).from _, (KpT.refl _ _ _).set (by omega) (by omega) _, ⟨⟨⟨⟨q.2.g, HN.out, by rw [hgo]; exact I8.out.set _⟩, I4.out.other (by omega) _⟩, I5.out.other (by omega) _⟩, I6.out.other (by omega) _⟩, HB.out.setCell (p := ⟨w1.heap.size, 0, none⟩) (by show w.heap.size ≤ w1.heap.size; omega) _⟩
          · have HN : Hid (ownL (pre ++ [q]) 0 = none) := Lib.hid (by rw [ownL_append, how]; simp [ownL, hgo, ho])
            clear i4 i5 i6 i8 hB how rX
            have hb1 : (ow != 0) = true := by simpa using ho
            have hb2 : (q.2.g != ow) = true := by simpa using hgo
            gi_wp2
            exact ⟨(((KeepsOthers.setCell _ _ _).trans (KeepsOthers.setCell _ _ _)).trans (KeepsOthers.setCell _ _ _)).from _, ⟨⟨⟨⟨rfl, HN.out⟩, ((I4.out.set _).other (by omega) _).other (by omega) _⟩, (((I5.out.other (by omega) _).set _).other (by omega) _), (((I6.out.other (by omega) _).other (by omega) _).set _)⟩, ((HB.out.setCell (p := ⟨w.heap.size + 1, 0, none⟩) (by show w.heap.size ≤ w.heap.size + 1; omega) _).setCell (p := ⟨w.heap.size + 1 + 1, 0, none⟩) (by show w.heap.size ≤ w.heap.size + 1 + 1; omega) _).setCell (p := ⟨w.heap.size + 1 + 1 + 1, 0, none⟩) (by show w.heap.size ≤ w.heap.size + 1 + 1 + 1; omega) _⟩⟩
      case done =>
        rintro D ys W hD rfl ⟨⟨⟨⟨⟨ow, how, i8⟩, i4⟩, i5⟩, i6⟩, hB⟩ hK
        have c8 := i8.cell
        have k4 := i4.cell
        have k5 := i5.cell
        have k6 := i6.cell
        have g4 := i4.frozen
        have g5 := i5.frozen
        have g6 := i6.frozen
        gi_wp2
        gi_region
        gi_wp2
        have hv : V = (ow, decide (0 < ow), 0) := by
          have := HV.out
          rw [how] at this
          exact this.symm
        have W4 := ((i4.set (.int .i64 ow)).other (B' := w.heap.size + 1 + 1) (by omega) (.bool (decide (0 < ow)))).other (B' := w.heap.size + 1 + 1 + 1) (by omega) (.int .i64 0)
        have W5 := ((i5.other (B' := w.heap.size + 1) (by omega) (.int .i64 ow)).set (.bool (decide (0 < ow)))).other (B' := w.heap.size + 1 + 1 + 1) (by omega) (.int .i64 0)
        have W6 := ((i6.other (B' := w.heap.size + 1) (by omega) (.int .i64 ow)).other (B' := w.heap.size + 1 + 1) (by omega) (.bool (decide (0 < ow)))).set (.int .i64 0)
        have hK' := (((KeepsOthers.setCell W ⟨w.heap.size + 1, 0, none⟩ (.int .i64 ow)).trans (KeepsOthers.setCell _ ⟨w.heap.size + 1 + 1, 0, none⟩ (.bool (decide (0 < ow))))).trans (KeepsOthers.setCell _ ⟨w.heap.size + 1 + 1 + 1, 0, none⟩ (.int .i64 0))).same D _ hK rfl
        have hB3 := (((hB0.trans hB).setCell (p := ⟨w.heap.size + 1, 0, none⟩) (by show w.heap.size ≤ w.heap.size + 1; omega) (.int .i64 ow)).setCell (p := ⟨w.heap.size + 1 + 1, 0, none⟩) (by show w.heap.size ≤ w.heap.size + 1 + 1; omega) (.bool (decide (0 < ow)))).setCell (p := ⟨w.heap.size + 1 + 1 + 1, 0, none⟩) (by show w.heap.size ≤ w.heap.size + 1 + 1 + 1; omega) (.int .i64 0)
        generalize ((W.setCell ⟨w.heap.size + 1, 0, none⟩ (.int .i64 ow)).setCell ⟨w.heap.size + 1 + 1, 0, none⟩ (.bool (decide (0 < ow)))).setCell ⟨w.heap.size + 1 + 1 + 1, 0, none⟩ (.int .i64 0) = X at W4 W5 W6 hK' hB3 ⊢
        have hKd : X.drew.heap[D]? = some (.deferred (some [])) := hK'
        have gb := grownBy_putObj' X.drew D (.deferred none)
        have j4 := (Boxed.kept (W := X.drew) W4 gb (fun e => by cases e; omega)).cell
        have j5 := (Boxed.kept (W := X.drew) W5 gb (fun e => by cases e; omega)).cell
        have j6 := (Boxed.kept (W := X.drew) W6 gb (fun e => by cases e; omega)).cell
        refine ⟨by simp, .inl ⟨_, _, rfl, run_takeDeferred hKd, ?_⟩⟩
        refine ⟨ownerE (ow, decide (0 < ow), 0), ?_, by rw [hv], hB3.drew.trans (belowK_b (w := w) (Nat.le_refl _) X.drew D _ _ (by omega) hKd rfl rfl)⟩
        simp [results, ownerE, Tryd.f16, go_sem, j4, j5, j6]
      case stop =>
        rintro D c pre W hD ⟨k, hk, rfl⟩ ⟨⟨⟨⟨rfl, hnn⟩, i4⟩, i5, i6⟩, hB⟩ hK
        have hv : V = (0, false, 0) := by
          have := HV.out
          rw [own_stop d x y hk hnn] at this
          exact this.symm
        subst hv
        clear HV
        have hlt := (Array.getElem?_eq_some_iff.1 hK).1
        have gb := grownBy_putObj' W D (.deferred none)
        have j4 := (i4.kept gb (fun e => by cases e; omega)).cell
        have j5 := (i5.kept gb (fun e => by cases e; omega)).cell
        have j6 := (i6.kept gb (fun e => by cases e; omega)).cell
        gi_wp2
        refine ⟨by simp, .inl ⟨_, _, rfl, run_takeDeferred hK, ?_⟩⟩
        refine ⟨ownerE (0, false, 0), ?_, rfl, (hB0.trans hB).trans (belowK_b (w := w) (Nat.le_refl _) W D _ _ (by omega) hK rfl rfl)⟩
        simp [results, ownerE, Tryd.f16, go_sem, j4, j5, j6]
end Go.Proofs.YtkkkppbcjmeapaaDoor
