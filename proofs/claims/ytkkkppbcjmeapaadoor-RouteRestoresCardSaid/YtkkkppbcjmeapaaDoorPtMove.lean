/- Move. Condition: the map is small, texts are no longer than an int can say. -/
import Derived.Test.YtkkkppbcjmeapaaDoorPtDn
import Derived.BigRegionIn
import Derived.Deep.RegionHeld3
import Derived.IntWalk
namespace Go.Proofs.YtkkkppbcjmeapaaDoor
open Go.RowKit Go.Shelf
attribute [local go_sem] Oper.semAt_some

/-- What Move leaves. -/
def MoveR (w w' : World) (B : Nat) (v : Int × Int × List Pt) (e : Ending) : Prop := e = .returned (.tuple #[.int .i64 v.1, .int .i64 v.2.1]) ∧ MapAt w' B v.2.2 ∧ w.grownBy w' (some B)

/-- How a round is left. -/
def MvPost (n0 N K Bx : Nat) (x y : ByteArray) (W0 W : World) (p : Pt) (fst lst mx : Int) (left : List Pt) : Exit → Act → World → Prop
  | .normal, _, W' => ∃ G o ps, MvS n0 N K Bx G o ps x y W0 W W' p fst lst mx left
  | _, _, _ => False
theorem below_but {w w' : World} (B : Nat) (h : Below w.heap.size w w') : w.grownBy w' (some B) := ⟨h.os, h.tape, h.output, h.size, fun k hk _ => h.block k hk⟩

set_option maxRecDepth 100000 in
set_option maxHeartbeats 4000000 in
theorem move_no (B : Nat) (d : List Pt) (x y : ByteArray) (g : Int) (w : World) (h : MapAt w B d) (hs : SmallP d) (hx : x.size ≤ 9223372036854775807) (hy : y.size ≤ 9223372036854775807) (er : Int)
    (hno : ((ownerV d x y).2.2 ≠ 0 ∧ er = (ownerV d x y).2.2) ∨ ((ownerV d x y).2.2 = 0 ∧ ¬ (1 ≤ g ∧ g < 8) ∧ er = 2) ∨ ((ownerV d x y).2.2 = 0 ∧ (1 ≤ g ∧ g < 8) ∧ ((ownerV d x y).2.1 = false ∨ (ownerV d x y).1 = g) ∧ er = 9)) :
    Calls Tryd.prog 15 #[.pointer (some ⟨B, 0, none⟩), .agg #[.string x, .string y], .int .i64 g] w fun e w' => e = .returned (.tuple #[.int .i64 0, .int .i64 er]) ∧ Below w.heap.size w w' := by
  have b1 := (Below.refl w.heap.size w).alloc (Nat.le_refl _) (.cells #[.string x, .string y] 30)
  have O := Lib.hid (owner_any B d x y _ (h.keep b1) hs hx hy)
  have G := Lib.hid (fun W => isGroup_any g W)
  unfold ownerE at O
  generalize ownerV d x y = V at O hno
  obtain ⟨o, is, e0⟩ := V
  dsimp only at O hno
  clear h hs hx hy
  rcases hno with ⟨h1, h2⟩ | ⟨h1, h2, h3⟩ | ⟨h1, h2, h3, h4⟩
  · subst h2
    have hb : (er != 0) = true := by simpa using h1
    refine (callsIn_wide (n := 8)).1 ?_
    refine callsIn_of_wp_marks Tryd.func15 rfl trivial ?_ rfl
    simp only [Tryd.ntmps15, List.size_toArray, List.length_cons, List.length_nil, Nat.reduceAdd, Nat.reduceSub, Array.replicate_succ, Array.replicate_zero, List.push_toArray, List.append_toArray, List.nil_append, List.cons_append]
    gi_wp2_with (refine ⟨trivial, ?_⟩; gi_at_call 16; refine (callsIn_wide.2 O.out).mono ?_; rintro e w1 ⟨rfl, hb1⟩; have HB := Lib.hid (b1.trans (hb1.mono b1.size)); clear hb1)
    exact ⟨_, results_tmp2 rfl _ _ _, rfl, HB.out⟩
  · subst h1 h3
    rw [decide_eq_false h2] at G
    refine (callsIn_wide (n := 8)).1 ?_
    refine callsIn_of_wp_marks Tryd.func15 rfl trivial ?_ rfl
    simp only [Tryd.ntmps15, List.size_toArray, List.length_cons, List.length_nil, Nat.reduceAdd, Nat.reduceSub, Array.replicate_succ, Array.replicate_zero, List.push_toArray, List.append_toArray, List.nil_append, List.cons_append]
    gi_wp2_with (first
      | (refine ⟨trivial, ?_⟩; gi_at_call 16; refine (callsIn_wide.2 O.out).mono ?_; rintro e w1 ⟨rfl, hb1⟩; have HB := Lib.hid (b1.trans (hb1.mono b1.size)); clear hb1)
      | (refine ⟨trivial, ?_⟩; gi_at_call 41; refine (callsIn_wide.2 (G.out _)).mono ?_; rintro e w2 ⟨rfl, rfl⟩))
    exact ⟨_, results_tmp2 rfl _ _ _, rfl, HB.out⟩
  · subst h1 h4
    rw [decide_eq_true h2] at G
    have hor : (!is || (o == g)) = true := by simpa using h3
    cases is with
    | false =>
      refine (callsIn_wide (n := 8)).1 ?_
      refine callsIn_of_wp_marks Tryd.func15 rfl trivial ?_ rfl
      simp only [Tryd.ntmps15, List.size_toArray, List.length_cons, List.length_nil, Nat.reduceAdd, Nat.reduceSub, Array.replicate_succ, Array.replicate_zero, List.push_toArray, List.append_toArray, List.nil_append, List.cons_append]
      gi_wp2_with (first
        | (refine ⟨trivial, ?_⟩; gi_at_call 16; refine (callsIn_wide.2 O.out).mono ?_; rintro e w1 ⟨rfl, hb1⟩; have HB := Lib.hid (b1.trans (hb1.mono b1.size)); clear hb1)
        | (refine ⟨trivial, ?_⟩; gi_at_call 41; refine (callsIn_wide.2 (G.out _)).mono ?_; rintro e w2 ⟨rfl, rfl⟩))
      exact ⟨_, results_tmp2 rfl _ _ _, rfl, HB.out⟩
    | true =>
      obtain rfl : o = g := by simpa using h3
      refine (callsIn_wide (n := 8)).1 ?_
      refine callsIn_of_wp_marks Tryd.func15 rfl trivial ?_ rfl
      simp only [Tryd.ntmps15, List.size_toArray, List.length_cons, List.length_nil, Nat.reduceAdd, Nat.reduceSub, Array.replicate_succ, Array.replicate_zero, List.push_toArray, List.append_toArray, List.nil_append, List.cons_append]
      gi_wp2_with (first
        | (refine ⟨trivial, ?_⟩; gi_at_call 16; refine (callsIn_wide.2 O.out).mono ?_; rintro e w1 ⟨rfl, hb1⟩; have HB := Lib.hid (b1.trans (hb1.mono b1.size)); clear hb1)
        | (refine ⟨trivial, ?_⟩; gi_at_call 41; refine (callsIn_wide.2 (G.out _)).mono ?_; rintro e w2 ⟨rfl, rfl⟩))
      exact ⟨_, results_tmp2 rfl _ _ _, rfl, HB.out⟩

set_option maxRecDepth 100000 in
set_option maxHeartbeats 8000000 in
theorem move_yes (B : Nat) (d : List Pt) (x y : ByteArray) (g : Int) (w : World) (h : MapAt w B d) (hs : SmallP d) (hd : d.length ≤ 64) (he : ∀ p ∈ d, p.e ≤ 2147483648) (hx : x.size ≤ 9223372036854775807) (hy : y.size ≤ 9223372036854775807)
    (h0 : (ownerV d x y).2.2 = 0) (hg : 1 ≤ g ∧ g < 8) (h2 : (ownerV d x y).2.1 = true) (h3 : (ownerV d x y).1 ≠ g) :
    Calls Tryd.prog 15 #[.pointer (some ⟨B, 0, none⟩), .agg #[.string x, .string y], .int .i64 g] w fun e w' => MoveR w w' B (if 64 < (newL d x y g).length then (0, 4, d) else (min (epL (tl d x y d.length) + 1) 2147483648, 0, newL d x y g)) e := by
  have b1 := (Below.refl w.heap.size w).alloc (Nat.le_refl _) (.cells #[.string x, .string y] 30)
  have O := Lib.hid (owner_any B d x y _ (h.keep b1) hs hx hy)
  have G := Lib.hid (fun W => isGroup_any g W)
  rw [decide_eq_true hg] at G
  have HNE := Lib.hid (owner_pos h2)
  unfold ownerE at O
  generalize ownerV d x y = V at O h0 h2 h3
  obtain ⟨o, is, e0⟩ := V
  dsimp only at O h0 h2 h3
  subst h0 h2
  have hbo : (o == g) = false := by simpa using h3
  generalize hV : (if 64 < (newL d x y g).length then ((0, 4, d) : Int × Int × List Pt) else (min (epL (tl d x y d.length) + 1) 2147483648, 0, newL d x y g)) = V
  have HV := Lib.hid hV
  clear hV h3
  refine (callsIn_wide (n := 8)).1 ?_
  refine callsIn_of_wp_marks Tryd.func15 rfl trivial ?_ rfl
  simp only [Tryd.ntmps15, List.size_toArray, List.length_cons, List.length_nil, Nat.reduceAdd, Nat.reduceSub, Array.replicate_succ, Array.replicate_zero, List.push_toArray, List.append_toArray, List.nil_append, List.cons_append]
  gi_wp2_with (first
    | (refine ⟨trivial, ?_⟩; gi_at_call 16; refine (callsIn_wide.2 O.out).mono ?_; rintro e w1 ⟨rfl, hb1⟩; have RX := (Whole.new w 30 #[.string x, .string y]).below hb1 (by simp); have HB := Lib.hid (b1.trans (hb1.mono b1.size)); clear hb1 O
       have q0 : ((((w1.alloc (.cells #[.int .i64 (-1)] 3)).alloc (.cells #[.int .i64 (-1)] 3)).alloc (.cells #[.int .i64 0] 3)).alloc (.cells #[.slice none 0 0] 72)).cell? ⟨w.heap.size, 0, none⟩ = some (.string x) := cell_al _ (cell_al _ (cell_al _ (cell_al _ (RX.cell 0))))
       have q1 : ((((w1.alloc (.cells #[.int .i64 (-1)] 3)).alloc (.cells #[.int .i64 (-1)] 3)).alloc (.cells #[.int .i64 0] 3)).alloc (.cells #[.slice none 0 0] 72)).cell? ⟨w.heap.size, 1, none⟩ = some (.string y) := cell_al _ (cell_al _ (cell_al _ (cell_al _ (RX.cell 1)))))
    | (refine ⟨trivial, ?_⟩; gi_at_call 41; refine (callsIn_wide.2 (G.out _)).mono ?_; rintro e w2 ⟨rfl, rfl⟩)
    | (refine ⟨trivial, ?_⟩; gi_at_call 42; refine (touched_in _ _ _ _ _).mono ?_; rintro e w2 ⟨rfl, rfl⟩))
  obtain ⟨v0, hbx, hpa⟩ := h
  have hne : d ≠ [] := by rintro rfl; exact HNE.out rfl
  rcases hpa with ⟨h3, _⟩ | ⟨gg, o1, cap, rfl, hc, hcl⟩
  · exact absurd h3 hne
  have hlw : w.heap.size + 1 ≤ w1.heap.size := RX.lt
  have f11 := (((((Boxed.new w1 3 (.int .i64 (-1))).alloc (.cells #[.int .i64 (-1)] 3)).alloc (.cells #[.int .i64 0] 3)).alloc (.cells #[.slice none 0 0] 72)).alloc (.cells #[.pointer (some ⟨B, 0, none⟩)] 25)).alloc (.cells #[.string x, .string y] 30)
  have f12 := ((((Boxed.new (w1.alloc (.cells #[.int .i64 (-1)] 3)) 3 (.int .i64 (-1))).alloc (.cells #[.int .i64 0] 3)).alloc (.cells #[.slice none 0 0] 72)).alloc (.cells #[.pointer (some ⟨B, 0, none⟩)] 25)).alloc (.cells #[.string x, .string y] 30)
  have f13 := (((Boxed.new ((w1.alloc (.cells #[.int .i64 (-1)] 3)).alloc (.cells #[.int .i64 (-1)] 3)) 3 (.int .i64 0)).alloc (.cells #[.slice none 0 0] 72)).alloc (.cells #[.pointer (some ⟨B, 0, none⟩)] 25)).alloc (.cells #[.string x, .string y] 30)
  have f14 := ((Boxed.new (((w1.alloc (.cells #[.int .i64 (-1)] 3)).alloc (.cells #[.int .i64 (-1)] 3)).alloc (.cells #[.int .i64 0] 3)) 72 (.slice none 0 0)).alloc (.cells #[.pointer (some ⟨B, 0, none⟩)] 25)).alloc (.cells #[.string x, .string y] 30)
  have f15 := (Boxed.new ((((w1.alloc (.cells #[.int .i64 (-1)] 3)).alloc (.cells #[.int .i64 (-1)] 3)).alloc (.cells #[.int .i64 0] 3)).alloc (.cells #[.slice none 0 0] 72)) 25 (.pointer (some ⟨B, 0, none⟩))).alloc (.cells #[.string x, .string y] 30)
  have fR := Whole.new (((((w1.alloc (.cells #[.int .i64 (-1)] 3)).alloc (.cells #[.int .i64 (-1)] 3)).alloc (.cells #[.int .i64 0] 3)).alloc (.cells #[.slice none 0 0] 72)).alloc (.cells #[.pointer (some ⟨B, 0, none⟩)] 25)) 30 #[.string x, .string y]
  have fX := (((((RX.alloc (.cells #[.int .i64 (-1)] 3)).alloc (.cells #[.int .i64 (-1)] 3)).alloc (.cells #[.int .i64 0] 3)).alloc (.cells #[.slice none 0 0] 72)).alloc (.cells #[.pointer (some ⟨B, 0, none⟩)] 25)).alloc (.cells #[.string x, .string y] 30)
  simp only [World.size_alloc] at f12 f13 f14 f15 fR
  have hB0 : Below w.heap.size w ((((((w1.alloc (.cells #[.int .i64 (-1)] 3)).alloc (.cells #[.int .i64 (-1)] 3)).alloc (.cells #[.int .i64 0] 3)).alloc (.cells #[.slice none 0 0] 72)).alloc (.cells #[.pointer (some ⟨B, 0, none⟩)] 25)).alloc (.cells #[.string x, .string y] 30)) := (((((HB.out.alloc (by omega) _).alloc (by simp; omega) _).alloc (by simp; omega) _).alloc (by simp; omega) _).alloc (by simp; omega) _).alloc (by simp; omega) _
  have hsz : ((((((w1.alloc (.cells #[.int .i64 (-1)] 3)).alloc (.cells #[.int .i64 (-1)] 3)).alloc (.cells #[.int .i64 0] 3)).alloc (.cells #[.slice none 0 0] 72)).alloc (.cells #[.pointer (some ⟨B, 0, none⟩)] 25)).alloc (.cells #[.string x, .string y] 30)).heap.size = w1.heap.size + 6 := by simp
  obtain ⟨W0, hW0⟩ : ∃ W0, (((((w1.alloc (.cells #[.int .i64 (-1)] 3)).alloc (.cells #[.int .i64 (-1)] 3)).alloc (.cells #[.int .i64 0] 3)).alloc (.cells #[.slice none 0 0] 72)).alloc (.cells #[.pointer (some ⟨B, 0, none⟩)] 25)).alloc (.cells #[.string x, .string y] 30) = W0 := ⟨_, rfl⟩
  rw [hW0] at f11 f12 f13 f14 f15 fR fX hB0 hsz ⊢
  have hgl : gg < w.heap.size := by
    obtain ⟨p, hp⟩ : ∃ p, d[0]? = some p := by cases d with | nil => exact absurd rfl hne | cons p ps => exact ⟨p, rfl⟩
    exact lt_of_cellR (hc 0 p hp).1
  have hb : B < w.heap.size := hbx.lt
  have TM : TouchM W0 w.heap.size (w1.heap.size + 1 + 1 + 1 + 1 + 1) B gg o1 x y d cap := ⟨hb, hgl, fR.cell 0, fR.cell 1, (hB0.cell hb).trans hbx.cell, hc.keep hB0⟩
  have HNe := Lib.hid hne
  have HTL := Lib.hid (tl_len d x y d.length)
  clear hW0 b1 RX q0 q1 G hne
  refine wpIn_rangeFunc_ownH rfl (by decide) (gf := 66) (lb := #[.pointer (some ⟨w1.heap.size + 1 + 1 + 1 + 1, 0, none⟩), .pointer (some ⟨w1.heap.size + 1 + 1 + 1 + 1 + 1, 0, none⟩)]) rfl trivial (enters_of Tryd.func66 (by kernel_rfl) rfl)
    (touchedS_stops (8 - 1) (by decide) (w1.heap.size + 1 + 1 + 1 + 1) (w1.heap.size + 1 + 1 + 1 + 1 + 1) B gg o1 cap w.heap.size x y d hx hy hs W0 (by omega) TM f15.cell) KpT.trans (kpT_b (by omega) (by omega)) (Below.refl _ _) (fun _ => rfl)
    (fun (pre : List (Touched d x y)) W => (((((Boxed W w1.heap.size 3 (.int .i64 (fstL (pre.map Touched.val'))) ∧ Boxed W (w1.heap.size + 1) 3 (.int .i64 (lstL (pre.map Touched.val')))) ∧ Boxed W (w1.heap.size + 1 + 1) 3 (.int .i64 (epL (pre.map Touched.val')))) ∧ Whole W w.heap.size 30 #[.string x, .string y]) ∧ Whole W (w1.heap.size + 1 + 1 + 1 + 1 + 1) 30 #[.string x, .string y]) ∧ (∃ v, Boxed W (w1.heap.size + 1 + 1 + 1) 72 v ∧ W.ownsRow w.heap.size 89 4 v (leftL x y (pre.map Touched.val')).length (flatP (leftL x y (pre.map Touched.val'))) ∧ True)) ∧ Below w.heap.size W0 W)
    (fun _ _ _ => False)
    (OwnFrom.and (OwnFrom.and (OwnFrom.and (OwnFrom.and (OwnFrom.and (OwnFrom.and (Own.from (boxed_own _ _ _) _) (Own.from (boxed_own _ _ _) _)) (Own.from (boxed_own _ _ _) _)) (Own.from (whole_own _ _ _) _)) (Own.from (whole_own _ _ _) _)) (Own.from (holdsRow_own w.heap.size (w1.heap.size + 1 + 1 + 1) 72 89 4 (fun (pre : List (Touched d x y)) => (leftL x y (pre.map Touched.val')).length) (fun (pre : List (Touched d x y)) => flatP (leftL x y (pre.map Touched.val'))) (fun _ _ => True)) _)) (ownFrom_below (by omega) (by omega)))
    (fun _ _ _ _ _ hs _ _ => hs)
    ⟨⟨⟨⟨⟨⟨f11, f12⟩, f13⟩, fX⟩, fR⟩, ⟨_, f14, own_nil _ _ _ _, trivial⟩⟩, Below.refl _ _⟩
    (fun (q : Touched d x y) a' W => ∃ Bx, w1.heap.size + 5 < Bx ∧ (Whole W Bx 89 #[.string q.val'.2.f, .string q.val'.2.t, .int .i64 q.val'.2.g, .int .i64 q.val'.2.e] ∧ ∃ v, Boxed W (w1.heap.size + 1 + 1 + 1) 72 v ∧ some Bx ≠ v.ownBlock) ∧ a' = { tmps := #[.pointer (some ⟨B, 0, none⟩), .agg #[.string x, .string y], .int .i64 g, undef, .pointer (some ⟨w.heap.size, 0, none⟩), undef, .int .i64 0, .int .i64 0, .int .i64 o, .bool true, .int .i64 0, .pointer (some ⟨w1.heap.size, 0, none⟩), .pointer (some ⟨w1.heap.size + 1, 0, none⟩), .pointer (some ⟨w1.heap.size + 1 + 1, 0, none⟩), .pointer (some ⟨w1.heap.size + 1 + 1 + 1, 0, none⟩), .int .i64 (q.val'.1 : Int), .pointer (some ⟨Bx, 0, none⟩), undef, undef, undef, undef, undef, undef, .tuple #[.int .i64 o, .bool true, .int .i64 0], .pointer (some ⟨B, 0, none⟩), .agg #[.string x, .string y], .tuple #[.int .i64 o, .bool true, .int .i64 0], .int .i64 o, .bool true, .int .i64 0, .bool false, .int .i64 0, .bool false, undef, .bool false, .int .i64 g, .bool true, .bool false, .bool false, .bool true, .bool false, .bool false, .int .i64 o, .int .i64 g, .bool false, .bool false, .pointer (some ⟨B, 0, none⟩), .agg #[.string x, .string y], .func (.func 66) #[] #[.pointer (some ⟨w1.heap.size + 1 + 1 + 1 + 1, 0, none⟩), .pointer (some ⟨w1.heap.size + 1 + 1 + 1 + 1 + 1, 0, none⟩)], .int .i64 (q.val'.1 : Int), .agg #[.string q.val'.2.f, .string q.val'.2.t, .int .i64 q.val'.2.g, .int .i64 q.val'.2.e], undef, undef, undef, undef, undef, undef, undef, undef, undef, undef, undef, undef, undef, undef, undef, undef, undef, undef, undef, undef, undef, undef, undef, undef, undef, undef, undef, undef, undef, undef, undef, undef, undef, undef, undef, undef, undef, undef, undef, undef, undef, undef, undef, undef, undef, undef, undef, undef, undef, undef, undef, undef, undef, undef, undef, undef, undef, undef, undef, undef, undef, undef, undef, undef, undef, undef, undef, undef, undef, undef, undef, undef, undef, undef, undef, undef, undef, undef, undef, undef, undef, undef, undef, undef, undef, undef], defers := [] })
    (fun q a' _ X Y row hs hg hr => by
      obtain ⟨Bx, h1, ⟨h2, v, h3, h4⟩, h5⟩ := hs
      exact ⟨Bx, h1, ⟨whole_own Bx 89 (fun (_ : Unit) => #[.string q.val'.2.f, .string q.val'.2.t, .int .i64 q.val'.2.g, .int .i64 q.val'.2.e]) () X Y row h2 hg (fun r e => (hr r e).2), v, boxed_own (w1.heap.size + 1 + 1 + 1) 72 (fun (_ : Unit) => v) () X Y row h3 hg (fun r e => (hr r e).2), h4⟩, h5⟩)
    ?assign ?body ?done ?stop
  case assign =>
    rintro l pre q W K ⟨⟨⟨⟨⟨⟨i11, i12⟩, i13⟩, iX⟩, iR⟩, ⟨v, i14, irow, _⟩⟩, hB⟩ hK
    have hsW := hB.size
    unfold ptV
    gi_wp2
    exact hK _ _ ((KeepsOthers.alloc _ _).from _) (KpT.of_below ((Below.refl _ W).alloc (Nat.le_refl _) _) (by omega) (by omega)) ⟨⟨⟨⟨⟨⟨i11.alloc _, i12.alloc _⟩, i13.alloc _⟩, iX.alloc _⟩, iR.alloc _⟩, ⟨v, i14.alloc _, irow.alloc _, trivial⟩⟩, hB.alloc (by omega) _⟩ ⟨W.heap.size, by omega, ⟨Whole.new W _ _, v, i14.alloc _, fun e => by have := (irow.lt _ e.symm).2; omega⟩, rfl⟩
  case body =>
    rintro l pre q a' W hl ⟨r, hr⟩ ⟨⟨⟨⟨⟨⟨i11, i12⟩, i13⟩, iX⟩, iR⟩, ⟨v, i14, irow, _⟩⟩, hB⟩ ⟨Bx, hBx, ⟨rX, v', i14', hnv⟩, rfl⟩ hlt
    obtain rfl : v' = v := by
      have := (show W.heap[w1.heap.size + 1 + 1 + 1]? = _ from i14').symm.trans (show W.heap[w1.heap.size + 1 + 1 + 1]? = _ from i14)
      simpa using this
    have hq1 : d[q.val'.1]? = some q.val'.2 := q.2.1
    have hq2 : tch x y q.val'.2 = true := q.2.2
    have hpl : (leftL x y (pre.map Touched.val')).length ≤ 130 := by
      have := leftL_len x y (pre.map Touched.val'); rw [List.length_map] at this; omega
    have M0 : MvS w.heap.size w1.heap.size W0.heap.size Bx Bx 0 [] x y W0 W W q.val'.2 (fstL (pre.map Touched.val')) (lstL (pre.map Touched.val')) (epL (pre.map Touched.val')) (leftL x y (pre.map Touched.val')) :=
      ⟨by omega, by omega, by omega, by have := hB.size; omega, by have := hB.size; omega, KeepsFrom.refl _ _, KpT.refl _ _ _, i11, i12, i13, iX, iR, rX, fun i p hi => by simp at hi, ⟨_, i14, irow, hnv, fun h => absurd rfl h⟩, hB⟩
    refine wpIn_mono (Q := MvPost w.heap.size w1.heap.size W0.heap.size Bx x y W0 W q.val'.2 (if fstL (pre.map Touched.val') < 0 then (q.val'.1 : Int) else fstL (pre.map Touched.val')) (q.val'.1 : Int) (max (epL (pre.map Touched.val')) q.val'.2.e) (leftL x y (pre.map Touched.val') ++ pieces x y q.val')) ?_ ?_
    · have HSZ := Lib.hid hsz
      clear hsz
      generalize q.val' = qv at hq1 hq2 M0 ⊢
      generalize fstL (pre.map Touched.val') = F0 at M0 ⊢
      generalize lstL (pre.map Touched.val') = L0 at M0 ⊢
      generalize epL (pre.map Touched.val') = E0 at M0 ⊢
      generalize leftL x y (pre.map Touched.val') = left at M0 hpl ⊢
      generalize hF1 : (if F0 < 0 then (qv.1 : Int) else F0) = F1
      have HF1 := Lib.hid hF1
      clear hF1
      clear i11 i12 i13 iX iR i14 i14' irow hB hnv rX hlt hr TM f11 f12 f13 f14 f15 fX fR q
      obtain ⟨ki, ⟨pf, pt, pg, pe⟩⟩ := qv
      dsimp only at hq1 hq2 M0 ⊢
      obtain ⟨z1, z2⟩ := hs.at hq1
      dsimp only at z1 z2
      have hok : (okR pf pt = true ∧ okR x y = true) := by unfold tch at hq2; simp only [Bool.and_eq_true] at hq2; exact hq2.1
      have C := Lib.hid (fun W => without_tch pf pt x y W z1 z2 hx hy hok.1 hok.2)
      have HP : Hid (pieces x y (ki, ⟨pf, pt, pg, pe⟩) = (outL pf pt x y).map fun p => ⟨p.1, p.2, pg, pe⟩) := Lib.hid rfl
      have HLn : Hid ((outL pf pt x y).length ≤ 2) := Lib.hid (outL_len _ _ _ _)
      generalize pieces x y (ki, ⟨pf, pt, pg, pe⟩) = pcs at HP ⊢
      generalize outL pf pt x y = ps at C HP HLn
      have c11 := M0.b11.cell
      have g11 := M0.b11.frozen
      clear hq1 hq2 z1 z2 hok
      have HM0 := Lib.hid M0
      clear M0
      gi_upto_if 52 with fail
      gi_cut [] from 52 (fun wx => MvS w.heap.size w1.heap.size W0.heap.size Bx Bx 0 [] x y W0 W wx ⟨pf, pt, pg, pe⟩ F1 L0 E0 left)
      case first =>
        by_cases hf : F0 < 0
        · gi_wp2
          gi_meet
          case rel => rw [← HF1.out, if_pos hf]; exact HM0.out.s11 _
        · gi_wp2
          gi_meet
          case rel => rw [← HF1.out, if_neg (by omega)]; exact HM0.out
      case rest =>
        clear c11 g11 HM0
        have c12 := hcut.b12.cell
        have c13 := hcut.b13.cell
        have g12 := hcut.b12.frozen
        have g13 := hcut.b13.frozen
        have x3 := hcut.wB.cell 3
        simp only [List.getElem?_toArray, List.getElem?_cons_succ, List.getElem?_cons_zero] at x3
        have hM := Lib.hid (fun ts t W => run_maxI (P := Tryd.prog) ts t E0 pe W)
        have M1 := Lib.hid hcut
        clear hcut
        gi_upto_region 15 with fail
        gi_cut [] from 54 (fun wx => MvS w.heap.size w1.heap.size W0.heap.size Bx Bx 0 [] x y W0 W wx ⟨pf, pt, pg, pe⟩ F1 (ki : Int) (max E0 pe) left)
        case first =>
          have hM2 := fun ts t W => hM.out ts t W
          gi_region
          all_goals
            gi_wp2_with fail
            gi_meet
            case rel => first | exact ((M1.out.s12 _).s13 _).drew | exact ((M1.out.s13 _).s12 _).drew
        case rest =>
          clear x3 c12 c13 g12 g13 hM M1
          have x0 := hcut.wB.cell 0
          have x1 := hcut.wB.cell 1
          have y0 := hcut.wX.cell 0
          have y1 := hcut.wX.cell 1
          simp only [List.getElem?_toArray, List.getElem?_cons_succ, List.getElem?_cons_zero] at x0 x1 y0 y1
          have M2 := Lib.hid hcut
          clear hcut
          gi_wp2_with (refine ⟨trivial, ?_⟩; gi_at_call 43; refine (CallsIn.inRound l (callsIn_wide.2 (C.out _))).mono ?_; rintro e w2 ⟨⟨a2, cap2, G, o2, rfl, ha, hc2, hG⟩, hb2⟩; have HA := Lib.hid ha; have HC2 := Lib.hid hc2; have HB2 := Lib.hid hb2; clear ha hc2 hb2)
          have M3 := Lib.hid (M2.out.restC HB2.out HC2.out hG)
          clear x0 x1 y0 y1 M2 HB2 HC2 C
          generalize hm : ps.length = m at *
          have HM := Lib.hid hm
          have hm2 := HLn.out
          clear hm
          gi_loopw [68] (fun i wr => ∃ k : Nat, k ≤ m ∧ i = .int .i64 k ∧ MvS w.heap.size w1.heap.size W0.heap.size Bx G o2 ps x y W0 W wr ⟨pf, pt, pg, pe⟩ F1 (ki : Int) (max E0 pe) (left ++ pcs.take k)) (fun i _ => m - (intOf i).toNat)
          case atStart => exact ⟨0, Nat.zero_le _, rfl, by rw [List.take_zero, List.append_nil]; exact M3.out⟩
          case round =>
            rename_i wr
            obtain ⟨k, hk, rfl, hMk⟩ := hrel
            by_cases hlt : k < m
            · have hps : ps[k]? = some (ps[k]'(by rw [HM.out]; exact hlt)) := List.getElem?_eq_getElem _
              generalize ps[k]'(by rw [HM.out]; exact hlt) = sp at hps
              obtain ⟨sa, sb⟩ := sp
              have hpc : pcs[k]? = some ⟨sa, sb, pg, pe⟩ := by rw [HP.out, List.getElem?_map, hps]; rfl
              have hne : ps ≠ [] := fun e => by rw [e] at hps; simp at hps
              obtain rfl := HA.out hne
              obtain ⟨d0, d1⟩ := hMk.cR k _ hps
              have hGl : G < wr.heap.size := lt_of_cellR d0
              obtain ⟨v, r1, r2, r3, r4⟩ := hMk.row
              have c14 := cell_al (.cells #[.string sa, .string sb] 30) r1.cell
              have x2 := (hMk.wB.alloc (.cells #[.string sa, .string sb] 30)).cell 2
              have x3 := (hMk.wB.alloc (.cells #[.string sa, .string sb] 30)).cell 3
              simp only [List.getElem?_toArray, List.getElem?_cons_succ, List.getElem?_cons_zero] at x2 x3
              have own2 := (r2.alloc (.cells #[.string sa, .string sb] 30)).alloc (.cells #[.string sa, .string sb, .int .i64 pg, .int .i64 pe] 89)
              have hll : (left ++ pcs.take k).length ≤ 140 := by rw [List.length_append, List.length_take]; have := HLn.out; omega
              have hN1 := hMk.hN
              obtain ⟨v', w', hrun, hown', hgrow, hblk⟩ := run_app_pt5 _ _ _ _ _ own2 ⟨wr.heap.size + 1, 0, none⟩ 1 1 [.string sa, .string sb, .int .i64 pg, .int .i64 pe] rfl (news_at (wr.alloc (.cells #[.string sa, .string sb] 30)) 89 [.string sa, .string sb, .int .i64 pg, .int .i64 pe] _ (by simp)) (by intro u hu; simp at hu; rcases hu with rfl | rfl | rfl | rfl <;> rfl) (by omega) (by simp; omega)
              have hownX : w'.ownsRow w.heap.size 89 4 v' (left ++ pcs.take k ++ [(⟨sa, sb, pg, pe⟩ : Pt)]).length (flatP (left ++ pcs.take k ++ [(⟨sa, sb, pg, pe⟩ : Pt)])) := by
                have e : (left ++ pcs.take k ++ [(⟨sa, sb, pg, pe⟩ : Pt)]).length = (left ++ pcs.take k).length + 1 := by rw [List.length_append]; rfl
                rw [flatP_append, e]; exact hown'
              obtain ⟨g4, k4, nn, rfl⟩ : ∃ g4 k4 nn, v' = .slice (some ⟨g4, 0, none⟩) nn k4 := by
                obtain ⟨g4, k4, h⟩ := ownsRow_succ hown'
                exact ⟨g4, k4, _, h⟩
              have M4 := Lib.hid (((hMk.alloc (.cells #[.string sa, .string sb] 30)).alloc (.cells #[.string sa, .string sb, .int .i64 pg, .int .i64 pe] 89)).app (more := [⟨sa, sb, pg, pe⟩]) ((r1.alloc _).alloc _) hgrow hownX hblk (fun _ => by simp; omega))
              rw [take_snocL hpc] at M4
              have R := Lib.hid hrun
              have b14 : w'.cell? ⟨w1.heap.size + 1 + 1 + 1, 0, none⟩ = some v := (((r1.alloc (.cells #[.string sa, .string sb] 30)).alloc (.cells #[.string sa, .string sb, .int .i64 pg, .int .i64 pe] 89)).kept hgrow (Boxed.not_row ((r1.alloc (.cells #[.string sa, .string sb] 30)).alloc (.cells #[.string sa, .string sb, .int .i64 pg, .int .i64 pe] 89)) (by decide) own2)).cell
              have f14 : w'.frozen? ⟨w1.heap.size + 1 + 1 + 1, 0, none⟩ = false := (((r1.alloc (.cells #[.string sa, .string sb] 30)).alloc (.cells #[.string sa, .string sb, .int .i64 pg, .int .i64 pe] 89)).kept hgrow (Boxed.not_row ((r1.alloc (.cells #[.string sa, .string sb] 30)).alloc (.cells #[.string sa, .string sb, .int .i64 pg, .int .i64 pe] 89)) (by decide) own2)).frozen
              clear hps hpc hMk r1 r2 r3 r4 own2 hll hrun hown' hownX hgrow hblk HP HLn HA HM M3 hne
              gi_wp2_with (gi_at_builtin; refine wpListIn_append_run rfl (.tmp 72) (.tmp 79) 72 rfl rfl rfl R.out ?_)
              go_roundw
              case rel => exact ⟨k + 1, by omega, by go_num, M4.out⟩
              case measure => simp [intOf]; omega
            · obtain rfl : k = m := by omega
              have M5 : Hid (MvS w.heap.size w1.heap.size W0.heap.size Bx G o2 ps x y W0 W wr ⟨pf, pt, pg, pe⟩ F1 (ki : Int) (max E0 pe) (left ++ pcs)) := Lib.hid (by
                have := hMk
                rw [List.take_of_length_le (by rw [HP.out, List.length_map, HM.out]; exact Nat.le_refl _)] at this
                exact this)
              clear hMk
              gi_wp2_with fail
              exact ⟨_, _, _, M5.out⟩
    · rintro e a' W' h
      cases e with
      | normal =>
        obtain ⟨G, o, ps, M⟩ := h
        obtain ⟨v, h1, h2, _, _⟩ := M.row
        have e1 : (pre ++ [q]).map Touched.val' = pre.map Touched.val' ++ [q.val'] := by simp
        refine ⟨M.kf, M.kp, ?_⟩
        dsimp only
        rw [e1, fstL_snoc, lstL_snoc, epL_snoc, leftL_snoc]
        exact ⟨⟨⟨⟨⟨⟨M.b11, M.b12⟩, M.b13⟩, M.wX⟩, M.wR⟩, ⟨v, h1, h2, trivial⟩⟩, M.bl⟩
      | exit id => exact h.elim
      | goto t => exact h.elim
      | ret => exact h.elim
      | panic c => exact h.elim
      | outgrown => exact h.elim
  case done =>
    rintro D ys W hD hS ⟨⟨⟨⟨⟨⟨i11, i12⟩, i13⟩, iX⟩, iR⟩, ⟨v, i14, irow, _⟩⟩, hB⟩ hK
    rw [hS] at i11 i12 i13 irow
    have hll : (leftL x y (tl d x y d.length)).length ≤ 128 := by
      have := leftL_len x y (tl d x y d.length); have := HTL.out; omega
    obtain ⟨ff, ll, hff, hll2, hf1, hl1⟩ := fst_lst HNE.out
    obtain ⟨he1, he2⟩ := epL_bd (x := x) (y := y) he
    have M0 : DnS w.heap.size w1.heap.size D B gg o1 cap x y d w W (ff : Int) (ll : Int) (epL (tl d x y d.length)) v (leftL x y (tl d x y d.length)) :=
      ⟨by omega, by have := hB.size; omega, hb, hff ▸ i11, hll2 ▸ i12, i13, i14, iX, irow, hbx.kept (below_grown (hB0.trans hB)) (by simp), hc.grown (below_grown (hB0.trans hB)) (by simp), hK, hB0.trans hB⟩
    have hnew : newL d x y g = d.take ff ++ (leftL x y (tl d x y d.length)).take (atL x (leftL x y (tl d x y d.length))) ++ [⟨x, y, g, min (epL (tl d x y d.length) + 1) 2147483648⟩] ++ (leftL x y (tl d x y d.length)).drop (atL x (leftL x y (tl d x y d.length))) ++ d.drop (ll + 1) := by
      unfold newL
      simp only [hff, hll2, Int.toNat_natCast]
    rw [hnew] at HV
    have HF := hff
    generalize epL (tl d x y d.length) = E0 at M0 HV he1 he2
    generalize leftL x y (tl d x y d.length) = left at M0 HV hll
    have hDw : w.heap.size ≤ D := by omega
    clear i11 i12 i13 iX iR i14 irow hB hK TM f11 f12 f13 f14 f15 fX fR hS hnew hff hll2 HF HNE HTL hB0 hc hsz HB
    gi_upto_region 23 with fail
    have x0 := M0.wX.cell 0
    have c14 := M0.b14.cell
    simp only [List.getElem?_toArray, List.getElem?_cons_zero] at x0
    have hrow := M0.row
    gi_cut [99] from 82 (fun s99 wx => s99 = .bool (decide (atL x left = 1)) ∧ ∃ q, wx = W.drewN q)
    case first =>
      cases left with
      | nil =>
        obtain ⟨a, c, rfl⟩ : ∃ a c, v = .slice a 0 c := by
          rcases hrow.2 with ⟨rfl, _⟩ | ⟨g', c', _, rfl, _⟩
          · exact ⟨_, _, rfl⟩
          · exact ⟨_, _, rfl⟩
        clear hrow M0 HV hll
        refine wpIn_wide.2 ?_
        go_quiet (fail)
        gi_wp2_with fail
        gi_meet
        case rel => exact ⟨rfl, _, rfl⟩
      | cons p l =>
        obtain ⟨g', c', rfl⟩ := ownsRow_succ hrow
        have y1 : W.cell? ⟨g', 1, none⟩ = some (.string p.t) := hrow.cellAt (g := g') 1 (by show 1 < (l.length + 1) * 4; omega)
        have hm0 : (0 : Int) < ((l.length : Nat) : Int) + 1 := by omega
        by_cases e1 : p.t = x
        · by_cases e2 : x.toList = []
          · have q1 : (p.t.toList == x.toList) = true := by rw [e1]; simp
            have q2 : x.toList.isEmpty = true := by rw [e2]; rfl
            have q3 : (x.toList == ([] : List UInt8)) = true := by rw [e2]; rfl
            have q4 : (x.toList != ([] : List UInt8)) = false := by rw [e2]; rfl
            have HQ : Hid (atL x (p :: l) = 0) := Lib.hid (by show (if p.t = x ∧ x.toList ≠ [] then 1 else 0) = 0; rw [if_neg (fun h => h.2 e2)])
            have E1 := Lib.hid e1
            clear e1 e2 hrow M0 HV hll
            refine wpIn_wide.2 ?_
            go_quiet (fail)
            gi_wp2_with fail
            gi_meet
            case rel => exact ⟨by rw [HQ.out]; rfl, _, rfl⟩
          · have q1 : (p.t.toList == x.toList) = true := by rw [e1]; simp
            have q2 : (!x.toList.isEmpty) = true := by rw [Bool.not_eq_true', List.isEmpty_eq_false_iff]; exact e2
            have HQ : Hid (atL x (p :: l) = 1) := Lib.hid (by show (if p.t = x ∧ x.toList ≠ [] then 1 else 0) = 1; rw [if_pos ⟨e1, e2⟩])
            have E1 := Lib.hid e1
            clear e1 hrow M0 HV hll
            refine wpIn_wide.2 ?_
            go_quiet (fail)
            gi_wp2_with fail
            gi_meet
            case rel => exact ⟨by rw [HQ.out]; rfl, _, rfl⟩
        · have q1 : (p.t.toList == x.toList) = false := by
            rw [beq_eq_false_iff_ne]; exact fun h => e1 (ba_eq h)
          have HQ : Hid (atL x (p :: l) = 0) := Lib.hid (by show (if p.t = x ∧ x.toList ≠ [] then 1 else 0) = 0; rw [if_neg (fun h => e1 h.1)])
          clear e1 hrow M0 HV hll
          refine wpIn_wide.2 ?_
          go_quiet (fail)
          gi_wp2_with fail
          gi_meet
          case rel => exact ⟨by rw [HQ.out]; rfl, _, rfl⟩
    case rest =>
      obtain ⟨rfl, q0, rfl⟩ := hcut
      clear x0 c14 hrow
      have M1 := Lib.hid (M0.drewN q0)
      clear M0
      have hat := atL_le x left
      generalize hbq : decide (atL x left = 1) = bq
      have HBQ := Lib.hid hbq
      clear hbq
      gi_upto_if 99 with fail
      gi_cut [21] from 100 (fun s21 wx => s21 = .int .i64 (atL x left : Int) ∧ wx = W.drewN q0)
      case first =>
        cases bq with
        | true =>
          have E : Hid (atL x left = 1) := Lib.hid (of_decide_eq_true HBQ.out)
          gi_wp2_with fail
          gi_meet
          case rel => exact ⟨by rw [E.out]; rfl, rfl⟩
        | false =>
          have E : Hid (atL x left = 0) := Lib.hid (by have := of_decide_eq_false HBQ.out; omega)
          gi_wp2_with fail
          gi_meet
          case rel => exact ⟨by rw [E.out]; rfl, rfl⟩
      case rest =>
        obtain ⟨rfl, rfl⟩ := hcut
        have c13 := M1.out.b13.cell
        have g13 := M1.out.b13.frozen
        have hMn := Lib.hid (fun ts t W => run_minI (P := Tryd.prog) ts t (E0 + 1) 2147483648 W)
        have hMn2 := fun ts t W => hMn.out ts t W
        gi_upto_region 26 with fail
        have M2 := M1.out.s13 (min (E0 + 1) 2147483648)
        generalize min (E0 + 1) 2147483648 = E1 at M2 HV ⊢
        generalize (W.drewN q0).setCell ⟨w1.heap.size + 1 + 1, 0, none⟩ (.int .i64 E1) = W2 at M2 ⊢
        clear c13 g13 hMn2 hMn M1
        have hMP : PartsAt W2 (.slice (some ⟨gg, o1, none⟩) d.length cap) d := Or.inr ⟨gg, o1, cap, rfl, M2.cs, hcl⟩
        have hVP : PartsAt W2 v left := parts_own M2.row rfl
        obtain ⟨a1, k1, l1, P1⟩ := cut_to_parts hMP ff hf1 (by omega)
        obtain ⟨a5, k5, l5, P5⟩ := cut_from_parts hMP (ll + 1) hl1 (by omega)
        obtain ⟨a2, k2, l2, P2⟩ := cut_to_parts hVP (atL x left) hat.1 (by omega)
        obtain ⟨a4, k4, l4, P4⟩ := cut_from_parts hVP (atL x left) hat.1 (by omega)
        rw [show ((ll + 1 : Nat) : Int) = (ll : Int) + 1 by omega] at l5
        have HSof : Hid (∀ w', Below W2.heap.size W2 w' → w'.cell? ⟨B, 0, none⟩ = some (.slice (some ⟨gg, o1, none⟩) d.length cap) ∧ w'.cell? ⟨w1.heap.size, 0, none⟩ = some (.int .i64 (ff : Int)) ∧ w'.cell? ⟨w1.heap.size + 1, 0, none⟩ = some (.int .i64 (ll : Int)) ∧ w'.cell? ⟨w1.heap.size + 1 + 1, 0, none⟩ = some (.int .i64 E1) ∧ w'.cell? ⟨w1.heap.size + 1 + 1 + 1, 0, none⟩ = some v ∧ w'.cell? ⟨w.heap.size, 0, none⟩ = some (.string x) ∧ w'.cell? ⟨w.heap.size, 1, none⟩ = some (.string y) ∧ Below W2.heap.size W2 w') :=
          Lib.hid (fun w' hb' => ⟨(hb'.cell M2.mb.lt).trans M2.mb.cell, (hb'.cell M2.b11.lt).trans M2.b11.cell, (hb'.cell M2.b12.lt).trans M2.b12.cell, (hb'.cell M2.b13.lt).trans M2.b13.cell, (hb'.cell M2.b14.lt).trans M2.b14.cell, (hb'.cell M2.wX.lt).trans (M2.wX.cell 0), (hb'.cell M2.wX.lt).trans (M2.wX.cell 1), hb'⟩)
        have MH := Lib.hid M2
        have HP1 := Lib.hid P1
        have HP2 := Lib.hid P2
        have HP4 := Lib.hid P4
        have HP5 := Lib.hid P5
        have hllb : (ll : Int) ≤ 100 := by omega
        have hMPh := Lib.hid hMP
        have hVPh := Lib.hid hVP
        have HAT := Lib.hid hat
        have HF1 := Lib.hid hf1
        have HL1 := Lib.hid hl1
        have hwl : IntKind.i64.wrap ((ll : Int) + 1) = (ll : Int) + 1 := IntWalk.i64_in _ (by omega)
        have HCL := Lib.hid hcl
        clear M2 P1 P2 P4 P5 hMP hVP hat hf1 hl1 hcl HBQ
        generalize atL x left = at1 at *
        generalize hnl : d.take ff ++ left.take at1 ++ [(⟨x, y, g, E1⟩ : Pt)] ++ left.drop at1 ++ d.drop (ll + 1) = nl at HV
        have CC : Hid (Calls Tryd.prog 44 #[.slice (some ⟨W2.heap.size + 1, 0, none⟩) 5 5] ((W2.alloc (.cells #[.string x, .string y, .int .i64 g, .int .i64 E1] 89)).alloc (.cells #[.slice a1 ff k1, .slice a2 at1 k2, .slice (some ⟨W2.heap.size, 0, none⟩) 1 1, .slice a4 (left.length - at1) k4, .slice a5 (d.length - (ll + 1)) k5] 72)).drew fun e w' =>
            (∃ g6 k6, e = .returned (.slice (some ⟨g6, 0, none⟩) nl.length k6) ∧ W2.heap.size ≤ g6 ∧ w'.ownsRow (W2.heap.size) 89 4 (.slice (some ⟨g6, 0, none⟩) nl.length k6) nl.length (flatP nl)) ∧ Below W2.heap.size W2 w') := Lib.hid (by
          have hbW : Below W2.heap.size W2 ((W2.alloc (.cells #[.string x, .string y, .int .i64 g, .int .i64 E1] 89)).alloc (.cells #[.slice a1 ff k1, .slice a2 at1 k2, .slice (some ⟨W2.heap.size, 0, none⟩) 1 1, .slice a4 (left.length - at1) k4, .slice a5 (d.length - (ll + 1)) k5] 72)).drew := (((Below.refl _ _).alloc (Nat.le_refl _) _).alloc (by simp) _).drew
          have hwh := Whole.new (W2.alloc (.cells #[.string x, .string y, .int .i64 g, .int .i64 E1] 89)) 72 #[.slice a1 ff k1, .slice a2 at1 k2, .slice (some ⟨W2.heap.size, 0, none⟩) 1 1, .slice a4 (left.length - at1) k4, .slice a5 (d.length - (ll + 1)) k5]
          have hq1 := HP1.out _ (hMPh.out.keep hbW)
          have hq5 := HP5.out _ (hMPh.out.keep hbW)
          have hq2 := HP2.out _ (hVPh.out.keep hbW)
          have hq4 := HP4.out _ (hVPh.out.keep hbW)
          have hq3 := (PartsAt.one (w := W2) (p := ⟨x, y, g, E1⟩) (cap := 1) (Nat.le_refl _)).keep (((Below.refl _ _).alloc (Nat.le_refl _) (.cells #[.slice a1 ff k1, .slice a2 at1 k2, .slice (some ⟨W2.heap.size, 0, none⟩) 1 1, .slice a4 (left.length - at1) k4, .slice a5 (d.length - (ll + 1)) k5] 72)).drew)
          generalize hWc : ((W2.alloc (.cells #[.string x, .string y, .int .i64 g, .int .i64 E1] 89)).alloc (.cells #[.slice a1 ff k1, .slice a2 at1 k2, .slice (some ⟨W2.heap.size, 0, none⟩) 1 1, .slice a4 (left.length - at1) k4, .slice a5 (d.length - (ll + 1)) k5] 72)).drew = Wc at *
          have hwc : Whole Wc (W2.heap.size + 1) 72 #[.slice a1 ff k1, .slice a2 at1 k2, .slice (some ⟨W2.heap.size, 0, none⟩) 1 1, .slice a4 (left.length - at1) k4, .slice a5 (d.length - (ll + 1)) k5] := by
            rw [← hWc]
            have := hwh
            rw [World.size_alloc] at this
            exact this
          have hfl : [d.take ff, left.take at1, [(⟨x, y, g, E1⟩ : Pt)], left.drop at1, d.drop (ll + 1)].flatten = nl := by rw [← hnl]; simp
          have hnl2 : nl.length ≤ 900 ∧ 0 < nl.length := by
            rw [← hnl]
            simp only [List.length_append, List.length_take, List.length_drop, List.length_singleton]
            omega
          have h := concat_any (W2.heap.size + 1) 5 [.slice a1 ff k1, .slice a2 at1 k2, .slice (some ⟨W2.heap.size, 0, none⟩) 1 1, .slice a4 (left.length - at1) k4, .slice a5 (d.length - (ll + 1)) k5] [d.take ff, left.take at1, [(⟨x, y, g, E1⟩ : Pt)], left.drop at1, d.drop (ll + 1)] Wc rfl (fun i v hv => by rw [hwc.cell i]; simpa using hv)
            (fun i v d' hv hd' => by
              match i with
              | 0 => cases hv; cases hd'; exact hq1
              | 1 => cases hv; cases hd'; exact hq2
              | 2 => cases hv; cases hd'; exact hq3
              | 3 => cases hv; cases hd'; exact hq4
              | 4 => cases hv; cases hd'; exact hq5
              | i + 5 => cases hv) (by rw [hfl]; exact hnl2.2) (by rw [hfl]; exact hnl2.1) (by show 5 ≤ 10; omega)
          rw [hfl] at h
          refine h.mono ?_
          rintro e w' ⟨v6, rfl, ho, hb6⟩
          have hlow := own_lower ho hbW.size
          refine ⟨?_, hbW.trans (hb6.mono hbW.size)⟩
          rcases hlow.2 with ⟨_, h0⟩ | ⟨g6, k6, cur, rfl, h1, _⟩
          · omega
          · exact ⟨g6, k6, rfl, h1, hlow⟩)
        have HNL := Lib.hid hnl
        clear hnl HP1 HP2 HP4 HP5 hMPh hVPh HAT HF1 HL1
        generalize hNL : nl.length = NL at CC HV
        have HNN := Lib.hid hNL
        clear hNL
        refine wpIn_wide.2 ?_
        go_region_held3 (fun w' => w'.cell? ⟨B, 0, none⟩ = some (.slice (some ⟨gg, o1, none⟩) d.length cap) ∧ w'.cell? ⟨w1.heap.size, 0, none⟩ = some (.int .i64 (ff : Int)) ∧ w'.cell? ⟨w1.heap.size + 1, 0, none⟩ = some (.int .i64 (ll : Int)) ∧ w'.cell? ⟨w1.heap.size + 1 + 1, 0, none⟩ = some (.int .i64 E1) ∧ w'.cell? ⟨w1.heap.size + 1 + 1 + 1, 0, none⟩ = some v ∧ w'.cell? ⟨w.heap.size, 0, none⟩ = some (.string x) ∧ w'.cell? ⟨w.heap.size, 1, none⟩ = some (.string y) ∧ Below W2.heap.size W2 w')
          (first | assumption | (refine HSof.out _ ?_; first | assumption | exact (Below.refl _ _) | exact (Below.refl _ _).drew | exact ((Below.refl _ _).alloc (Nat.le_refl _) _).drew | exact (((Below.refl _ _).alloc (Nat.le_refl _) _).alloc (by simp) _).drew))
          (first | (go_at_call 44; refine CC.out.mono ?_; rintro e w5 ⟨⟨g6, k6, rfl, hg6, hown6⟩, hb6⟩))
        clear l1 l2 l4 l5 CC HSof hwl
        have M5 := Lib.hid (MH.out.below hb6)
        have O6 := Lib.hid hown6
        have hW2 := MH.out.hN
        clear hown6 hb6 MH
        by_cases hgt : 64 < NL
        · have hv := HV.out
          rw [if_pos hgt] at hv
          have hgi : (64 : Int) < (NL : Int) := by omega
          subst hv
          gi_wp2_with fail
          refine ⟨by simp, .inl ⟨_, _, rfl, run_takeDeferred M5.out.df, ?_⟩⟩
          refine ⟨_, results_tmp2 rfl _ _ _, rfl, (M5.out.map HCL.out).put M5.out.df _, below_but B (M5.out.bl.trans (belowK_b (w := w) (Nat.le_refl _) _ D _ _ (by omega) M5.out.df rfl rfl))⟩
        · have hv := HV.out
          rw [if_neg hgt] at hv
          have hgi : (NL : Int) ≤ (64 : Int) := by omega
          subst hv
          have cm := M5.out.mb.cell
          have fm := M5.out.mb.frozen
          have e13 := (M5.out.b13.other (B' := B) (by omega) (.slice (some ⟨g6, 0, none⟩) NL k6)).cell
          gi_wp2_with fail
          have hKd : (w5.setCell ⟨B, 0, none⟩ (.slice (some ⟨g6, 0, none⟩) NL k6)).heap[D]? = some (.deferred (some [])) := (Below.heap_setCell w5 ⟨B, 0, none⟩ (.slice (some ⟨g6, 0, none⟩) NL k6) D (by show D ≠ B; omega)).trans M5.out.df
          have hmap : MapAt (w5.setCell ⟨B, 0, none⟩ (.slice (some ⟨g6, 0, none⟩) NL k6)) B nl := ⟨_, M5.out.mb.set _, (parts_own O6.out HNN.out.symm).grown (grownBy_setCell' w5 B _) (fun g o n c h _ e => by cases h; cases e; omega)⟩
          refine ⟨by simp, .inl ⟨_, _, rfl, run_takeDeferred hKd, ?_⟩⟩
          exact ⟨_, results_tmp2 rfl _ _ _, rfl, hmap.put hKd _, grown_end M5.out.bl (grownBy_setCell' w5 B _) (grownBy_putObj' _ D _) hDw⟩
  case stop =>
    rintro D c pre W _ _ h _
    exact h.elim
end Go.Proofs.YtkkkppbcjmeapaaDoor
