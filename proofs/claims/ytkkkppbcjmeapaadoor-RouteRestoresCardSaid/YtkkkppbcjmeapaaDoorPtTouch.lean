/- The parts that a range touches, one after another: the iterator's contract. Condition: the map is small, texts are no longer than an int can say. -/
import Derived.RangeFuncNested
import Derived.RangeFuncBound
import Derived.RangeFuncCalls
import Derived.RangeFuncLeaves
import Derived.Shelf.Abstract
import Derived.Shelf.RegionOpen
import Derived.WalkKit
import Derived.OwnWalkIn
import Derived.TacticsInMore
import Derived.LoopNIn
import Derived.LoopIn
import Derived.Test.YtkkkppbcjmeapaaDoorPtConcat
namespace Go.Proofs.YtkkkppbcjmeapaaDoor
open Go.RowKit Go.Shelf
attribute [local go_sem] Oper.semAt_some

theorem cell_al {w : World} {a : Addr} {v : Value} (o : Obj) (h : w.cell? a = some v) : (w.alloc o).cell? a = some v := (((Below.refl w.heap.size w).alloc (Nat.le_refl _) o).cell (lt_of_cellR h)).trans h
/-- A range touches a part. -/
def tch (x y : ByteArray) (p : Pt) : Bool := (okR p.f p.t && okR x y) && okR (maxS p.f x) (minE p.t y)
/-- The parts among the first k that a range touches, with their numbers. -/
def tl (d : List Pt) (x y : ByteArray) : Nat → List (Nat × Pt)
  | 0 => []
  | k + 1 => tl d x y k ++ (match d[k]? with | some p => if tch x y p then [(k, p)] else [] | none => [])
theorem tl_yes {d : List Pt} {x y : ByteArray} {k : Nat} {p : Pt} (h : d[k]? = some p) (ht : tch x y p = true) : tl d x y (k + 1) = tl d x y k ++ [(k, p)] := by
  simp [tl, h, ht]
theorem tl_no {d : List Pt} {x y : ByteArray} {k : Nat} {p : Pt} (h : d[k]? = some p) (ht : tch x y p = false) : tl d x y (k + 1) = tl d x y k := by
  simp [tl, h, ht]
theorem tl_len (d : List Pt) (x y : ByteArray) : ∀ k, (tl d x y k).length ≤ k
  | 0 => Nat.le_refl _
  | k + 1 => by
    have := tl_len d x y k
    simp only [tl, List.length_append]
    cases d[k]? with
    | none => simp; omega
    | some p => by_cases h : tch x y p <;> simp [h] <;> omega

/-- What a round must keep: what lay below n₀, and the range's box. -/
def KpT (n₀ B2 : Nat) (W W' : World) : Prop := Below n₀ W W' ∧ W'.heap[B2]? = W.heap[B2]?
theorem KpT.refl (n₀ B2 : Nat) (W : World) : KpT n₀ B2 W W := ⟨Below.refl _ _, rfl⟩
theorem KpT.trans {n₀ B2 : Nat} {A B C : World} (h : KpT n₀ B2 A B) (k : KpT n₀ B2 B C) : KpT n₀ B2 A C := ⟨h.1.trans k.1, k.2.trans h.2⟩
theorem KpT.of_below {n₀ B2 : Nat} {A B : World} (h : Below A.heap.size A B) (hn : n₀ ≤ A.heap.size) (hB : B2 < A.heap.size) : KpT n₀ B2 A B := ⟨h.mono hn, h.block B2 hB⟩
theorem kpT_b {n₀ B2 : Nat} {w : World} (hn : n₀ ≤ w.heap.size) (hB : B2 < w.heap.size) (W : World) (l : Nat) (o o' : Obj) (hl : w.heap.size ≤ l) (h : W.heap[l]? = some o) (h1 : o.isCells = false) (h2 : o.isWalk = false) : KpT n₀ B2 W (W.putObj l o') :=
  ⟨belowK_b hn W l o o' hl h h1 h2, (grownBy_putObj' W l o').block B2 (by have := (Array.getElem?_eq_some_iff.1 h).1; omega) (fun e => by cases e; omega)⟩
/-- What lies in memory for the iterator. -/
structure TouchM (W : World) (n₀ B2 B g o : Nat) (x y : ByteArray) (d : List Pt) (cap : Nat) : Prop where
  lB : B < n₀
  lG : g < n₀
  c2 : W.cell? ⟨B2, 0, none⟩ = some (.string x)
  c3 : W.cell? ⟨B2, 1, none⟩ = some (.string y)
  c : W.cell? ⟨B, 0, none⟩ = some (.slice (some ⟨g, o, none⟩) d.length cap)
  cs : CellsP W g o d
theorem TouchM.keep {W W' : World} {n₀ B2 B g o : Nat} {x y : ByteArray} {d : List Pt} {cap : Nat} (h : TouchM W n₀ B2 B g o x y d cap) (hk : KpT n₀ B2 W W') : TouchM W' n₀ B2 B g o x y d cap :=
  have hb := hk.1
  ⟨h.lB, h.lG, (World.cell?_of_block (a := ⟨B2, 0, none⟩) hk.2).trans h.c2, (World.cell?_of_block (a := ⟨B2, 1, none⟩) hk.2).trans h.c3, (hb.cell (p := ⟨B, 0, none⟩) h.lB).trans h.c,
    fun i p hi => have hc := h.cs i p hi
      ⟨(hb.cell (p := ⟨g, _, none⟩) h.lG).trans hc.1, (hb.cell (p := ⟨g, _, none⟩) h.lG).trans hc.2.1, (hb.cell (p := ⟨g, _, none⟩) h.lG).trans hc.2.2.1, (hb.cell (p := ⟨g, _, none⟩) h.lG).trans hc.2.2.2⟩⟩

theorem meet_tch (p : Pt) (x y : ByteArray) (w : World) (hf : p.f.size ≤ 9223372036854775807) (ht : p.t.size ≤ 9223372036854775807) (hx : x.size ≤ 9223372036854775807) (hy : y.size ≤ 9223372036854775807) :
    Calls Tryd.prog 67 #[.agg #[.string p.f, .string p.t], .agg #[.string x, .string y]] w fun e w' => (∃ a b er, e = .returned (.tuple #[.agg #[.string a, .string b], .bool (tch x y p), .int .i64 er])) ∧ Below w.heap.size w w' := by
  refine (meet_any p.f p.t x y w hf ht hx hy).mono ?_
  rintro e w' ⟨rfl, hb⟩
  refine ⟨?_, hb⟩
  unfold meetV tch
  split
  · exact ⟨_, _, _, rfl⟩
  · exact ⟨_, _, _, rfl⟩
set_option maxRecDepth 100000 in
set_option maxHeartbeats 4000000 in
theorem touched1_in {α : Type} (val : α → Nat × Pt) (n : Nat) (hn : 1 ≤ n) (l B1 B2 B g o cap n₀ : Nat) (x y : ByteArray) (d : List Pt) (hmk : ∀ k p, d[k]? = some p → tch x y p = true → ∃ a, val a = (k, p)) (hx : x.size ≤ 9223372036854775807) (hy : y.size ≤ 9223372036854775807) (hs : SmallP d) (J Jx : List α → World → Prop)
    (W : World) (hn₀ : n₀ ≤ W.heap.size) (hJ : ∀ s A A', KpT n₀ B2 W A → J s A → Below A.heap.size A A' → J s A')
    (hY : ∀ pre (q : α) W1, J pre W1 → pre.length < d.length → YieldAt Fence.wide (n - 1) Tryd.prog l #[.int .i64 ((val q).1 : Int), ptV (val q).2] W1 fun e W' =>
      (e = .returned (.bool true) ∧ J (pre ++ [q]) W' ∧ KpT n₀ B2 W1 W') ∨ (e = .returned (.bool false) ∧ Jx (pre ++ [q]) W'))
    (hM : TouchM W n₀ B2 B g o x y d cap) (c1 : W.cell? ⟨B1, 0, none⟩ = some (.pointer (some ⟨B, 0, none⟩))) (h0 : J [] W) :
    CallsIn Fence.wide n Tryd.prog 66 #[.func (.yield l) #[] #[], .pointer (some ⟨B1, 0, none⟩), .pointer (some ⟨B2, 0, none⟩)] W fun e W' => (∃ v, e = .returned v) ∧
      ((∃ ys, ys.map val = tl d x y d.length ∧ J ys W') ∨ (∃ pre, (∃ k, k ≤ d.length ∧ pre.map val = tl d x y k) ∧ Jx pre W')) := by
  have HS := Lib.hid hs
  have HM := Lib.hid hM
  have HN0 := Lib.hid hn₀
  have HJ := Lib.hid hJ
  have HY := Lib.hid hY
  have HB2 := Lib.hid (lt_of_cellR hM.c2)
  have c := hM.c
  have hlen : d.length ≤ 900 := hs.1
  clear hs hM hJ hY
  refine callsIn_of_wp Tryd.func66 rfl trivial ?_ rfl
  simp only [Tryd.ntmps66, List.size_toArray, List.length_cons, List.length_nil, Nat.reduceAdd, Nat.reduceSub, Array.replicate_succ, Array.replicate_zero, List.push_toArray, List.append_toArray, List.nil_append, List.cons_append]
  generalize hdl : d.length = len at *
  have HD := Lib.hid hdl
  clear hdl
  gi_wp2
  gi_loopw [14] (fun i wr => ∃ k : Nat, k ≤ len ∧ i = .int .i64 k ∧ (∃ ys, Hid (ys.map val = tl d x y k) ∧ J ys wr) ∧ KpT n₀ B2 W wr) (fun i _ => len - (intOf i).toNat)
  case atStart => exact ⟨0, Nat.zero_le _, rfl, ⟨[], Lib.hid rfl, h0⟩, KpT.refl _ _ _⟩
  case round =>
    obtain ⟨k, hk, rfl, ⟨ys, HYS, hJs⟩, hnx⟩ := hrel
    by_cases hlt : k < len
    · have hg : d[k]? = some (d[k]'(by rw [HD.out]; exact hlt)) := List.getElem?_eq_getElem _
      generalize d[k]'(by rw [HD.out]; exact hlt) = p at hg
      have M := HM.out.keep hnx
      obtain ⟨c0, c1', c2', c3'⟩ := M.cs k _ hg
      have x0 := M.c2
      have x1 := M.c3
      obtain ⟨z1, z2⟩ := HS.out.at hg
      have C := Lib.hid (fun W => meet_tch p x y W z1 z2 hx hy)
      have HG := Lib.hid hg
      have HX := Lib.hid hnx
      have HJS := Lib.hid hJs
      have hsz := hnx.1.size
      have hpe : ptV p = .agg #[.string p.f, .string p.t, .int .i64 p.g, .int .i64 p.e] := rfl
      have HPE := Lib.hid hpe
      have HLT := Lib.hid hlt
      cases ht : tch x y p with
      | false =>
        rw [ht] at C
        have HT := Lib.hid (tl_no hg ht)
        obtain ⟨pf, pt, pg, pe⟩ := p
        dsimp only at c0 c1' c2' c3' C
        have y0 := cell_al (.cells #[.string pf, .string pt, .int .i64 pg, .int .i64 pe] 89) x0
        have y1 := cell_al (.cells #[.string pf, .string pt, .int .i64 pg, .int .i64 pe] 89) x1
        clear M z1 z2 hg hnx hJs hpe ht c1
        gi_wp2_with (refine ⟨trivial, ?_⟩; gi_at_call 67; refine (callsIn_wide.2 (C.out _)).mono ?_; rintro e w2 ⟨⟨a, b, er, rfl⟩, hb2⟩)
        have BW := Lib.hid (((Below.refl wr.heap.size wr).alloc (Nat.le_refl _) (.cells #[.string pf, .string pt, .int .i64 pg, .int .i64 pe] 89)).trans (hb2.mono (by simp)))
        have BZ := Lib.hid (BW.out.alloc BW.out.size (.cells #[.string a, .string b] 30))
        refine ⟨fun _ h => (by cases h), ?_⟩
        gi_wp2
        go_roundw
        case rel => exact ⟨k + 1, by omega, by simp, ⟨ys, Lib.hid (by rw [HT.out]; exact HYS.out), HJ.out _ _ _ HX.out HJS.out BZ.out⟩, HX.out.trans (KpT.of_below BZ.out (by omega) (Nat.lt_of_lt_of_le HB2.out hsz))⟩
        case measure => simp [intOf]; omega
      | true =>
        rw [ht] at C
        have HT := Lib.hid (tl_yes hg ht)
        have HTL : Hid (ys.length < len) := Lib.hid (by have := congrArg List.length HYS.out; rw [List.length_map] at this; rw [this]; exact Nat.lt_of_le_of_lt (tl_len d x y k) hlt)
        obtain ⟨qa, hqa⟩ := hmk k p hg ht
        have HQA := Lib.hid hqa
        have HYN : Hid ((ys ++ [qa]).map val = tl d x y (k + 1)) := Lib.hid (by rw [HT.out, List.map_append, HYS.out, List.map_singleton, hqa])
        clear hqa
        obtain ⟨pf, pt, pg, pe⟩ := p
        dsimp only at c0 c1' c2' c3' C
        have y0 := cell_al (.cells #[.string pf, .string pt, .int .i64 pg, .int .i64 pe] 89) x0
        have y1 := cell_al (.cells #[.string pf, .string pt, .int .i64 pg, .int .i64 pe] 89) x1
        clear M z1 z2 hg hnx hJs hpe ht c1
        gi_wp2_with (refine ⟨trivial, ?_⟩; gi_at_call 67; refine (callsIn_wide.2 (C.out _)).mono ?_; rintro e w2 ⟨⟨a, b, er, rfl⟩, hb2⟩; have RP := ((Whole.new wr 89 #[.string pf, .string pt, .int .i64 pg, .int .i64 pe]).below hb2 (by simp)).alloc (.cells #[.string a, .string b] 30); have r0 := RP.cell 0; have r1 := RP.cell 1; have r2 := RP.cell 2; have r3 := RP.cell 3; simp only [List.getElem?_toArray, List.getElem?_cons_succ, List.getElem?_cons_zero] at r0 r1 r2 r3; have BW := Lib.hid (((Below.refl wr.heap.size wr).alloc (Nat.le_refl _) (.cells #[.string pf, .string pt, .int .i64 pg, .int .i64 pe] 89)).trans (hb2.mono (by simp))); have BZ := Lib.hid (BW.out.alloc BW.out.size (.cells #[.string a, .string b] 30)); have hYQ := HY.out _ qa _ (HJ.out _ _ _ HX.out HJS.out BZ.out) HTL.out; rw [HQA.out] at hYQ; obtain ⟨fn, tmps, assign, body, hyy, hR⟩ := hYQ; unfold ptV at hyy; dsimp only at hyy; have HR := Lib.hid hR; clear RP hR BW hb2)
        refine HR.out.mono ?_
        rintro e W3 (⟨rfl, hJ3, hk3⟩ | ⟨rfl, hJx3⟩)
        · gi_wp2
          go_roundw
          case rel => exact ⟨k + 1, by omega, by simp, ⟨_, HYN, hJ3⟩, (HX.out.trans (KpT.of_below BZ.out (by omega) (Nat.lt_of_lt_of_le HB2.out hsz))).trans hk3⟩
          case measure => simp [intOf]; omega
        · gi_wp2
          refine bodyPost_ret (results_none rfl _ _ _) rfl ?_
          exact ⟨⟨_, rfl⟩, .inr ⟨_, ⟨k + 1, by omega, HYN.out⟩, hJx3⟩⟩
    · obtain rfl : k = len := by omega
      gi_wp2
      go_end0
      exact ⟨⟨_, rfl⟩, .inl ⟨_, HYS.out, hJs⟩⟩
set_option maxHeartbeats 1000000 in
theorem touched_in (n : Nat) (p0 : Option Addr) (x y : ByteArray) (w : World) :
    CallsIn Fence.wide n Tryd.prog 42 #[.pointer p0, .agg #[.string x, .string y]] w fun e w' => e = .returned (.func (.func 66) #[] #[.pointer (some ⟨w.heap.size, 0, none⟩), .pointer (some ⟨w.heap.size + 1, 0, none⟩)]) ∧ w' = (w.alloc (.cells #[.pointer p0] 25)).alloc (.cells #[.string x, .string y] 30) := by
  refine callsIn_of_wp Tryd.func42 rfl trivial ?_ rfl
  simp only [Tryd.ntmps42, List.size_toArray, List.length_cons, List.length_nil, Nat.reduceAdd, Nat.reduceSub, Array.replicate_succ, Array.replicate_zero, List.push_toArray, List.append_toArray, List.nil_append, List.cons_append]
  gi_wp2
  go_ret
  exact ⟨rfl, rfl⟩

/-- The parts that a range touches, with their numbers, as a type of their own. -/
def Touched (d : List Pt) (x y : ByteArray) : Type := { q : Nat × Pt // d[q.1]? = some q.2 ∧ tch x y q.2 = true }
def Touched.val' {d : List Pt} {x y : ByteArray} (q : Touched d x y) : Nat × Pt := q.1
theorem touchedS_stops (n : Nat) (hn : 1 ≤ n) (B1 B2 B g o cap n₀ : Nat) (x y : ByteArray) (d : List Pt) (hx : x.size ≤ 9223372036854775807) (hy : y.size ≤ 9223372036854775807) (hs : SmallP d) (w : World) (hn₀ : n₀ ≤ w.heap.size) (hM : TouchM w n₀ B2 B g o x y d cap) (c1 : w.cell? ⟨B1, 0, none⟩ = some (.pointer (some ⟨B, 0, none⟩))) :
    SeqStopsK Fence.wide n Tryd.prog 66 #[.pointer (some ⟨B1, 0, none⟩), .pointer (some ⟨B2, 0, none⟩)] (fun q : Touched d x y => #[Value.int .i64 (q.val'.1 : Int), ptV q.val'.2]) (KpT n₀ B2) (fun ys => ys.map Touched.val' = tl d x y d.length) (fun pre => ∃ k, k ≤ d.length ∧ pre.map Touched.val' = tl d x y k) d.length w := fun l J Jx W hW hJ _ hY h0 =>
  touched1_in Touched.val' n hn l B1 B2 B g o cap n₀ x y d (fun k p h1 h2 => ⟨⟨(k, p), h1, h2⟩, rfl⟩) hx hy hs J Jx W (Nat.le_trans hn₀ hW.size) (fun s A A' _ hA hb => hJ s A A' none hA (below_grown hb) (fun r e => by cases e)) hY (hM.keep (KpT.of_below hW hn₀ (lt_of_cellR hM.c2))) ((hW.cell (lt_of_cellR c1)).trans c1) h0
theorem touched_stops (n : Nat) (hn : 1 ≤ n) (B1 B2 B g o cap n₀ : Nat) (x y : ByteArray) (d : List Pt) (hx : x.size ≤ 9223372036854775807) (hy : y.size ≤ 9223372036854775807) (hs : SmallP d) (w : World) (hn₀ : n₀ ≤ w.heap.size) (hM : TouchM w n₀ B2 B g o x y d cap) (c1 : w.cell? ⟨B1, 0, none⟩ = some (.pointer (some ⟨B, 0, none⟩))) :
    SeqStopsK Fence.wide n Tryd.prog 66 #[.pointer (some ⟨B1, 0, none⟩), .pointer (some ⟨B2, 0, none⟩)] (fun q : Nat × Pt => #[Value.int .i64 (q.1 : Int), ptV q.2]) (KpT n₀ B2) (fun ys => ys = tl d x y d.length) (fun pre => ∃ k, k ≤ d.length ∧ pre = tl d x y k) d.length w := fun l J Jx W hW hJ _ hY h0 =>
  (touched1_in id n hn l B1 B2 B g o cap n₀ x y d (fun k p _ _ => ⟨(k, p), rfl⟩) hx hy hs J Jx W (Nat.le_trans hn₀ hW.size) (fun s A A' _ hA hb => hJ s A A' none hA (below_grown hb) (fun r e => by cases e)) hY (hM.keep (KpT.of_below hW hn₀ (lt_of_cellR hM.c2))) ((hW.cell (lt_of_cellR c1)).trans c1) h0).mono fun _ _ ⟨h1, h2⟩ => ⟨h1, by simpa using h2⟩
end Go.Proofs.YtkkkppbcjmeapaaDoor
