/- What lies in memory behind Move's loop; cuts of lists of parts. No condition. -/
import Derived.Test.YtkkkppbcjmeapaaDoorPtMvS
import Derived.Deep.DeepCutAuto
import Derived.Deep.QuietTactic
import Derived.BigQuiet
namespace Go.Proofs.YtkkkppbcjmeapaaDoor
open Go.RowKit Go.Shelf

theorem CellsP.take {w : World} {g o : Nat} {d : List Pt} (h : CellsP w g o d) (k : Nat) : CellsP w g o (d.take k) := fun i p hi => by
  rw [List.getElem?_take] at hi
  split at hi
  · exact h i p hi
  · cases hi
theorem CellsP.drop {w : World} {g o : Nat} {d : List Pt} (h : CellsP w g o d) (k : Nat) : CellsP w g (o + k * 4) (d.drop k) := fun i p hi => by
  rw [List.getElem?_drop] at hi
  have := h (k + i) p hi
  rw [show o + (k + i) * 4 = o + k * 4 + i * 4 by omega] at this
  exact this
theorem parts_same {w : World} {g o n c : Nat} {d : List Pt} (h : PartsAt w (.slice (some ⟨g, o, none⟩) n c) d) : CellsP w g o d ∧ d.length ≤ c ∧ n = d.length := by
  rcases h with ⟨_, h⟩ | ⟨g', o', c', h, h2, h3⟩
  · cases h
  · cases h; exact ⟨h2, h3, rfl⟩
set_option maxRecDepth 100000 in
theorem cut_to_parts {w : World} {v : Value} {d : List Pt} (h : PartsAt w v d) (k : Nat) (hk : k ≤ d.length) (hk2 : k ≤ 1000) : ∃ a c, (∀ W, (Instr.slice 72 v none (some (.int .i64 (k : Int))) none).run Tryd.prog W = .ok (.slice a k c) W) ∧ (∀ w', PartsAt w' v d → PartsAt w' (.slice a k c) (d.take k)) := by
  have hs : ∀ W, (sizeOf (Tryd.prog.elem 72)).run Tryd.prog W = .ok 4 W := fun W => by kernel_rfl
  have hu : Tryd.prog.underlying 72 = some (.slice (Tryd.prog.elem 72)) := by kernel_rfl
  rcases h with ⟨rfl, rfl⟩ | ⟨g, o, cap, rfl, hc, hl⟩
  · obtain rfl : k = 0 := by simpa using hk
    refine ⟨none, 0, fun W => ?_, fun w' _ => Or.inl ⟨rfl, rfl⟩⟩
    rw [run_slice_h W 72 none 0 0 hu .i64 ((0 : Nat) : Int) (by omega) (by omega), hs]
    rfl
  · refine ⟨some ⟨g, o, none⟩, cap, fun W => ?_, fun w' h' => ?_⟩
    · rw [run_slice_h W 72 (some ⟨g, o, none⟩) d.length cap hu .i64 (k : Int) (by omega) (by omega), hs]
      show Result.ok (sliced _ 0 k cap 4) W = _
      unfold sliced
      congr 2
      simp [Addr.add]
    · obtain ⟨h1, h2, _⟩ := parts_same h'
      exact Or.inr ⟨g, o, cap, by rw [List.length_take, Nat.min_eq_left hk], h1.take k, by rw [List.length_take]; omega⟩
set_option maxRecDepth 100000 in
theorem cut_from_parts {w : World} {v : Value} {d : List Pt} (h : PartsAt w v d) (k : Nat) (hk : k ≤ d.length) (hk2 : k ≤ 1000) : ∃ a c, (∀ W, (Instr.slice 72 v (some (.int .i64 (k : Int))) none none).run Tryd.prog W = .ok (.slice a (d.length - k) c) W) ∧ (∀ w', PartsAt w' v d → PartsAt w' (.slice a (d.length - k) c) (d.drop k)) := by
  have hs : ∀ W, (sizeOf (Tryd.prog.elem 72)).run Tryd.prog W = .ok 4 W := fun W => by kernel_rfl
  have hu : Tryd.prog.underlying 72 = some (.slice (Tryd.prog.elem 72)) := by kernel_rfl
  rcases h with ⟨rfl, rfl⟩ | ⟨g, o, cap, rfl, hc, hl⟩
  · obtain rfl : k = 0 := by simpa using hk
    refine ⟨none, 0, fun W => ?_, fun w' _ => Or.inl ⟨rfl, rfl⟩⟩
    rw [run_slice_l W 72 none 0 0 hu .i64 ((0 : Nat) : Int) (by omega) (by omega), hs]
    rfl
  · refine ⟨some ⟨g, if cap = k then o else o + k * 4, none⟩, cap - k, fun W => ?_, fun w' h' => ?_⟩
    · rw [run_slice_l W 72 (some ⟨g, o, none⟩) d.length cap hu .i64 (k : Int) (by omega) (by omega), hs]
      show Result.ok (sliced _ k d.length cap 4) W = _
      unfold sliced
      by_cases e : cap = k
      · rw [if_pos e, if_pos e]
      · rw [if_neg e, if_neg e]
        simp only [Option.map_some]
        rw [show (⟨g, o, none⟩ : Addr).add (k * 4) = ⟨g, o + k * 4, none⟩ by unfold Addr.add; split <;> simp_all]
    · obtain ⟨h1, h2, _⟩ := parts_same h'
      refine Or.inr ⟨g, _, _, by rw [List.length_drop], ?_, by rw [List.length_drop]; omega⟩
      by_cases e : cap = k
      · have : d.drop k = [] := List.drop_eq_nil_of_le (by omega)
        rw [this]
        exact fun i p hi => by simp at hi
      · rw [if_neg e]; exact h1.drop k

structure DnS (n0 N D B gg o1 cap : Nat) (x y : ByteArray) (d : List Pt) (w wx : World) (f l e : Int) (v : Value) (left : List Pt) : Prop where
  h0 : n0 < N
  hN : n0 ≤ wx.heap.size
  hB : B < n0
  b11 : Boxed wx N 3 (.int .i64 f)
  b12 : Boxed wx (N + 1) 3 (.int .i64 l)
  b13 : Boxed wx (N + 1 + 1) 3 (.int .i64 e)
  b14 : Boxed wx (N + 1 + 1 + 1) 72 v
  wX : Whole wx n0 30 #[.string x, .string y]
  row : wx.ownsRow n0 89 4 v left.length (flatP left)
  mb : Boxed wx B 74 (.slice (some ⟨gg, o1, none⟩) d.length cap)
  cs : CellsP wx gg o1 d
  df : wx.heap[D]? = some (.deferred (some []))
  bl : Below n0 w wx
section
variable {n0 N D B gg o1 cap : Nat} {x y : ByteArray} {d : List Pt} {w wx wx' : World} {f l e : Int} {v : Value} {left : List Pt}
theorem DnS.below (h : DnS n0 N D B gg o1 cap x y d w wx f l e v left) (hb : Below wx.heap.size wx wx') : DnS n0 N D B gg o1 cap x y d w wx' f l e v left := by
  have hg := below_grown hb
  exact ⟨h.h0, Nat.le_trans h.hN hb.size, h.hB, h.b11.kept hg (by simp), h.b12.kept hg (by simp), h.b13.kept hg (by simp), h.b14.kept hg (by simp), h.wX.grown hg (by simp), h.row.kept hg (by cases v.ownBlock <;> simp), h.mb.kept hg (by simp), h.cs.grown hg (by simp),
    (hb.block D (Array.getElem?_eq_some_iff.1 h.df).1).trans h.df, h.bl.trans (hb.mono h.hN)⟩
theorem DnS.drewN (h : DnS n0 N D B gg o1 cap x y d w wx f l e v left) (q : Nat) : DnS n0 N D B gg o1 cap x y d w (wx.drewN q) f l e v left := h.below (b_drewN (Below.refl _ _) q)
theorem DnS.s13 (h : DnS n0 N D B gg o1 cap x y d w wx f l e v left) (u : Int) : DnS n0 N D B gg o1 cap x y d w (wx.setCell ⟨N + 1 + 1, 0, none⟩ (.int .i64 u)) f l u v left := by
  have hg := grownBy_setCell' wx (N + 1 + 1) (.int .i64 u)
  have := h.h0; have := h.hB
  refine ⟨h.h0, by rw [World.size_setCell]; exact h.hN, h.hB, h.b11.other (by omega) _, h.b12.other (by omega) _, h.b13.set _, h.b14.other (by omega) _, h.wX.grown hg (by simp; omega), h.row.kept hg (Or.inr (fun e' => (Boxed.not_row h.b13 (by decide) h.row) e'.symm)), h.mb.other (by omega) _, ?_, ?_, h.bl.setCell (p := ⟨N + 1 + 1, 0, none⟩) (by show n0 ≤ N + 1 + 1; omega) _⟩
  · by_cases hd : d = []
    · subst hd; exact fun i p hi => by simp at hi
    · exact h.cs.grown hg (fun e' => by cases e'; exact parts_apart h.b13 h.cs hd rfl)
  · refine (Below.heap_setCell wx ⟨N + 1 + 1, 0, none⟩ (.int .i64 u) D ?_).trans h.df
    intro e'
    have h1 := h.df
    rw [e', show wx.heap[N + 1 + 1]? = _ from h.b13] at h1
    cases h1
theorem DnS.map (h : DnS n0 N D B gg o1 cap x y d w wx f l e v left) (hcl : d.length ≤ cap) : MapAt wx B d := ⟨_, h.mb, Or.inr ⟨gg, o1, cap, rfl, h.cs, hcl⟩⟩
end
theorem grown_end {w w5 w6 w7 : World} {B D : Nat} (h1 : Below w.heap.size w w5) (h2 : w5.grownBy w6 (some B)) (h3 : w6.grownBy w7 (some D)) (hD : w.heap.size ≤ D) : w.grownBy w7 (some B) :=
  ⟨h3.os.trans (h2.os.trans h1.os), h3.tape.trans (h2.tape.trans h1.tape), h3.output.trans (h2.output.trans h1.output), Nat.le_trans h1.size (Nat.le_trans h2.size h3.size), fun k hk hne =>
    (h3.block k (Nat.lt_of_lt_of_le hk (Nat.le_trans h1.size h2.size)) (fun e => by cases e; omega)).trans ((h2.block k (Nat.lt_of_lt_of_le hk h1.size) hne).trans (h1.block k hk))⟩
theorem MapAt.put {w : World} {B D : Nat} {d : List Pt} {r : Option (List Deferred)} (h : MapAt w B d) (hD : w.heap[D]? = some (.deferred r)) (o : Obj) : MapAt (w.putObj D o) B d := by
  obtain ⟨v, h1, h2⟩ := h
  have hg := grownBy_putObj' w D o
  have hBD : B ≠ D := fun e => by
    subst e
    have := (show w.heap[B]? = _ from h1).symm.trans hD
    cases this
  refine ⟨v, h1.kept hg (fun e => by cases e; exact hBD rfl), h2.grown hg ?_⟩
  rintro g o' n c rfl hd e
  rcases h2 with ⟨h3, _⟩ | ⟨g', o2, cap, h3, hc, _⟩
  · exact hd h3
  · cases h3; cases e
    obtain ⟨p, hp⟩ : ∃ p, d[0]? = some p := by cases d with | nil => exact absurd rfl hd | cons p ps => exact ⟨p, rfl⟩
    have h4 := (hc 0 p hp).1
    simp only [World.cell?, hD] at h4
    cases h4
/-- The numbers of the parts that a range touches. -/
theorem tl_fst {d : List Pt} {x y : ByteArray} : ∀ {n : Nat}, ∀ q ∈ tl d x y n, q.1 < n ∧ q.1 < d.length
  | 0, q, hq => by cases hq
  | n + 1, q, hq => by
    rw [tl] at hq
    rcases List.mem_append.1 hq with h | h
    · have := tl_fst q h; omega
    · cases hp : d[n]? with
      | none => rw [hp] at h; cases h
      | some p =>
        rw [hp] at h
        have := (List.getElem?_eq_some_iff.1 hp).1
        simp only at h
        split at h
        · rcases List.mem_singleton.1 h with rfl; exact ⟨by omega, this⟩
        · cases h
theorem fst_lst {d : List Pt} {x y : ByteArray} (h : tl d x y d.length ≠ []) : ∃ f l : Nat, fstL (tl d x y d.length) = (f : Int) ∧ lstL (tl d x y d.length) = (l : Int) ∧ f ≤ d.length ∧ l + 1 ≤ d.length := by
  cases hx : tl d x y d.length with
  | nil => exact absurd hx h
  | cons q l =>
    have h1 := tl_fst (d := d) (x := x) (y := y) (n := d.length) q (by rw [hx]; simp)
    have h2 := tl_fst (d := d) (x := x) (y := y) (n := d.length) ((q :: l).getLast (by simp)) (by rw [hx]; exact List.getLast_mem _)
    refine ⟨q.1, ((q :: l).getLast (by simp)).1, rfl, ?_, by omega, by omega⟩
    unfold lstL
    rw [List.getLast?_eq_some_getLast (by simp)]
theorem tl_in {d : List Pt} {x y : ByteArray} : ∀ {n : Nat}, ∀ q ∈ tl d x y n, q.2 ∈ d
  | 0, q, hq => by cases hq
  | n + 1, q, hq => by
    rw [tl] at hq
    rcases List.mem_append.1 hq with h | h
    · exact tl_in q h
    · cases hp : d[n]? with
      | none => rw [hp] at h; cases h
      | some p =>
        rw [hp] at h
        simp only at h
        split at h
        · rcases List.mem_singleton.1 h with rfl; exact List.mem_of_getElem? hp
        · cases h
theorem ep_fold : ∀ (l : List (Nat × Pt)) (m : Int), 0 ≤ m → m ≤ 2147483648 → (∀ q ∈ l, q.2.e ≤ 2147483648) → 0 ≤ l.foldl (fun m q => max m q.2.e) m ∧ l.foldl (fun m q => max m q.2.e) m ≤ 2147483648
  | [], m, h1, h2, _ => ⟨h1, h2⟩
  | q :: l, m, h1, h2, h3 => by
    have := h3 q (by simp)
    rw [List.foldl_cons]
    exact ep_fold l _ (by omega) (by omega) (fun r hr => h3 r (List.mem_cons_of_mem _ hr))
theorem epL_bd {d : List Pt} {x y : ByteArray} (h : ∀ p ∈ d, p.e ≤ 2147483648) : 0 ≤ epL (tl d x y d.length) ∧ epL (tl d x y d.length) ≤ 2147483648 :=
  ep_fold _ 0 (by omega) (by omega) (fun q hq => h _ (tl_in q hq))
theorem atL_le (x : ByteArray) (left : List Pt) : atL x left ≤ left.length ∧ atL x left ≤ 1 := by
  cases left with
  | nil => simp [atL]
  | cons p l => simp only [atL, List.length_cons]; split <;> omega
end Go.Proofs.YtkkkppbcjmeapaaDoor
