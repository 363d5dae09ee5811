/- Merged by program: PlRst, PlRef2, PlRfR. -/
import Derived.Test.YtkkkppbcjmeapaaDoorPtLop
import Derived.Test.YtkkkppbcjmeapaaDoorRtB
namespace Go.Proofs.YtkkkppbcjmeapaaDoor
section

/-- The end behind which a part of a list must begin. -/
def befD (a : ByteArray) (d : List Pt) (i : Nat) : ByteArray := match i with
  | 0 => a
  | j + 1 => match d[j]? with
    | some q => q.t
    | none => a
theorem befD_cons (a : ByteArray) (p : Pt) (d : List Pt) (i : Nat) (hi : i ≤ d.length) : befD a (p :: d) (i + 1) = befD p.t d i := by
  cases i with
  | zero => rfl
  | succ j =>
    simp only [befD, List.getElem?_cons_succ]
    rw [List.getElem?_eq_getElem (show j < d.length by omega)]
theorem chT_ix : ∀ (d : List Pt) (a : ByteArray), ChT a d ↔ d ≠ [] ∧ ∀ i p, d[i]? = some p → p.f = befD a d i ∧ okR p.f p.t = true ∧ (p.t = ⟨#[]⟩ ↔ i + 1 = d.length)
  | [], a => ⟨fun h => h.elim, fun h => absurd rfl h.1⟩
  | p :: d, a => by
    have ih := chT_ix d p.t
    constructor
    · rintro ⟨h1, h2, h3⟩
      refine ⟨by simp, fun i q hi => ?_⟩
      cases i with
      | zero =>
        simp only [List.getElem?_cons_zero, Option.some.injEq] at hi
        subst hi
        refine ⟨h1, h2, ?_⟩
        rcases h3 with ⟨rfl, h4⟩ | ⟨h4, h5, _⟩
        · simp [h4]
        · constructor
          · exact fun h => absurd h h5
          · intro h
            exact absurd (List.length_eq_zero_iff.1 (by simpa using h)) h4
      | succ j =>
        simp only [List.getElem?_cons_succ] at hi
        have hj := (List.getElem?_eq_some_iff.1 hi).1
        rcases h3 with ⟨rfl, _⟩ | ⟨h4, h5, h6⟩
        · simp at hi
        · obtain ⟨g1, g2, g3⟩ := (ih.1 h6).2 j q hi
          rw [befD_cons a p d j (by omega)]
          refine ⟨g1, g2, g3.trans ?_⟩
          simp only [List.length_cons]; omega
    · rintro ⟨_, h⟩
      obtain ⟨g1, g2, g3⟩ := h 0 p rfl
      refine ⟨g1, g2, ?_⟩
      by_cases hd : d = []
      · subst hd
        exact Or.inl ⟨rfl, g3.2 rfl⟩
      · refine Or.inr ⟨hd, fun e => hd (List.length_eq_zero_iff.1 (by have := g3.1 e; simpa using this.symm)), ih.2 ⟨hd, fun i q hi => ?_⟩⟩
        obtain ⟨k1, k2, k3⟩ := h (i + 1) q (by simpa using hi)
        have hj := (List.getElem?_eq_some_iff.1 hi).1
        rw [befD_cons a p d i (by omega)] at k1
        refine ⟨k1, k2, k3.trans ?_⟩
        simp only [List.length_cons]; omega
/-- One part of a list may stand in a map. -/
def RstI (d : List Pt) (i : Nat) (p : Pt) : Prop := okR p.f p.t = true ∧ p.f = befD ⟨#[]⟩ d i ∧ (p.t = ⟨#[]⟩ ↔ i + 1 = d.length) ∧ (1 ≤ p.g ∧ p.g < 8) ∧ 1 ≤ p.e ∧ p.e ≤ 2147483648
def RstOK (d : List Pt) : Prop := 1 ≤ d.length ∧ d.length ≤ 64 ∧ ∀ i p, d[i]? = some p → RstI d i p
theorem rst_says (d : List Pt) : RstOK d ↔ d.length ≤ 64 ∧ ChT ⟨#[]⟩ d ∧ ∀ p ∈ d, (1 ≤ p.g ∧ p.g < 8) ∧ 1 ≤ p.e ∧ p.e ≤ 2147483648 := by
  rw [chT_ix]
  constructor
  · rintro ⟨h0, h1, h2⟩
    refine ⟨h1, ⟨fun e => by rw [e] at h0; simp at h0, fun i p hi => ⟨(h2 i p hi).2.1, (h2 i p hi).1, (h2 i p hi).2.2.1⟩⟩, fun p hp => ?_⟩
    obtain ⟨i, hi⟩ := List.getElem?_of_mem hp
    exact ⟨(h2 i p hi).2.2.2.1, (h2 i p hi).2.2.2.2⟩
  · rintro ⟨h1, ⟨h0, h2⟩, h3⟩
    refine ⟨by have := List.length_pos_iff.2 h0; omega, h1, fun i p hi => ⟨(h2 i p hi).2.1, (h2 i p hi).1, (h2 i p hi).2.2, (h3 p (List.mem_of_getElem? hi)).1, (h3 p (List.mem_of_getElem? hi)).2⟩⟩
end
section

/-- A map that is as it has to be. -/
structure Good (d : List Pt) : Prop where
  ch : ChT ⟨#[]⟩ d
  l : d.length ≤ 64
  b : ∀ p ∈ d, (1 ≤ p.g ∧ p.g < 8) ∧ 1 ≤ p.e ∧ p.e ≤ 2147483648
theorem Good.rst {d : List Pt} : RstOK d ↔ Good d := (rst_says d).trans ⟨fun h => ⟨h.2.1, h.1, h.2.2⟩, fun h => ⟨h.l, h.ch, h.b⟩⟩
theorem Good.one {g : Int} (h : 1 ≤ g ∧ g < 8) : Good [⟨⟨#[]⟩, ⟨#[]⟩, g, 1⟩] :=
  ⟨ch_one g 1, by simp, fun p hp => by rw [List.mem_singleton.1 hp]; exact ⟨h, show (1 : Int) ≤ 1 by decide, show (1 : Int) ≤ 2147483648 by decide⟩⟩
theorem okS_size {x : ByteArray} (h : okS x = true) : x.size ≤ 16 := by
  unfold okS at h
  rw [Bool.or_eq_true] at h
  rcases h with h | h
  · rw [beq_iff_eq, ByteArray.toList_eq] at h
    have : x.data.toList.length = 0 := by rw [h]; rfl
    rw [← Lib.size_eq] at this; omega
  · unfold isName at h
    simp only [Bool.and_eq_true, decide_eq_true_eq] at h
    have := h.2.1
    rw [← Lib.size_eq] at this; omega
theorem Good.ne {d : List Pt} (h : Good d) : d ≠ [] := (chT_ok h.ch).1
theorem Good.sm {d : List Pt} (h : Good d) : SmallP d := ⟨by have := h.l; omega, fun p hp => by
  have := (chT_ok h.ch).2 p hp
  have h1 := okS_size (okR_left this)
  have h2 := okS_size (okR_right this)
  omega⟩
theorem Good.find {d : List Pt} (h : Good d) (key : ByteArray) (hk : isName key.data.toList = true) : ∃ p, d.find? (fun p => hasR p.f p.t key) = some p := by
  obtain ⟨p, hp, _⟩ := chT_find h.ch hk
  exact ⟨p, hp⟩
theorem Good.move {d : List Pt} (h : Good d) (x y : ByteArray) (g : Int) : Good (moveV d x y g).2.2 := by
  unfold moveV
  split
  · exact h
  · rename_i h1
    split
    · exact h
    · rename_i h2
      split
      · exact h
      · split
        · exact h
        · rename_i h3 h4
          have hr : okR x y = true := by
            cases hq : okR x y with
            | true => rfl
            | false => rw [owner_bad h.ne hq] at h1; exact absurd (show (2 : Int) ≠ 0 by decide) h1
          have M := move_says g h.ch hr
          refine ⟨M.ch, by show (newL d x y g).length ≤ 64; omega, fun p hp => ?_⟩
          rcases M.grp p hp with rfl | ⟨q, hq, e1, e2⟩
          · refine ⟨by show 1 ≤ g ∧ g < 8; omega, ?_⟩
            obtain ⟨q, hq, ht⟩ := M.ne
            have h5 := (h.b q hq).2
            have h6 := (mxE_ge (d.filter (tch x y)) 0).2 q (List.mem_filter.2 ⟨hq, ht⟩)
            have h7 := mxE_le (d.filter (tch x y)) 0 2147483648 (by omega) (fun p hp => (h.b p (List.mem_filter.1 hp).1).2.2)
            show 1 ≤ mvE d x y ∧ mvE d x y ≤ 2147483648
            unfold mvE mxE
            omega
          · rw [← e1, ← e2]; exact h.b q hq
/-- The group of the parts that a range touches, one part after another. -/
def rownL (x y : ByteArray) : List Pt → Int → Option Int
  | [], o => some o
  | p :: l, o => if tch x y p = true then (if o ≠ 0 ∧ o ≠ p.g then none else rownL x y l p.g) else rownL x y l o
theorem rownL_ix (x y : ByteArray) : ∀ (d : List Pt) (s : Nat) (o : Int), rownL x y d o = ownL ((ix s d).filter (fun q => tch x y q.2)) o
  | [], s, o => rfl
  | p :: l, s, o => by
    rw [rownL, ix]
    by_cases ht : tch x y p = true
    · rw [if_pos ht, List.filter_cons, if_pos ht, ownL]
      by_cases ho : o ≠ 0 ∧ o ≠ p.g
      · rw [if_pos ho, if_pos ⟨ho.1, Ne.symm ho.2⟩]
      · rw [if_neg ho, if_neg (fun h => ho ⟨h.1, Ne.symm h.2⟩), rownL_ix x y l (s + 1)]
    · rw [if_neg ht, List.filter_cons, if_neg ht, rownL_ix x y l (s + 1)]
theorem rownL_snoc (x y : ByteArray) : ∀ (l m : List Pt) (o : Int), rownL x y (l ++ m) o = (rownL x y l o).bind (rownL x y m)
  | [], m, o => rfl
  | p :: l, m, o => by
    simp only [List.cons_append, rownL]
    split
    · split
      · rfl
      · exact rownL_snoc x y l m _
    · exact rownL_snoc x y l m o
/-- What the reference's Owner says, and the program's. -/
theorem ref_owner {d : List Pt} {x y : ByteArray} (hd : d ≠ []) (hr : okR x y = true) : ownerV d x y = match rownL x y d 0 with | none => (0, false, 0) | some o => (o, decide (0 < o), 0) := by
  unfold ownerV
  rw [if_neg hd, if_neg (by rw [hr]; decide), tl_ix, List.take_length, ← rownL_ix]
  rfl
theorem rownL_pos (x y : ByteArray) : ∀ (d : List Pt) (o : Int), 0 ≤ o → (∀ p ∈ d, 1 ≤ p.g) → ∀ v, rownL x y d o = some v → 0 ≤ v
  | [], o, h, _, v, e => by cases e; exact h
  | p :: l, o, h, hg, v, e => by
    rw [rownL] at e
    have := hg p (by simp)
    split at e
    · split at e
      · cases e
      · exact rownL_pos x y l p.g (by omega) (fun q hq => hg q (List.mem_cons_of_mem _ hq)) v e
    · exact rownL_pos x y l o h (fun q hq => hg q (List.mem_cons_of_mem _ hq)) v e
/-- What the reference's Move has looked at: the epoch so far, and the parts that stay. -/
theorem refL_snoc (x y : ByteArray) (d : List Pt) (k : Nat) (p : Pt) (h : d[k]? = some p) : refL x y (d.take (k + 1)) = refL x y (d.take k) ++ (if tch x y p = true then pcs x y p else [p]) := by
  rw [List.take_add_one, h]; simp [refL]
theorem refE_snoc (x y : ByteArray) (d : List Pt) (k : Nat) (p : Pt) (h : d[k]? = some p) : refE x y (d.take (k + 1)) = if tch x y p = true then min (max (refE x y (d.take k)) (p.e + 1)) 2147483648 else refE x y (d.take k) := by
  rw [List.take_add_one, h]
  unfold refE
  by_cases ht : tch x y p = true
  · rw [if_pos ht]; simp [List.filter_append, ht]
  · rw [if_neg ht]; simp [List.filter_append, ht]
theorem pcs_len (x y : ByteArray) (p : Pt) : (pcs x y p).length ≤ 2 := by unfold pcs; rw [List.length_map]; exact outL_len ..
theorem refL_len (x y : ByteArray) : ∀ d : List Pt, (refL x y d).length ≤ 2 * d.length
  | [] => by simp [refL]
  | p :: d => by
    have h1 := refL_len x y d
    have h2 := pcs_len x y p
    have : refL x y (p :: d) = (if tch x y p = true then pcs x y p else [p]) ++ refL x y d := rfl
    rw [this, List.length_append, List.length_cons]
    split <;> simp <;> omega
theorem refE_bd (x y : ByteArray) (d : List Pt) : refE x y d ≤ 2147483648 ∧ ((∀ p ∈ d, 1 ≤ p.e) → 0 ≤ refE x y d) := by
  unfold refE
  generalize hl : d.filter (tch x y) = l
  have main : ∀ (l : List Pt) (e : Int), 0 ≤ e → e ≤ 2147483648 → (l.foldl (fun e p => min (max e (p.e + 1)) 2147483648) e ≤ 2147483648 ∧ 0 ≤ l.foldl (fun e p => min (max e (p.e + 1)) 2147483648) e) := by
    intro l
    induction l with
    | nil => intro e h0 h1; exact ⟨h1, h0⟩
    | cons p l ih => intro e h0 h1; rw [List.foldl_cons]; exact ih (min (max e (p.e + 1)) 2147483648) (by omega) (by omega)
  exact ⟨(main l 0 (by omega) (by omega)).1, fun _ => (main l 0 (by omega) (by omega)).2⟩
/-- The second loop: the new part is put in among the parts looked at so far. -/
def putK (y : ByteArray) (l : List Pt) (k : Nat) : Bool := (l.take k).any fun p => decide (y ≠ ⟨#[]⟩ ∧ p.f = y)
def outK (y : ByteArray) (q : Pt) (l : List Pt) (k : Nat) : List Pt := if putK y l k = true then putL y q (l.take k) else l.take k
theorem putL_not {y : ByteArray} {q : Pt} : ∀ {l : List Pt}, (l.any fun p => decide (y ≠ ⟨#[]⟩ ∧ p.f = y)) = false → putL y q l = l ++ [q]
  | [], _ => rfl
  | p :: l, h => by
    simp only [List.any_cons, Bool.or_eq_false_iff, decide_eq_false_iff_not] at h
    rw [putL, if_neg h.1, putL_not h.2]; rfl
theorem putL_yes {y : ByteArray} {q : Pt} : ∀ {l m : List Pt}, (l.any fun p => decide (y ≠ ⟨#[]⟩ ∧ p.f = y)) = true → putL y q (l ++ m) = putL y q l ++ m
  | [], _, h => by simp at h
  | p :: l, m, h => by
    rw [List.cons_append, putL, putL]
    by_cases hp : y ≠ ⟨#[]⟩ ∧ p.f = y
    · rw [if_pos hp, if_pos hp]; rfl
    · rw [if_neg hp, if_neg hp, putL_yes (by simpa [hp] using h)]; rfl
theorem outK_len (y : ByteArray) (q : Pt) (l : List Pt) (k : Nat) : (outK y q l k).length ≤ k + 1 := by
  have hl : ∀ m : List Pt, (putL y q m).length = m.length + 1 := by
    intro m
    induction m with
    | nil => rfl
    | cons p m ih => rw [putL]; split <;> simp [ih]
  unfold outK
  have : (l.take k).length ≤ k := List.length_take_le _ _
  split
  · rw [hl]; omega
  · omega
/-- A round of the second loop. -/
theorem outK_round {y : ByteArray} {q : Pt} {l : List Pt} {k : Nat} {p : Pt} (h : l[k]? = some p) :
    (putK y l k = false → (y ≠ ⟨#[]⟩ ∧ p.f = y) → putK y l (k + 1) = true ∧ outK y q l (k + 1) = outK y q l k ++ [q] ++ [p]) ∧
    (¬ (putK y l k = false ∧ y ≠ ⟨#[]⟩ ∧ p.f = y) → putK y l (k + 1) = putK y l k ∧ outK y q l (k + 1) = outK y q l k ++ [p]) := by
  have ht : l.take (k + 1) = l.take k ++ [p] := by rw [List.take_add_one, h]; rfl
  have hk : putK y l (k + 1) = (putK y l k || decide (y ≠ ⟨#[]⟩ ∧ p.f = y)) := by
    unfold putK; rw [ht, List.any_append]; simp
  constructor
  · intro h1 h2
    have h3 : putK y l (k + 1) = true := by rw [hk, h1, decide_eq_true h2]; rfl
    refine ⟨h3, ?_⟩
    unfold outK
    rw [h3, h1, if_pos rfl, if_neg (by decide), ht, putL_skip (m := [p]) (fun r hr hh => by
      have := h1
      unfold putK at this
      rw [List.any_eq_false] at this
      exact this r hr (by simpa using hh)), putL, if_pos h2]
    simp
  · intro h1
    cases h2 : putK y l k with
    | true =>
      have h3 : putK y l (k + 1) = true := by rw [hk, h2]; rfl
      refine ⟨h3, ?_⟩
      unfold outK
      rw [h3, h2, if_pos rfl, if_pos rfl, ht, putL_yes h2]
    | false =>
      have h4 : ¬ (y ≠ ⟨#[]⟩ ∧ p.f = y) := fun h => h1 ⟨h2, h⟩
      have h3 : putK y l (k + 1) = false := by rw [hk, h2, decide_eq_false h4]; rfl
      refine ⟨h3, ?_⟩
      unfold outK
      rw [h3, h2, if_neg (by decide), if_neg (by decide), ht]
theorem outK_end (y : ByteArray) (q : Pt) (l : List Pt) : putL y q l = if putK y l l.length = true then outK y q l l.length else outK y q l l.length ++ [q] := by
  unfold outK putK
  rw [List.take_length]
  cases h : l.any fun p => decide (y ≠ ⟨#[]⟩ ∧ p.f = y) with
  | true => simp
  | false => simp [putL_not h]
/-- What the reference's Move answers is what the program's does. -/
theorem ref_move {d : List Pt} {x y : ByteArray} {g : Int} (h : Good d) (hr : okR x y = true) (hg : 1 ≤ g ∧ g < 8) (ho : (ownerV d x y).2.1 = true) (hne : (ownerV d x y).1 ≠ g) :
    moveV d x y g = if 64 < (putL y ⟨x, y, g, refE x y d⟩ (refL x y d)).length then (0, 4, d) else (refE x y d, 0, putL y ⟨x, y, g, refE x y d⟩ (refL x y d)) := by
  have hn := (move_says g h.ch hr).ne
  have he := refE_eq (fun p hp => (h.b p hp).2) hn
  have h0 : (ownerV d x y).2.2 = 0 := by
    rw [ref_owner h.ne hr]
    split <;> rfl
  unfold moveV
  rw [he, refL_new g h.ch hr, if_neg (by rw [h0]; decide), if_neg (by simp; omega), if_neg (by rw [ho]; simp [hne])]
theorem ref_stay {d : List Pt} {x y : ByteArray} {g : Int} (hs : (ownerV d x y).2.2 ≠ 0 ∨ ¬ (1 ≤ g ∧ g < 8) ∨ (ownerV d x y).2.1 = false ∨ (ownerV d x y).1 = g) :
    moveV d x y g = (0, if (ownerV d x y).2.2 ≠ 0 then (ownerV d x y).2.2 else if ¬ (1 ≤ g ∧ g < 8) then 2 else 9, d) := by
  unfold moveV
  by_cases h1 : (ownerV d x y).2.2 ≠ 0
  · rw [if_pos h1, if_pos h1]
  · rw [if_neg h1, if_neg h1]
    by_cases h2 : ¬ (1 ≤ g ∧ g < 8)
    · rw [if_pos h2, if_pos h2]
    · rw [if_neg h2, if_neg h2, if_pos (by rcases hs with h | h | h | h; exact absurd h h1; exact absurd h h2; exact Or.inl h; exact Or.inr h)]
end
section

/-- One part of a list is as the reference's Restore wants it. -/
def RefI (d : List Pt) (i : Nat) (p : Pt) : Prop := okR p.f p.t = true ∧ (1 ≤ p.g ∧ p.g < 8) ∧ (1 ≤ p.e ∧ p.e ≤ 2147483648) ∧ (0 < i → p.f = befD ⟨#[]⟩ d i ∧ p.f ≠ ⟨#[]⟩)
def RefE (d : List Pt) : Prop := (∀ p, d[0]? = some p → p.f = ⟨#[]⟩) ∧ (∀ p, d[d.length - 1]? = some p → p.t = ⟨#[]⟩)
theorem ref_rst (d : List Pt) : RstOK d ↔ (1 ≤ d.length ∧ d.length ≤ 64) ∧ RefE d ∧ ∀ i p, d[i]? = some p → RefI d i p := by
  constructor
  · rintro ⟨h1, h2, h3⟩
    refine ⟨⟨h1, h2⟩, ⟨fun p hp => (h3 0 p hp).2.1, fun p hp => (h3 _ p hp).2.2.1.2 (by omega)⟩, fun i p hp => ?_⟩
    obtain ⟨a1, a2, a3, a4, a5⟩ := h3 i p hp
    refine ⟨a1, a4, a5, fun hi => ⟨a2, fun e => ?_⟩⟩
    obtain ⟨j, rfl⟩ : ∃ j, i = j + 1 := ⟨i - 1, by omega⟩
    have hl := (List.getElem?_eq_some_iff.1 hp).1
    obtain ⟨q, hq⟩ : ∃ q, d[j]? = some q := ⟨_, List.getElem?_eq_getElem (show j < d.length by omega)⟩
    have hb : befD ⟨#[]⟩ d (j + 1) = q.t := by simp only [befD, hq]
    rw [hb] at a2
    have := (h3 j q hq).2.2.1.1 (by rw [← a2]; exact e)
    omega
  · rintro ⟨⟨h1, h2⟩, ⟨h3, h4⟩, h5⟩
    refine ⟨h1, h2, fun i p hp => ?_⟩
    obtain ⟨a1, a2, a3, a4⟩ := h5 i p hp
    have hl := (List.getElem?_eq_some_iff.1 hp).1
    refine ⟨a1, ?_, ⟨fun e => ?_, fun e => h4 p (by rw [show d.length - 1 = i by omega]; exact hp)⟩, a2, a3⟩
    · cases i with
      | zero => exact h3 p hp
      | succ j => exact (a4 (by omega)).1
    · rcases Nat.lt_or_ge (i + 1) d.length with h | h
      · exfalso
        obtain ⟨q, hq⟩ : ∃ q, d[i + 1]? = some q := ⟨_, List.getElem?_eq_getElem h⟩
        obtain ⟨b1, b2⟩ := (h5 (i + 1) q hq).2.2.2 (by omega)
        have hb : befD ⟨#[]⟩ d (i + 1) = p.t := by simp only [befD, hp]
        rw [hb] at b1
        exact b2 (by rw [b1]; exact e)
      · omega
end
end Go.Proofs.YtkkkppbcjmeapaaDoor
