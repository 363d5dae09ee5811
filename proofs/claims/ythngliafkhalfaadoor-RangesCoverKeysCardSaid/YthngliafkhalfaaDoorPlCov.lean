/- Plain facts about covers: ranges one behind the other, in any order, sorted by their beginnings; what the check of a cover says of them, and of them without one. No condition. -/
import Derived.Test.YthngliafkhalfaaDoorPlOrd
namespace Go.Proofs.YthngliafkhalfaaDoor

abbrev LR' := List UInt8 × List UInt8
/-- What Cover looks at, behind the sort. -/
def coverB : List UInt8 → List LR' → Bool
  | _, [] => true
  | at', p :: l => p.1 == at' && ((p.2 == []) == l.isEmpty && coverB p.2 l)
/-- Ranges one behind the other, cut at these ends. -/
def chainL : List UInt8 → List (List UInt8) → List LR'
  | at', [] => [(at', [])]
  | at', e :: es => (at', e) :: chainL e es
/-- Ends that ascend. -/
def Asc : List UInt8 → List (List UInt8) → Prop
  | _, [] => True
  | at', e :: es => Op.bytesLess at' e = true ∧ Asc e es
/-- Sorted, no beginning twice. -/
def Srt : List LR' → Prop
  | [] => True
  | p :: l => (∀ q ∈ l, Op.bytesLess p.1 q.1 = true) ∧ Srt l

theorem asc_lt : ∀ {at' : List UInt8} {es : List (List UInt8)}, Asc at' es → ∀ e ∈ es, Op.bytesLess at' e = true
  | _, _ :: _, h, e, he => by
    rcases List.mem_cons.1 he with rfl | he
    · exact h.1
    · exact bl_trans h.1 (asc_lt h.2 e he)
theorem chain_fst : ∀ {at' : List UInt8} {es : List (List UInt8)} {q : LR'}, q ∈ chainL at' es → q.1 = at' ∨ q.1 ∈ es
  | _, [], q, h => by
    rw [chainL, List.mem_singleton] at h
    rw [h]; exact Or.inl rfl
  | _, e :: es, q, h => by
    rw [chainL, List.mem_cons] at h
    rcases h with rfl | h
    · exact Or.inl rfl
    · rcases chain_fst h with h | h
      · exact Or.inr (by rw [h]; exact List.mem_cons_self ..)
      · exact Or.inr (List.mem_cons_of_mem _ h)
theorem chain_srt : ∀ {at' : List UInt8} {es : List (List UInt8)}, Asc at' es → Srt (chainL at' es)
  | _, [], _ => ⟨(fun _ h => by cases h), trivial⟩
  | at', e :: es, h => by
    refine ⟨fun q hq => ?_, chain_srt h.2⟩
    rcases chain_fst hq with h1 | h1
    · rw [h1]; exact h.1
    · exact bl_trans h.1 (asc_lt h.2 _ h1)
theorem lt_ne {x : List UInt8} {y : List UInt8} (h : Op.bytesLess x y = true) : y ≠ [] := fun e => by
  rw [e, bl_nil] at h; cases h
theorem chain_cover : ∀ {at' : List UInt8} {es : List (List UInt8)}, Asc at' es → coverB at' (chainL at' es) = true
  | _, [], _ => by simp [chainL, coverB]
  | at', e :: es, h => by
    rw [chainL, coverB, chain_cover h.2]
    have h1 : (e == ([] : List UInt8)) = false := beq_eq_false_iff_ne.2 (lt_ne h.1)
    have h2 : (chainL e es).isEmpty = false := by cases es <;> rfl
    simp [h1, h2]
/-- Two lists that are sorted, and have the same ranges, are one. -/
theorem srt_eq : ∀ {l m : List LR'}, Srt l → Srt m → l.Perm m → l = m
  | [], _, _, _, hp => (List.nil_perm.1 hp).symm ▸ rfl
  | p :: l, [], _, _, hp => by cases List.perm_nil.1 hp
  | p :: l, q :: m, h1, h2, hp => by
    have e : p = q := by
      have hpm : p ∈ q :: m := hp.subset (List.mem_cons_self ..)
      have hqm : q ∈ p :: l := hp.symm.subset (List.mem_cons_self ..)
      rcases List.mem_cons.1 hpm with h | h
      · exact h
      · rcases List.mem_cons.1 hqm with h' | h'
        · exact h'.symm
        · have a := h1.1 q h'
          have b := h2.1 p h
          have := bl_trans a b
          rw [bl_irr] at this
          cases this
    subst e
    rw [srt_eq h1.2 h2.2 (List.Perm.cons_inv hp)]
theorem srt_erase : ∀ {l : List LR'} (q : LR'), Srt l → Srt (l.erase q)
  | [], _, _ => trivial
  | p :: l, q, h => by
    rw [List.erase_cons]
    split
    · exact h.2
    · exact ⟨fun x hx => h.1 x (List.mem_of_mem_erase hx), srt_erase q h.2⟩
/-- Without one of them they are no cover. -/
theorem chain_erase : ∀ {at' : List UInt8} {es : List (List UInt8)} {q : LR'}, Asc at' es → q ∈ chainL at' es → (decide (((chainL at' es).erase q).length > 0) && coverB at' ((chainL at' es).erase q)) = false
  | at', [], q, _, hq => by
    rw [chainL, List.mem_singleton] at hq
    subst hq
    simp [chainL]
  | at', e :: es, q, h, hq => by
    rw [chainL, List.mem_cons] at hq
    rw [chainL, List.erase_cons]
    split
    · rename_i hc
      have h3 : ∃ t l, chainL e es = (e, t) :: l := by cases es <;> exact ⟨_, _, rfl⟩
      obtain ⟨t, l, h3⟩ := h3
      rw [h3, coverB]
      have h4 : ((e, t).1 == at') = false := beq_eq_false_iff_ne.2 (fun h5 => by have := h.1; rw [show e = at' from h5, bl_irr] at this; cases this)
      rw [h4]; simp
    · rename_i hc
      have hq' : q ∈ chainL e es := by
        rcases hq with rfl | hq
        · exact absurd (by simp) hc
        · exact hq
      have ih := chain_erase h.2 hq'
      have h1 : (e == ([] : List UInt8)) = false := beq_eq_false_iff_ne.2 (lt_ne h.1)
      rw [coverB]
      cases hE : (chainL e es).erase q with
      | nil => simp [h1]
      | cons x y =>
        rw [hE] at ih
        simp only [List.length_cons, gt_iff_lt, Nat.zero_lt_succ, decide_true, Bool.true_and] at ih
        simp [h1, ih]
end Go.Proofs.YthngliafkhalfaaDoor
