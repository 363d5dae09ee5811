/- What the reference's Move makes of a map, and that it is what the program's makes. No condition. -/
import Derived.Test.YtkkkppbcjmeapaaDoorPlMvs
namespace Go.Proofs.YtkkkppbcjmeapaaDoor

theorem maxS_comm (x y : ByteArray) : maxS x y = maxS y x := by
  obtain ⟨f, R⟩ := ranks [x, y]
  have hx : x ∈ [x, y] := by simp
  have hy : y ∈ [x, y] := by simp
  exact rank_eq R (maxS_mem hx hy) (maxS_mem hy hx) (by rw [maxS_en R hx hy, maxS_en R hy hx]; omega)
theorem tch_sym (x y : ByteArray) (p : Pt) : ((okR x y && okR p.f p.t) && okR (maxS x p.f) (minE y p.t)) = tch x y p := by
  unfold tch
  rw [maxS_comm x p.f, minE_comm y p.t, Bool.and_comm (okR x y)]
/-- The parts that stay, by the reference. -/
def refL (x y : ByteArray) (d : List Pt) : List Pt := d.flatMap fun p => if tch x y p = true then pcs x y p else [p]
/-- The new part stands ahead of the first one that begins at its end, or behind all. -/
def putL (y : ByteArray) (q : Pt) : List Pt → List Pt
  | [] => [q]
  | p :: l => if y ≠ ⟨#[]⟩ ∧ p.f = y then q :: p :: l else p :: putL y q l
def refE (x y : ByteArray) (d : List Pt) : Int := (d.filter (tch x y)).foldl (fun e p => min (max e (p.e + 1)) 2147483648) 0
theorem putL_skip {y : ByteArray} {q : Pt} : ∀ {l m : List Pt}, (∀ p ∈ l, ¬ (y ≠ ⟨#[]⟩ ∧ p.f = y)) → putL y q (l ++ m) = l ++ putL y q m
  | [], _, _ => rfl
  | p :: l, m, h => by
    rw [List.cons_append, putL, if_neg (h p (by simp)), putL_skip (fun r hr => h r (List.mem_cons_of_mem _ hr))]; rfl
theorem refE_from : ∀ (l : List Pt) (m : Int), 0 ≤ m → m ≤ 2147483647 → (∀ p ∈ l, 1 ≤ p.e ∧ p.e ≤ 2147483648) → ∀ e : Int, (e = m + 1 ∨ (e = 0 ∧ m = 0)) → l ≠ [] →
    l.foldl (fun e p => min (max e (p.e + 1)) 2147483648) e = min (l.foldl (fun m p => max m p.e) m + 1) 2147483648
  | [], _, _, _, _, _, _, h => absurd rfl h
  | [p], m, h0, h1, hp, e, he, _ => by
    have := hp p (by simp)
    simp only [List.foldl_cons, List.foldl_nil]
    omega
  | p :: q :: l, m, h0, h1, hp, e, he, _ => by
    have hp0 := hp p (by simp)
    show (q :: l).foldl (fun e p => min (max e (p.e + 1)) 2147483648) (min (max e (p.e + 1)) 2147483648) = min ((q :: l).foldl (fun m p => max m p.e) (max m p.e) + 1) 2147483648
    by_cases hb : max m p.e ≤ 2147483647
    · exact refE_from (q :: l) (max m p.e) (by omega) hb (fun r hr => hp r (List.mem_cons_of_mem _ hr)) _ (Or.inl (by omega)) (by simp)
    · have e1 : min (max e (p.e + 1)) 2147483648 = 2147483648 := by omega
      have e2 : max m p.e = 2147483648 := by omega
      rw [e1, e2]
      have top : ∀ l : List Pt, (∀ p ∈ l, p.e ≤ 2147483648) → l.foldl (fun e p => min (max e (p.e + 1)) 2147483648) 2147483648 = 2147483648 ∧ l.foldl (fun m p => max m p.e) 2147483648 = 2147483648 := by
        intro l
        induction l with
        | nil => intro _; exact ⟨rfl, rfl⟩
        | cons r l ih =>
          intro hl
          have := hl r (by simp)
          have ih := ih (fun s hs => hl s (List.mem_cons_of_mem _ hs))
          rw [List.foldl_cons, List.foldl_cons, show min (max (2147483648 : Int) (r.e + 1)) 2147483648 = 2147483648 by omega, show max (2147483648 : Int) r.e = 2147483648 by omega]
          exact ih
      have := top (q :: l) (fun r hr => (hp r (List.mem_cons_of_mem _ hr)).2)
      rw [this.1, this.2]; omega
theorem refE_eq {d : List Pt} {x y : ByteArray} (h : ∀ p ∈ d, 1 ≤ p.e ∧ p.e ≤ 2147483648) (hne : ∃ p ∈ d, tch x y p = true) : refE x y d = min (epL (tl d x y d.length) + 1) 2147483648 := by
  rw [epL_mx]
  unfold refE mxE
  refine refE_from _ 0 (by omega) (by omega) (fun p hp => h p (List.mem_filter.1 hp).1) 0 (Or.inr ⟨rfl, rfl⟩) ?_
  obtain ⟨p, hp, ht⟩ := hne
  exact List.ne_nil_of_mem (List.mem_filter.2 ⟨hp, ht⟩)
theorem refL_new {d : List Pt} {x y : ByteArray} (g : Int) (hd : ChT ⟨#[]⟩ d) (hr : okR x y = true) : putL y ⟨x, y, g, min (epL (tl d x y d.length) + 1) 2147483648⟩ (refL x y d) = newL d x y g := by
  obtain ⟨f, T, R, hT⟩ := nums (allL d x y ⟨#[]⟩)
  have hx : x ∈ allL d x y ⟨#[]⟩ := by simp [allL]
  have hy : y ∈ allL d x y ⟨#[]⟩ := by simp [allL]
  have h0 : (⟨#[]⟩ : ByteArray) ∈ allL d x y ⟨#[]⟩ := by simp [allL]
  obtain ⟨pre, mid, post, hp, lp, c, c', M⟩ := move_cut R hT g hx hy h0 allL_d hd hr
  have hxy : f x < en f T y := by
    have := hr
    rw [okR_en R hT hx hy] at this
    simp only [Bool.and_eq_true, decide_eq_true_eq] at this
    exact this.2.2
  have e0 : refL x y d = pre ++ hp ++ (lp ++ post) := by
    have f1 : ∀ l : List Pt, (∀ p ∈ l, tch x y p = false) → refL x y l = l := by
      intro l
      induction l with
      | nil => intro _; rfl
      | cons p l ih =>
        intro h
        unfold refL at ih ⊢
        rw [List.flatMap_cons, h p (by simp), if_neg (by simp), ih (fun q hq => h q (List.mem_cons_of_mem _ hq))]; rfl
    have f2 : refL x y mid = mid.flatMap (pcs x y) := fm_congr (fun p hp => if_pos (M.p2 p hp))
    rw [M.hd]
    unfold refL at f1 f2 ⊢
    rw [List.flatMap_append, List.flatMap_append, f1 pre M.p1, f2, f1 post M.p3, M.fl]
    simp
  have e1 : min (epL (tl d x y d.length) + 1) 2147483648 = min (mxE mid + 1) 2147483648 := by rw [epL_mx, M.filt]
  rw [e0, e1, M.new]
  have low : ∀ p ∈ pre ++ hp, ¬ (y ≠ ⟨#[]⟩ ∧ p.f = y) := by
    rintro p hp' ⟨h1, h2⟩
    have hfy : f y ≠ 0 := fun e => h1 ((rank_zero R hy).1 e)
    have hey : en f T y = f y := by unfold en; rw [if_neg hfy]
    rcases List.mem_append.1 hp' with h | h
    · have := (nch_le M.n1).2 _ (List.mem_map_of_mem (f := nOf f T) h)
      have := M.cx
      have : (nOf f T p).a = f y := by show f p.f = f y; rw [h2]
      omega
    · have hh := List.mem_map_of_mem (f := nOf f T) h
      rw [M.h] at hh
      split at hh
      · rw [List.mem_singleton] at hh
        have h3 : (nOf f T p).a = f y := by show f p.f = f y; rw [h2]
        rw [hh] at h3
        have h4 : c = f y := h3
        have := M.cx
        omega
      · cases hh
  rw [putL_skip low]
  have tail : putL y ⟨x, y, g, min (mxE mid + 1) 2147483648⟩ (lp ++ post) = ⟨x, y, g, min (mxE mid + 1) 2147483648⟩ :: (lp ++ post) := by
    cases hl : lp ++ post with
    | nil => rfl
    | cons p l =>
      have hy0 : y ≠ ⟨#[]⟩ := by
        intro e
        have hz := (rank_zero R hy).2 e
        have hey : en f T y = T := by unfold en; rw [if_pos hz]
        have hc := M.cy
        have hn3 := (nch_le M.n3).1
        have hlp : lp = [] := by
          have := M.l
          rw [if_neg (by omega)] at this
          exact List.map_eq_nil_iff.1 this
        have hpo : post = [] := by
          cases hq : post with
          | nil => rfl
          | cons q po =>
            have := (nch_le M.n3).2 (nOf f T q) (by rw [hq]; simp)
            omega
        rw [hlp, hpo] at hl; cases hl
      have hfy : f y ≠ 0 := fun e => hy0 ((rank_zero R hy).1 e)
      have hey : en f T y = f y := by unfold en; rw [if_neg hfy]
      have hpf : f p.f = f y ∧ p.f ∈ allL d x y ⟨#[]⟩ := by
        rcases map_nil_or M.l with ⟨hc, q, hq1, hq2⟩ | ⟨hc, hq1⟩
        · rw [hq1] at hl
          injection hl with h1 h2
          subst h1
          have h3 : f q.f = en f T y := congrArg NP.a hq2
          refine ⟨by omega, ?_⟩
          rcases (M.txt q (by rw [hq1]; simp)).1 with e | e | e
          · rw [e]; exact hx
          · rw [e]; exact hy
          · exact by unfold allL; simp only [List.mem_cons]; exact Or.inr (Or.inr (Or.inr (Or.inr e)))
        · rw [hq1, List.nil_append] at hl
          have h3 : (nOf f T p).a = c' := by
            have := M.n3
            rw [hl] at this
            exact this.1
          have := M.cy
          have hin : p ∈ d := by rw [M.hd, hl]; simp
          refine ⟨?_, (allL_d p hin).1⟩
          have : f p.f = c' := h3
          omega
      have : p.f = y := rank_eq R hpf.2 hy hpf.1
      rw [putL, if_pos ⟨hy0, this⟩]
  rw [tail]
  simp
end Go.Proofs.YtkkkppbcjmeapaaDoor
