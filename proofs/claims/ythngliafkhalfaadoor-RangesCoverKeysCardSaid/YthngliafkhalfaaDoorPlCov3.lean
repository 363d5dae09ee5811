/- Plain facts about covers: a chain of ranges built end by end. No condition. -/
import Derived.Test.YthngliafkhalfaaDoorPlCov2
namespace Go.Proofs.YthngliafkhalfaaDoor

/-- The ranges ahead of the last one. -/
def pfx : List UInt8 → List (List UInt8) → List LR'
  | _, [] => []
  | a, e :: es => (a, e) :: pfx e es
def lastE : List UInt8 → List (List UInt8) → List UInt8
  | a, [] => a
  | _, e :: es => lastE e es
theorem chain_pfx : ∀ (a : List UInt8) (es : List (List UInt8)), chainL a es = pfx a es ++ [(lastE a es, [])]
  | _, [] => rfl
  | a, e :: es => by
    rw [chainL, pfx, lastE, chain_pfx e es]
    rfl
theorem pfx_snoc : ∀ (a : List UInt8) (es : List (List UInt8)) (e : List UInt8), pfx a (es ++ [e]) = pfx a es ++ [(lastE a es, e)]
  | _, [], _ => rfl
  | a, x :: es, e => by
    rw [List.cons_append, pfx, pfx, lastE, pfx_snoc x es e]
    rfl
theorem lastE_snoc : ∀ (a : List UInt8) (es : List (List UInt8)) (e : List UInt8), lastE a (es ++ [e]) = e
  | _, [], _ => rfl
  | a, x :: es, e => by
    rw [List.cons_append, lastE, lastE_snoc x es e]
theorem asc_snoc : ∀ {a : List UInt8} {es : List (List UInt8)} {e : List UInt8}, Asc a es → Op.bytesLess (lastE a es) e = true → Asc a (es ++ [e])
  | _, [], _, _, h => ⟨h, trivial⟩
  | _, _ :: _, _, h, h2 => ⟨h.1, asc_snoc h.2 h2⟩
theorem pfx_len : ∀ (a : List UInt8) (es : List (List UInt8)), (pfx a es).length = es.length
  | _, [] => rfl
  | a, x :: es => by rw [pfx, List.length_cons, List.length_cons, pfx_len x es]
theorem lastE_ok (a : List UInt8) (es : List (List UInt8)) (h0 : okS ⟨a.toArray⟩ = true) (h : ∀ e ∈ es, isName e = true) : okS ⟨(lastE a es).toArray⟩ = true := by
  induction es generalizing a with
  | nil => exact h0
  | cons x es ih =>
    rw [lastE]
    exact ih x (okS_name (h x (List.mem_cons_self ..))) (fun e he => h e (List.mem_cons_of_mem _ he))
/-- An end that goes on behind the last one. -/
theorem next_end {a e : List UInt8} (h : okR ⟨a.toArray⟩ ⟨e.toArray⟩ = true) (he : e ≠ []) : isName e = true ∧ Op.bytesLess a e = true := by
  unfold okR okS at h
  rw [ByteArray.toList_mk a, ByteArray.toList_mk e, beq_eq_false_iff_ne.2 he] at h
  simp only [Bool.false_or, Bool.and_eq_true] at h
  exact ⟨h.2.1, h.2.2⟩
/-- All ranges of a chain are allowed. -/
theorem chain_ok : ∀ {a : List UInt8} {es : List (List UInt8)}, Asc a es → okS ⟨a.toArray⟩ = true → (∀ e ∈ es, isName e = true) → ∀ p ∈ chainL a es, okR ⟨p.1.toArray⟩ ⟨p.2.toArray⟩ = true
  | a, [], _, ha, _, p, hp => by
    rw [chainL, List.mem_singleton] at hp
    rw [hp]
    exact okR_chain ha okS_nil' (Or.inl rfl)
  | a, e :: es, h, ha, hn, p, hp => by
    have hoe := okS_name (hn e (List.mem_cons_self ..))
    rw [chainL, List.mem_cons] at hp
    rcases hp with rfl | hp
    · exact okR_chain ha hoe (Or.inr h.1)
    · exact chain_ok h.2 hoe (fun x hx => hn x (List.mem_cons_of_mem _ hx)) p hp
end Go.Proofs.YthngliafkhalfaaDoor
