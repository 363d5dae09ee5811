/- Plain facts about covers: each key is in just one of the ranges. No condition. -/
import Derived.Test.YthngliafkhalfaaDoorPlCov
import Derived.Test.YthngliafkhalfaaDoorPlRng
namespace Go.Proofs.YthngliafkhalfaaDoor

theorem okS_nil' : okS ⟨([] : List UInt8).toArray⟩ = true := by unfold okS; rw [ByteArray.toList_mk]; rfl
theorem okR_chain {a e : List UInt8} (h1 : okS ⟨a.toArray⟩ = true) (h2 : okS ⟨e.toArray⟩ = true) (h : e = [] ∨ Op.bytesLess a e = true) : okR ⟨a.toArray⟩ ⟨e.toArray⟩ = true := by
  unfold okR
  rw [h1, h2, ByteArray.toList_mk, ByteArray.toList_mk]
  rcases h with rfl | h
  · rfl
  · rw [h]; simp
theorem okS_name {e : List UInt8} (h : isName e = true) : okS ⟨e.toArray⟩ = true := by
  unfold okS
  show ((⟨e.toArray⟩ : ByteArray).toList == ([] : List UInt8) || isName e) = true
  rw [h]; simp
theorem name_ne {k : ByteArray} (h : isName k.data.toList = true) : (k.toList == ([] : List UInt8)) = false := by
  rw [beq_eq_false_iff_ne, ByteArray.toList_eq]
  intro e
  rw [e] at h
  cases h
theorem hasR_mid {a e : List UInt8} {k : ByteArray} (hok : okR ⟨a.toArray⟩ ⟨e.toArray⟩ = true) (he : e ≠ []) : hasR ⟨a.toArray⟩ ⟨e.toArray⟩ k = (isName k.data.toList && (!Op.bytesLess k.toList a && Op.bytesLess k.toList e)) := by
  unfold hasR endLt
  rw [hok, ByteArray.toList_mk a, ByteArray.toList_mk e, Bool.true_and]
  cases hn : isName k.data.toList with
  | false => rfl
  | true =>
    rw [name_ne hn, beq_eq_false_iff_ne.2 he]
    cases hl : Op.bytesLess k.toList e with
    | false => simp
    | true =>
      have hne : (k.toList == e) = false := beq_eq_false_iff_ne.2 (fun h => by rw [h, bl_irr] at hl; cases hl)
      rw [hne]
      rfl
theorem hasR_last {a : List UInt8} {k : ByteArray} (hok : okR ⟨a.toArray⟩ ⟨([] : List UInt8).toArray⟩ = true) : hasR ⟨a.toArray⟩ ⟨([] : List UInt8).toArray⟩ k = (isName k.data.toList && !Op.bytesLess k.toList a) := by
  unfold hasR endLt
  rw [hok, ByteArray.toList_mk a, ByteArray.toList_mk ([] : List UInt8), Bool.true_and]
  cases hn : isName k.data.toList with
  | false => rfl
  | true =>
    rw [name_ne hn]
    simp
theorem chain_count : ∀ {a : List UInt8} {es : List (List UInt8)} (k : ByteArray), Asc a es → okS ⟨a.toArray⟩ = true → (∀ e ∈ es, isName e = true) →
    ((chainL a es).filter fun p => hasR ⟨p.1.toArray⟩ ⟨p.2.toArray⟩ k).length = if (isName k.data.toList && !Op.bytesLess k.toList a) = true then 1 else 0
  | a, [], k, _, ha, _ => by
    have h := hasR_last (k := k) (okR_chain ha okS_nil' (Or.inl rfl))
    unfold chainL
    rw [List.filter_cons, h]
    split <;> simp
  | a, e :: es, k, h, ha, hn => by
    have hne := lt_ne h.1
    have hoe := okS_name (hn e (List.mem_cons_self ..))
    have h1 := hasR_mid (k := k) (okR_chain ha hoe (Or.inr h.1)) hne
    have ih := chain_count k h.2 hoe (fun x hx => hn x (List.mem_cons_of_mem _ hx))
    unfold chainL
    rw [List.filter_cons, h1]
    cases hN : isName k.data.toList with
    | false =>
      rw [hN] at ih
      simpa using ih
    | true =>
      rw [hN] at ih
      cases hl : Op.bytesLess k.toList e with
      | true =>
        rw [hl] at ih
        cases hb : Op.bytesLess k.toList a <;> simp_all
      | false =>
        have hb : Op.bytesLess k.toList a = false := by
          cases hb : Op.bytesLess k.toList a with
          | false => rfl
          | true => rw [bl_trans hb h.1] at hl; cases hl
        rw [hl] at ih
        rw [hb]
        simpa using ih
end Go.Proofs.YthngliafkhalfaaDoor
