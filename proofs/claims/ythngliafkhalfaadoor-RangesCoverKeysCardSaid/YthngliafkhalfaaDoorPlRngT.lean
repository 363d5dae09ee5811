/- Plain facts about the texts of ranges: a range is what its text is cut into. No condition. -/
import Derived.Test.YthngliafkhalfaaDoorPlRng
import Derived.Lib.IndexMore
import Derived.Lib.IndexBytes
import Derived.Lib.IndexLaws
import Derived.Lib.Strings
namespace Go.Proofs.YthngliafkhalfaaDoor

/-- A range's text. -/
def rtxt (f t : List UInt8) : List UInt8 := 91 :: (f ++ 44 :: (t ++ [41]))
theorem idx_comma : ∀ (f t : List UInt8), (44 : UInt8) ∉ f → Lib.indexByte (f ++ 44 :: t) 44 = f.length
  | [], _, _ => rfl
  | c :: f, t, h => by
    have hc : ¬ c = 44 := fun e => h (by rw [e]; exact List.mem_cons_self ..)
    have ih := idx_comma f t (fun hm => h (List.mem_cons_of_mem _ hm))
    show Lib.indexByte (c :: (f ++ 44 :: t)) 44 = _
    unfold Lib.indexByte
    rw [ih]
    simp [hc]
theorem cut_comma (f t : List UInt8) (h : (44 : UInt8) ∉ f) : Lib.cut (f ++ 44 :: t) [44] = (f, t, true) := by
  unfold Lib.cut
  rw [Lib.index_one, idx_comma f t h, if_pos (by omega)]
  simp [List.drop_append]
theorem cut_back {l f t : List UInt8} (h : Lib.cut l [44] = (f, t, true)) : l = f ++ 44 :: t := by
  unfold Lib.cut at h
  rw [Lib.index_one] at h
  by_cases h0 : 0 ≤ Lib.indexByte l 44
  · rw [if_pos h0] at h
    obtain ⟨o, ho⟩ : ∃ o : Nat, Lib.indexByte l 44 = o := ⟨(Lib.indexByte l 44).toNat, by omega⟩
    obtain ⟨hs, _⟩ := Lib.indexByte_some ho
    rw [ho] at h
    simp only [Prod.mk.injEq, and_true, Int.toNat_natCast, List.length_cons, List.length_nil, Nat.zero_add] at h
    obtain ⟨rfl, rfl⟩ := h
    obtain ⟨hlt, he⟩ := List.getElem?_eq_some_iff.1 hs
    rw [← he, ← List.drop_eq_getElem_cons hlt, List.take_append_drop]
  · rw [if_neg h0] at h
    simp at h
theorem pre_yes (x : List UInt8) : Lib.trimPrefix (91 :: x) [91] = x ∧ Lib.hasPrefix (91 :: x) [91] = true := by
  unfold Lib.trimPrefix Lib.hasPrefix
  simp
theorem suf_yes (x : List UInt8) : Lib.trimSuffix (x ++ [41]) [41] = x ∧ Lib.hasSuffix (x ++ [41]) [41] = true := by
  have h : Lib.hasSuffix (x ++ [41]) [41] = true := by
    unfold Lib.hasSuffix
    simp
  refine ⟨?_, h⟩
  unfold Lib.trimSuffix
  rw [h]
  simp
theorem pre_back {s : List UInt8} (h : Lib.hasPrefix s [91] = true) : s = 91 :: Lib.trimPrefix s [91] := by
  unfold Lib.trimPrefix
  rw [if_pos h]
  unfold Lib.hasPrefix at h
  cases s with
  | nil => simp at h
  | cons a l => simp at h; rw [← h]; rfl
theorem suf_back {s : List UInt8} (h : Lib.hasSuffix s [41] = true) : s = Lib.trimSuffix s [41] ++ [41] := by
  unfold Lib.trimSuffix
  rw [if_pos h]
  unfold Lib.hasSuffix at h
  rw [List.isSuffixOf_iff_suffix] at h
  obtain ⟨l, rfl⟩ := h
  simp
theorem okS_comma {f : ByteArray} (h : okS f = true) : (44 : UInt8) ∉ f.data.toList := by
  unfold okS at h
  rw [Bool.or_eq_true, ByteArray.toList_eq] at h
  rcases h with h | h
  · have : f.data.toList = [] := by simpa using h
    rw [this]; simp
  · intro hm
    unfold isName at h
    rw [Bool.and_eq_true, Bool.and_eq_true] at h
    have := List.all_eq_true.1 h.2.2 _ hm
    revert this
    decide
theorem parse_law (s : List UInt8) (f t : List UInt8) (h1 : Lib.hasPrefix s [91] = true) (h2 : Lib.hasSuffix (Lib.trimPrefix s [91]) [41] = true)
    (h3 : Lib.cut (Lib.trimSuffix (Lib.trimPrefix s [91]) [41]) [44] = (f, t, true)) : s = rtxt f t := by
  rw [pre_back h1, suf_back h2, cut_back h3]
  unfold rtxt
  simp
end Go.Proofs.YthngliafkhalfaaDoor
