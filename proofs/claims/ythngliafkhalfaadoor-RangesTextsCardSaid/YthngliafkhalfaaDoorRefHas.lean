/- Whether a range has a key, and what a text is read as, by the reference; memory that lay stays. Condition: the texts are no longer than an int can say. -/
import Derived.Test.YthngliafkhalfaaDoorRText
namespace Go.Proofs.YthngliafkhalfaaDoor
open Go.RowKit

theorem hasR_ref (f t k : ByteArray) : hasR f t k = (okR f t && (isName k.data.toList && (!Op.bytesLess k.toList f.toList && (t.toList == ([] : List UInt8) || Op.bytesLess k.toList t.toList)))) := by
  unfold hasR
  cases hn : isName k.data.toList with
  | false => simp
  | true =>
    obtain ⟨g, R⟩ := ranks [f, t, k]
    have hp := name_pos R (x := k) (by simp) hn
    rw [endLt_num R (by simp) (by simp), R.lt k (by simp) f (by simp), R.em t (by simp), R.lt k (by simp) t (by simp)]
    congr 3
    rw [Bool.eq_iff_iff]
    simp only [Bool.or_eq_true, decide_eq_true_eq]
    omega

set_option maxHeartbeats 4000000 in
theorem refHas_any (f t k : ByteArray) (w : World) (hf : f.size ≤ 9223372036854775807) (ht : t.size ≤ 9223372036854775807) (hk : k.size ≤ 9223372036854775807) :
    Calls Tryd.prog 23 #[.agg #[.string f, .string t], .string k] w fun e w' => e = .returned (.bool (hasR f t k)) ∧ Below w.heap.size w w' := by
  have e1 := Whole.new w 23 #[.string f, .string t]
  have b1 := (Below.refl w.heap.size w).alloc (Nat.le_refl _) (.cells #[.string f, .string t] 23)
  have hN := fun W => refName_any k W hk
  have hC := fun W => refCheck_any f t W hf ht
  have hq := hasR_ref f t k
  generalize hasR f t k = q at hq
  generalize isName k.data.toList = m at hq hN
  generalize okR f t = o at hq hC
  cases o <;> cases m <;> cases hl : Op.bytesLess k.toList f.toList <;> cases he : (t.toList == ([] : List UInt8)) <;> cases hn : Op.bytesLess k.toList t.toList
  all_goals
    have HQ := Lib.hid (hq.trans (by rw [hl, he, hn]) : q = _)
    clear hq
    simp only [ckI] at hC
    go_enter Tryd.func23, Tryd.ntmps23
    go_wp2_with fail
    refine (hC _).mono ?_
    rintro e w1 ⟨rfl, hb⟩
    have b2 := b1.trans (hb.mono b1.size)
    have x0 := (e1.below hb e1.lt).cell 0
    have x1 := (e1.below hb e1.lt).cell 1
    simp only [List.getElem?_toArray, List.getElem?_cons_succ, List.getElem?_cons_zero] at x0 x1
    clear e1 b1 hb hC
    go_wp2_with (go_at_call 40; refine (hN _).mono ?_; rintro e w2 ⟨rfl, rfl⟩)
    go_ret
    exact ⟨by rw [HQ.out]; rfl, b2⟩

theorem drop_one (F R : List UInt8) : ((91 :: (F ++ 44 :: R)).drop 1).take F.length = F := by simp
theorem drop_two (F T : List UInt8) : ((91 :: (F ++ 44 :: (T ++ [41]))).drop (F.length + 2)).take T.length = T := by
  have h : (91 :: (F ++ 44 :: (T ++ [41]))).drop (F.length + 2) = T ++ [41] := by
    show (F ++ 44 :: (T ++ [41])).drop (F.length + 1) = _
    rw [List.drop_append]
    simp
  rw [h]
  simp
/-- Where the first comma of a range's text lies. -/
theorem comma_list {l F T : List UInt8} (hx : l = rtxt F T) (hf : (44 : UInt8) ∉ F) {j : Nat} (hj : j ≤ l.length) (hno : ∀ i (h : i < l.length), i < j → l[i]'h ≠ 44) (hat : j = l.length ∨ ∃ h : j < l.length, l[j]'h = 44) :
    j = F.length + 1 ∧ l.length = F.length + T.length + 3 := by
  have hlen : l.length = F.length + T.length + 3 := by rw [hx]; unfold rtxt; simp; omega
  refine ⟨?_, hlen⟩
  subst hx
  have hc : (rtxt F T)[F.length + 1]'(by omega) = 44 := by
    unfold rtxt
    rw [List.getElem_cons_succ, List.getElem_append_right (Nat.le_refl _)]
    simp
  have h1 : j ≤ F.length + 1 := by
    rcases Nat.lt_or_ge (F.length + 1) j with h | h
    · exact absurd hc (hno _ (by omega) h)
    · exact h
  rcases Nat.lt_or_ge j (F.length + 1) with h | h
  · rcases hat with h3 | ⟨h3, h4⟩
    · omega
    · match j, h, h3, h4 with
      | 0, _, h3, h4 =>
        have h6 : (rtxt F T)[0]'h3 = 91 := rfl
        rw [h6] at h4
        exact absurd h4 (by decide)
      | j + 1, h, h3, h4 =>
        have h6 : (rtxt F T)[j + 1]'h3 = (F ++ 44 :: (T ++ [41]))[j]'(by simp; omega) := rfl
        have h5 : F[j]'(by omega) = 44 := by
          rw [h6, List.getElem_append_left (by omega)] at h4
          exact h4
        exact absurd (h5 ▸ List.getElem_mem _) hf
  · omega
theorem comma_at {s f t : ByteArray} (hx : s.data.toList = rtxt f.data.toList t.data.toList) (hf : (44 : UInt8) ∉ f.data.toList) {j : Nat} (hj : j ≤ s.size) (hno : ∀ i (h : i < s.size), i < j → s[i]'h ≠ 44) (hat : j = s.size ∨ ∃ h : j < s.size, s[j]'h = 44) :
    j = f.size + 1 ∧ s.size = f.size + t.size + 3 ∧ s.extract 1 j = f ∧ s.extract (j + 1) (s.size - 1) = t := by
  obtain ⟨⟨l⟩⟩ := s
  obtain ⟨⟨F⟩⟩ := f
  obtain ⟨⟨T⟩⟩ := t
  obtain ⟨h1, h2⟩ := comma_list (l := l) (F := F) (T := T) hx hf hj hno hat
  have hx' : l = rtxt F T := hx
  have s1 : (ByteArray.mk F.toArray).size = F.length := Lib.size_mk _
  have s2 : (ByteArray.mk T.toArray).size = T.length := Lib.size_mk _
  have s3 : (ByteArray.mk l.toArray).size = l.length := Lib.size_mk _
  refine ⟨by rw [s1]; exact h1, by rw [s1, s2, s3]; exact h2, ?_, ?_⟩
  · rw [ByteArray.extract_mk, h1, hx', show F.length + 1 - 1 = F.length by omega]
    unfold rtxt
    rw [drop_one]
  · rw [ByteArray.extract_mk, s3, h2, h1, hx', show F.length + T.length + 3 - 1 - (F.length + 1 + 1) = T.length by omega]
    unfold rtxt
    rw [drop_two]
end Go.Proofs.YthngliafkhalfaaDoor
