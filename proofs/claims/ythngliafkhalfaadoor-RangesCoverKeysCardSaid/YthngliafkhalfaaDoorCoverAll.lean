/- Ranges sorted by their beginnings; their cells; the slice's copy. No condition but those of the copy's contract. -/
import Derived.Test.YthngliafkhalfaaDoorCover
import Derived.Test.YthngliafkhalfaaDoorPlCov
namespace Go.Proofs.YthngliafkhalfaaDoor
open Go.RowKit Go.Sort

theorem ltOf_eq (x y : LR) : ltOf cfR x y = Op.bytesLess x.1 y.1 := by
  unfold ltOf cfR cmpL
  cases h1 : Op.bytesLess x.1 y.1 <;> cases h2 : (x.1 == y.1) <;> decide
theorem swoR : SWO (ltOf cfR) where
  irrefl x := by rw [ltOf_eq]; exact bl_irr _
  trans x y z h1 h2 := by rw [ltOf_eq] at *; exact bl_trans h1 h2
  ntrans x y z h1 h2 := by
    rw [ltOf_eq] at *
    cases h : Op.bytesLess x.1 z.1 with
    | false => rfl
    | true =>
      cases h3 : Op.bytesLess y.1 x.1 with
      | true => rw [bl_trans h3 h] at h2; cases h2
      | false => rw [bl_tot h1 h3, h2] at h; cases h
theorem srt_lt : ∀ {s : List LR}, Srt s → ∀ {x y : LR}, x ∈ s → y ∈ s → x ≠ y → Op.bytesLess x.1 y.1 = true ∨ Op.bytesLess y.1 x.1 = true
  | p :: l, h, x, y, hx, hy, hne => by
    rcases List.mem_cons.1 hx with ex | hx' <;> rcases List.mem_cons.1 hy with ey | hy'
    · exact absurd (ex.trans ey.symm) hne
    · exact Or.inl (ex ▸ h.1 _ hy')
    · exact Or.inr (ey ▸ h.1 _ hx')
    · exact srt_lt h.2 hx' hy' hne
theorem srt_nodup : ∀ {s : List LR}, Srt s → s.Nodup
  | [], _ => List.nodup_nil
  | p :: l, h => by
    rw [List.nodup_cons]
    refine ⟨fun hm => ?_, srt_nodup h.2⟩
    have := h.1 p hm
    rw [bl_irr] at this
    cases this
theorem srt_of : ∀ {l : List LR}, l.Nodup → (∀ x ∈ l, ∀ y ∈ l, x ≠ y → Op.bytesLess x.1 y.1 = true ∨ Op.bytesLess y.1 x.1 = true) → l.Pairwise (fun x y => Op.bytesLess y.1 x.1 = false) → Srt l
  | [], _, _, _ => trivial
  | p :: l, hn, ht, hw => by
    rw [List.nodup_cons] at hn
    rw [List.pairwise_cons] at hw
    refine ⟨fun q hq => ?_, srt_of hn.2 (fun x hx y hy => ht x (List.mem_cons_of_mem _ hx) y (List.mem_cons_of_mem _ hy)) hw.2⟩
    rcases ht p (List.mem_cons_self ..) q (List.mem_cons_of_mem _ hq) (fun e => hn.1 (e ▸ hq)) with h | h
    · exact h
    · rw [hw.1 q hq] at h; cases h
/-- What the sort lays is the list that is sorted. -/
theorem sorted_is {s : List LR} {d d' : Array LR} (hs : Srt s) (hp : s.Perm d.toList) (h1 : PermIn 0 d.size d d') (h2 : SortedIn (ltOf cfR) 0 d.size d') : d'.toList = s := by
  obtain ⟨hsz, _, hpm⟩ := h1
  have e1 : (d'.extract 0 d.size).toList = d'.toList := by rw [← hsz]; simp
  have e2 : (d.extract 0 d.size).toList = d.toList := by simp
  rw [e1, e2] at hpm
  have hpp : d'.toList.Perm s := hpm.trans hp.symm
  refine srt_eq (srt_of (hpp.nodup_iff.2 (srt_nodup hs)) (fun x hx y hy => srt_lt hs (hpp.subset hx) (hpp.subset hy)) ?_) hs hpp
  rw [List.pairwise_iff_getElem]
  intro i j hi hj hij
  have hj' : j < d'.size := by simpa using hj
  have hi' : i < d'.size := by simpa using hi
  have h := h2 i j (Nat.zero_le _) hij (by omega)
  rw [ltOf_eq, getElem!_pos d' j hj', getElem!_pos d' i hi'] at h
  simpa using h
theorem clone_all (b o n cap : Nat) (news : List Value) (w : World) (hl : news.length = n * 2) (hn : n ≤ 1000) (hc : ∀ j u, news[j]? = some u → w.cell? ⟨b, o + j, none⟩ = some u) (h1 : ∀ u ∈ news, u.oneCell' = true) :
    Calls Tryd.prog 33 #[.slice (some ⟨b, o, none⟩) n cap] w fun e w' => ∃ v', e = .returned v' ∧ w'.ownsRow w.heap.size 23 2 v' n news ∧ v' ≠ .slice none 0 0 ∧ Below w.heap.size w w' := by
  obtain ⟨i0, hi, hz0, hz1, hz2⟩ := info_parts infoR
  exact AnyE.slices_Clone Tryd.cloneR i0 (.agg #[.string ⟨#[]⟩, .string ⟨#[]⟩]) 2 32 hi hz0 hz1 hz2 rfl (by decide) Tryd.sizeOf23 b o n cap news w hl (by unfold maxLen; omega) (by omega) hc h1

/-- A list's cells. -/
def flatR (d : List LR) : List Value := d.flatMap encR
theorem flatR_len : ∀ d : List LR, (flatR d).length = d.length * 2
  | [] => rfl
  | p :: d => by
    show (encR p ++ flatR d).length = _
    rw [List.length_append, flatR_len d]
    simp [encR]; omega
theorem flatR_get : ∀ (d : List LR) (j : Nat) (_ : j < d.length * 2), (flatR d)[j]? = some ((encR (d.toArray[j / 2]!))[j % 2]!)
  | [], j, h => absurd h (by simp)
  | p :: d, 0, _ => by simp [flatR, encR]
  | p :: d, 1, _ => by simp [flatR, encR]
  | p :: d, j + 2, h => by
    have ih := flatR_get d j (by simp at h; omega)
    show (encR p ++ flatR d)[j + 2]? = _
    rw [show encR p = [.string ⟨p.1.toArray⟩, .string ⟨p.2.toArray⟩] from rfl]
    show (flatR d)[j]? = _
    rw [ih, show (j + 2) / 2 = j / 2 + 1 by omega, show (j + 2) % 2 = j % 2 by omega]
    have h1 : j / 2 < d.length := by simp at h; omega
    rw [getElem!_pos d.toArray (j / 2) (by simpa using h1), getElem!_pos (p :: d).toArray (j / 2 + 1) (by simp; omega)]
    simp
end Go.Proofs.YthngliafkhalfaaDoor
