/- Plain facts: the steps of a definition in the order of their keys; steps that are turned. No condition. -/
import Derived.Test.YtgeljnjcpkmlmaaGreatDoorPlDefn
import Derived.Test.YtgeljnjcpkmlmaaGreatDoorPlOrd
import Derived.Laws.Cover1
import Derived.Laws.Strings
namespace Go.Proofs.YtgeljnjcpkmlmaaGreatDoor

def kLt (a b : Sp) : Bool := Op.bytesLess a.k.toList b.k.toList
theorem kLt_irr (a : Sp) : kLt a a = false := bl_irr _
theorem kLt_trans {a b c : Sp} (h : kLt a b = true) (h' : kLt b c = true) : kLt a c = true := bl_trans h h'
theorem ba_toList {a b : ByteArray} (h : a.toList = b.toList) : a = b := by
  rw [ByteArray.toList_eq, ByteArray.toList_eq] at h
  rw [← ba_eta a, h, ba_eta]
theorem kLt_tot {a b : Sp} (h : kLt a b = false) (h' : kLt b a = false) : a.k = b.k := ba_toList (bl_tot h h')
/-- Steps whose keys differ from each other. -/
def KeysD (s : List Sp) : Prop := s.Pairwise (fun a b => a.k ≠ b.k)
theorem StepsOk.keys {s : List Sp} (h : StepsOk s) : KeysD s := by
  unfold KeysD
  rw [List.pairwise_iff_getElem]
  intro i j hi hj hij
  exact (h j _ (List.getElem?_eq_getElem hj)).2 i _ hij (List.getElem?_eq_getElem hi)
theorem steps_of {s : List Sp} (h1 : ∀ p ∈ s, stOk p = true) (h2 : KeysD s) : StepsOk s := by
  unfold KeysD at h2
  rw [List.pairwise_iff_getElem] at h2
  intro i p hp
  refine ⟨h1 p (List.mem_of_getElem? hp), fun j q hji hq => ?_⟩
  obtain ⟨hi, rfl⟩ := List.getElem?_eq_some_iff.1 hp
  obtain ⟨hj, rfl⟩ := List.getElem?_eq_some_iff.1 hq
  exact h2 j i hj hi hji
theorem KeysD.perm {s l : List Sp} (h : KeysD s) (hp : l.Perm s) : KeysD l := (hp.pairwise_iff (fun {_ _} e => Ne.symm e)).2 h
theorem StepsOk.perm {s l : List Sp} (h : StepsOk s) (hp : l.Perm s) : StepsOk l :=
  steps_of (fun _ hm => h.all (hp.mem_iff.1 hm)) (h.keys.perm hp)

/-- The steps in the order of their keys. -/
def srtD (s : List Sp) : List Sp := s.mergeSort (fun x y => !kLt y x)
theorem asc_of {l : List Sp} (hk : KeysD l) (h : l.Pairwise (fun a b => kLt b a = false)) : l.Pairwise (fun a b => kLt a b = true) := by
  refine (List.Pairwise.and h hk).imp ?_
  rintro a b ⟨h1, h2⟩
  cases h3 : kLt a b with
  | true => rfl
  | false => exact absurd (kLt_tot h3 h1) h2
theorem srtD_perm (s : List Sp) : (srtD s).Perm s := List.mergeSort_perm _ _
theorem srtD_weak (s : List Sp) : (srtD s).Pairwise (fun a b => kLt b a = false) := by
  have h := List.pairwise_mergeSort (le := fun x y : Sp => !kLt y x) (fun a b c h1 h2 => by
    simp only [Bool.not_eq_eq_eq_not, Bool.not_true] at h1 h2 ⊢
    cases h3 : kLt c a with
    | false => rfl
    | true =>
      exfalso
      cases h4 : kLt a b with
      | true => have := kLt_trans h3 h4; rw [h2] at this; cases this
      | false =>
        have e := kLt_tot h4 h1
        unfold kLt at h3 h2
        rw [e, h2] at h3; cases h3) (fun a b => by
    simp only [Bool.or_eq_true, Bool.not_eq_eq_eq_not, Bool.not_true]
    cases h3 : kLt b a with
    | false => exact Or.inl rfl
    | true =>
      refine Or.inr ?_
      cases h4 : kLt a b with
      | false => rfl
      | true => have := kLt_trans h3 h4; rw [kLt_irr] at this; cases this) s
  refine List.Pairwise.imp ?_ h
  intro a b hab
  simpa using hab
theorem srtD_eq {s l : List Sp} (hk : KeysD s) (hp : l.Perm s) (h : l.Pairwise (fun a b => kLt b a = false)) : l = srtD s := by
  have h1 := asc_of (hk.perm hp) h
  have h2 := asc_of (hk.perm (srtD_perm s)) (srtD_weak s)
  exact List.Perm.eq_of_pairwise (fun a b _ _ hab hba => by have := kLt_trans hab hba; rw [kLt_irr] at this; cases this) h1 h2 (hp.trans (srtD_perm s).symm)
theorem srtD_same {s l : List Sp} (hk : KeysD s) (hp : l.Perm s) : srtD l = srtD s := srtD_eq hk ((srtD_perm l).trans hp) (srtD_weak l)
theorem srtD_asc {s : List Sp} (hk : KeysD s) {i : Nat} {a b : Sp} (ha : (srtD s)[i]? = some a) (hb : (srtD s)[i + 1]? = some b) : kLt a b = true := by
  have h := List.pairwise_iff_getElem.1 (asc_of (hk.perm (srtD_perm s)) (srtD_weak s))
  obtain ⟨hi, rfl⟩ := List.getElem?_eq_some_iff.1 ha
  obtain ⟨hj, rfl⟩ := List.getElem?_eq_some_iff.1 hb
  exact h i (i + 1) hi hj (by omega)
theorem srtD_len (s : List Sp) : (srtD s).length = s.length := (srtD_perm s).length_eq

/-- Steps that are turned. -/
def rotD (k : Nat) (s : List Sp) : List Sp := s.drop k ++ s.take k
theorem rotD_perm (k : Nat) (s : List Sp) : (rotD k s).Perm s := by
  unfold rotD
  exact List.perm_append_comm.trans (by rw [List.take_append_drop])
theorem rotD_zero (s : List Sp) : rotD 0 s = s := by simp [rotD]
theorem rotD_ne {k : Nat} {s : List Sp} (hk : KeysD s) (h0 : 0 < k) (hl : k < s.length) : rotD k s ≠ s := by
  intro e
  have h1 : (rotD k s)[0]? = s[k]? := by unfold rotD; rw [List.getElem?_append_left (by rw [List.length_drop]; omega), List.getElem?_drop, Nat.add_zero]
  rw [e] at h1
  have h2 := List.pairwise_iff_getElem.1 hk 0 k (by omega) hl h0
  rw [List.getElem?_eq_getElem (by omega), List.getElem?_eq_getElem hl] at h1
  exact h2 (by rw [Option.some.inj h1])
end Go.Proofs.YtgeljnjcpkmlmaaGreatDoor
