/- Plain facts about names: which lists of bytes are names, and what trimming and searching say of them. No condition. -/
import Derived.Lib.SlTrimSet
import Derived.Shelf.GgClosure.StringsIndexFunc
import Derived.Laws.RangeString
namespace Go.Proofs.YtgeljnjcpkmlmaaGreatDoor

/-- A byte of a name. -/
def nmB (c : UInt8) : Bool := (decide (97 ≤ c.toNat) && decide (c.toNat ≤ 122)) || (decide (48 ≤ c.toNat) && decide (c.toNat ≤ 57))
/-- A name. -/
def isName (l : List UInt8) : Bool := decide (1 ≤ l.length) && (decide (l.length ≤ 16) && l.all nmB)

def alnum : List UInt8 := [97, 98, 99, 100, 101, 102, 103, 104, 105, 106, 107, 108, 109, 110, 111, 112, 113, 114, 115, 116, 117, 118, 119, 120, 121, 122, 48, 49, 50, 51, 52, 53, 54, 55, 56, 57]

theorem u8_all (p : UInt8 → Bool) (h : (List.range 256).all (fun n => p n.toUInt8) = true) (c : UInt8) : p c = true := by
  have h1 := (List.all_eq_true.1 h) c.toNat (by simp [List.mem_range]; exact c.toNat_lt)
  simpa using h1

theorem alnum_contains (c : UInt8) : alnum.contains c = nmB c := by
  have h := u8_all (fun c => alnum.contains c == nmB c) (by decide +kernel) c
  simpa using h

theorem dropWhile_nil {α : Type} (p : α → Bool) : ∀ l : List α, (l.dropWhile p).isEmpty = l.all p
  | [] => rfl
  | a :: l => by
    by_cases h : p a = true
    · simp [List.dropWhile, h, dropWhile_nil p l]
    · simp [List.dropWhile, h]

theorem dropWhile_all {α : Type} (p : α → Bool) (l : List α) : (l.dropWhile p).all p = l.all p := by
  induction l with
  | nil => rfl
  | cons a l ih =>
    by_cases h : p a = true
    · simp [List.dropWhile, h, ih]
    · simp [List.dropWhile, h]

theorem trimS_empty (l cs : List UInt8) : (Lib.trimS l cs).isEmpty = l.all (cs.contains ·) := by
  unfold Lib.trimS Lib.trimLeftS
  rw [dropWhile_nil]
  unfold Lib.trimRightS
  rw [List.all_reverse, dropWhile_all, List.all_reverse]

theorem trim_alnum (l : List UInt8) : (Lib.trimS l alnum).isEmpty = l.all nmB := by
  rw [trimS_empty]
  congr 1
  funext c
  exact alnum_contains c

theorem nmB_le {c : UInt8} (h : nmB c = true) : c.toNat ≤ 122 := by
  unfold nmB at h
  simp at h
  omega

theorem isName_yes {l : List UInt8} {n : Nat} (hl : l.length = n) (h1 : 1 ≤ n) (h2 : n ≤ 16) (h3 : l.all nmB = true) : isName l = true := by
  unfold isName; rw [hl, h3, decide_eq_true h1, decide_eq_true h2]; rfl
theorem isName_no {l : List UInt8} {n : Nat} (hl : l.length = n) (h : ¬ (1 ≤ n ∧ n ≤ 16 ∧ l.all nmB = true)) : isName l = false := by
  unfold isName; rw [hl]
  by_cases h1 : 1 ≤ n
  · by_cases h2 : n ≤ 16
    · have h3 : l.all nmB = false := by
        cases e : l.all nmB
        · rfl
        · exact absurd ⟨h1, h2, e⟩ h
      rw [h3]; simp
    · rw [decide_eq_false h2]; simp
  · rw [decide_eq_false h1]; simp

/-- In a name no rune is above 'z'. -/
theorem idx_name (s : ByteArray) (h : s.data.toList.all nmB = true) : ∀ f pos, Lib.idxFuncFrom (fun r => decide (122 < r)) true s f pos = -1
  | 0, _ => rfl
  | f + 1, pos => by
    unfold Lib.idxFuncFrom
    by_cases hp : pos < s.size
    · have hb : (s[pos]'hp).toNat ≤ 122 := nmB_le (List.all_eq_true.1 h _ (by
        have : s[pos]'hp = s.data.toList[pos]'(by simpa using hp) := by rfl
        rw [this]; exact List.getElem_mem _))
      rw [if_pos hp, decode_ascii s pos hp (by omega)]
      rw [if_neg (by simp; omega)]
      exact idx_name s h f _
    · rw [if_neg hp]
end Go.Proofs.YtgeljnjcpkmlmaaGreatDoor
