/- Merged by program: PlName, PlOrd, PlRng, PlRng2, PlRng3. -/
import Derived.Lib.SlTrimSet
import Derived.Shelf.GgClosure.StringsIndexFunc
import Derived.Laws.RangeString
import Derived.Laws.Strings
import Derived.Laws.Cover1
namespace Go.Proofs.YtkkkppbcjmeapaaDoor
section

/-- A byte of a name. -/
def nmB (c : UInt8) : Bool := (decide (97 ≤ c.toNat) && decide (c.toNat ≤ 122)) || (decide (48 ≤ c.toNat) && decide (c.toNat ≤ 57))
/-- A name. -/
def isName (l : List UInt8) : Bool := decide (1 ≤ l.length) && (decide (l.length ≤ 16) && l.all nmB)

def alnum : List UInt8 := [97, 98, 99, 100, 101, 102, 103, 104, 105, 106, 107, 108, 109, 110, 111, 112, 113, 114, 115, 116, 117, 118, 119, 120, 121, 122, 48, 49, 50, 51, 52, 53, 54, 55, 56, 57]

theorem u8_all (p : UInt8 → Bool) (h : (List.range 256).all (fun n => p n.toUInt8) = true) (c : UInt8) : p c = true := by
  have h1 := (List.all_eq_true.1 h) c.toNat (by simp [List.mem_range]; exact c.toNat_lt)
  simpa using h1

theorem alnum_contains (c : UInt8) : alnum.contains c = nmB c := by
  have h := u8_all (fun c => alnum.contains c == nmB c) (by decide +kernel) c
  simpa using h

theorem dropWhile_nil {α : Type} (p : α → Bool) : ∀ l : List α, (l.dropWhile p).isEmpty = l.all p
  | [] => rfl
  | a :: l => by
    by_cases h : p a = true
    · simp [List.dropWhile, h, dropWhile_nil p l]
    · simp [List.dropWhile, h]

theorem dropWhile_all {α : Type} (p : α → Bool) (l : List α) : (l.dropWhile p).all p = l.all p := by
  induction l with
  | nil => rfl
  | cons a l ih =>
    by_cases h : p a = true
    · simp [List.dropWhile, h, ih]
    · simp [List.dropWhile, h]

theorem trimS_empty (l cs : List UInt8) : (Lib.trimS l cs).isEmpty = l.all (cs.contains ·) := by
  unfold Lib.trimS Lib.trimLeftS
  rw [dropWhile_nil]
  unfold Lib.trimRightS
  rw [List.all_reverse, dropWhile_all, List.all_reverse]

theorem trim_alnum (l : List UInt8) : (Lib.trimS l alnum).isEmpty = l.all nmB := by
  rw [trimS_empty]
  congr 1
  funext c
  exact alnum_contains c

theorem nmB_le {c : UInt8} (h : nmB c = true) : c.toNat ≤ 122 := by
  unfold nmB at h
  simp at h
  omega

theorem isName_yes {l : List UInt8} {n : Nat} (hl : l.length = n) (h1 : 1 ≤ n) (h2 : n ≤ 16) (h3 : l.all nmB = true) : isName l = true := by
  unfold isName; rw [hl, h3, decide_eq_true h1, decide_eq_true h2]; rfl
theorem isName_no {l : List UInt8} {n : Nat} (hl : l.length = n) (h : ¬ (1 ≤ n ∧ n ≤ 16 ∧ l.all nmB = true)) : isName l = false := by
  unfold isName; rw [hl]
  by_cases h1 : 1 ≤ n
  · by_cases h2 : n ≤ 16
    · have h3 : l.all nmB = false := by
        cases e : l.all nmB
        · rfl
        · exact absurd ⟨h1, h2, e⟩ h
      rw [h3]; simp
    · rw [decide_eq_false h2]; simp
  · rw [decide_eq_false h1]; simp

/-- In a name no rune is above 'z'. -/
theorem idx_name (s : ByteArray) (h : s.data.toList.all nmB = true) : ∀ f pos, Lib.idxFuncFrom (fun r => decide (122 < r)) true s f pos = -1
  | 0, _ => rfl
  | f + 1, pos => by
    unfold Lib.idxFuncFrom
    by_cases hp : pos < s.size
    · have hb : (s[pos]'hp).toNat ≤ 122 := nmB_le (List.all_eq_true.1 h _ (by
        have : s[pos]'hp = s.data.toList[pos]'(by simpa using hp) := by rfl
        rw [this]; exact List.getElem_mem _))
      rw [if_pos hp, decode_ascii s pos hp (by omega)]
      rw [if_neg (by simp; omega)]
      exact idx_name s h f _
    · rw [if_neg hp]
end
section

theorem bl_irr : ∀ x : List UInt8, Op.bytesLess x x = false
  | [] => rfl
  | a :: x => by
    unfold Op.bytesLess
    rw [bl_irr x]
    simp
theorem bl_nil (x : List UInt8) : Op.bytesLess x [] = false := by cases x <;> rfl
theorem u8_tri (a b : UInt8) : a < b ∨ a = b ∨ b < a := by
  rcases Nat.lt_trichotomy a.toNat b.toNat with h | h | h
  · exact Or.inl h
  · exact Or.inr (Or.inl (UInt8.toNat_inj.1 h))
  · exact Or.inr (Or.inr h)
theorem bl_trans : ∀ {x y z : List UInt8}, Op.bytesLess x y = true → Op.bytesLess y z = true → Op.bytesLess x z = true
  | _, [], _, h, _ => by rw [bl_nil] at h; cases h
  | _, _ :: _, [], _, h => by rw [bl_nil] at h; cases h
  | [], _ :: _, _ :: _, _, _ => rfl
  | a :: x, b :: y, c :: z, h1, h2 => by
    simp only [Op.bytesLess, Bool.or_eq_true, Bool.and_eq_true, decide_eq_true_eq, beq_iff_eq] at h1 h2 ⊢
    rcases h1 with h1 | ⟨rfl, h1⟩
    · rcases h2 with h2 | ⟨rfl, h2⟩
      · exact Or.inl (UInt8.lt_trans h1 h2)
      · exact Or.inl h1
    · rcases h2 with h2 | ⟨rfl, h2⟩
      · exact Or.inl h2
      · exact Or.inr ⟨rfl, bl_trans h1 h2⟩
theorem bl_tot : ∀ {x y : List UInt8}, Op.bytesLess x y = false → Op.bytesLess y x = false → x = y
  | [], [], _, _ => rfl
  | [], _ :: _, h, _ => by cases h
  | _ :: _, [], _, h => by cases h
  | a :: x, b :: y, h1, h2 => by
    simp only [Op.bytesLess, Bool.or_eq_false_iff, Bool.and_eq_false_iff, decide_eq_false_iff_not, beq_eq_false_iff_ne] at h1 h2
    rcases u8_tri a b with h | rfl | h
    · exact absurd h h1.1
    · rw [bl_tot (h1.2.resolve_left (fun h => h rfl)) (h2.2.resolve_left (fun h => h rfl))]
    · exact absurd h h2.1

/-- How many texts of a list lie below. -/
def rk : List (List UInt8) → List UInt8 → Nat
  | [], _ => 0
  | z :: L, x => (if Op.bytesLess z x = true then 1 else 0) + rk L x
theorem rk_le {x y : List UInt8} (h : ∀ z, Op.bytesLess z x = true → Op.bytesLess z y = true) : ∀ L : List (List UInt8), rk L x ≤ rk L y
  | [] => Nat.le_refl _
  | z :: L => by
    have ih := rk_le h L
    unfold rk
    by_cases hx : Op.bytesLess z x = true
    · rw [if_pos hx, if_pos (h z hx)]; omega
    · rw [if_neg hx]; omega
theorem rk_lt {x y : List UInt8} (h : Op.bytesLess x y = true) : ∀ {L : List (List UInt8)}, x ∈ L → rk L x < rk L y
  | z :: L, hm => by
    have hle := rk_le (x := x) (y := y) (fun z hz => bl_trans hz h) L
    unfold rk
    rcases List.mem_cons.1 hm with rfl | hm
    · rw [if_pos h, if_neg (by rw [bl_irr]; exact Bool.false_ne_true)]; omega
    · have ih := rk_lt h hm
      by_cases hx : Op.bytesLess z x = true
      · rw [if_pos hx, if_pos (bl_trans hx h)]; omega
      · rw [if_neg hx]; omega
theorem rk_nil : ∀ L, rk L [] = 0
  | [] => rfl
  | z :: L => by
    unfold rk
    rw [rk_nil L, if_neg (by rw [bl_nil]; exact Bool.false_ne_true)]

/-- A numbering of texts in their order; the empty one has the number 0. -/
structure Ranks (L : List ByteArray) (f : ByteArray → Nat) : Prop where
  lt : ∀ x ∈ L, ∀ y ∈ L, Op.bytesLess x.toList y.toList = decide (f x < f y)
  eq : ∀ x ∈ L, ∀ y ∈ L, (x.toList == y.toList) = decide (f x = f y)
  em : ∀ x ∈ L, (x.toList == ([] : List UInt8)) = decide (f x = 0)
theorem ranks (L : List ByteArray) : ∃ f, Ranks L f := by
  refine ⟨fun x => rk ([] :: L.map (·.toList)) x.toList, ?_, ?_, ?_⟩
  · intro x hx y hy
    have hx' : x.toList ∈ ([] : List UInt8) :: L.map (·.toList) := List.mem_cons_of_mem _ (List.mem_map.2 ⟨x, hx, rfl⟩)
    have hy' : y.toList ∈ ([] : List UInt8) :: L.map (·.toList) := List.mem_cons_of_mem _ (List.mem_map.2 ⟨y, hy, rfl⟩)
    cases h : Op.bytesLess x.toList y.toList with
    | true => exact (decide_eq_true (rk_lt h hx')).symm
    | false =>
      refine (decide_eq_false ?_).symm
      cases h2 : Op.bytesLess y.toList x.toList with
      | true => have := rk_lt h2 hy'; omega
      | false => rw [bl_tot h h2]; omega
  · intro x hx y hy
    have hx' : x.toList ∈ ([] : List UInt8) :: L.map (·.toList) := List.mem_cons_of_mem _ (List.mem_map.2 ⟨x, hx, rfl⟩)
    have hy' : y.toList ∈ ([] : List UInt8) :: L.map (·.toList) := List.mem_cons_of_mem _ (List.mem_map.2 ⟨y, hy, rfl⟩)
    by_cases h : x.toList = y.toList
    · rw [h]; simp
    · rw [beq_eq_false_iff_ne.2 h]
      refine (decide_eq_false ?_).symm
      cases h1 : Op.bytesLess x.toList y.toList with
      | true => have := rk_lt h1 hx'; omega
      | false =>
        cases h2 : Op.bytesLess y.toList x.toList with
        | true => have := rk_lt h2 hy'; omega
        | false => exact absurd (bl_tot h1 h2) h
  · intro x hx
    by_cases h : x.toList = []
    · rw [h, rk_nil]; rfl
    · rw [beq_eq_false_iff_ne.2 h]
      refine (decide_eq_false ?_).symm
      have hl : Op.bytesLess [] x.toList = true := by
        cases hc : x.toList with
        | nil => exact absurd hc h
        | cons a l => rfl
      have := rk_lt hl (L := [] :: L.map (·.toList)) (List.mem_cons_self ..)
      omega
end
section

/-- An end that is allowed. -/
def okS (x : ByteArray) : Bool := x.toList == ([] : List UInt8) || isName x.data.toList
/-- A range that is allowed. -/
def okR (f t : ByteArray) : Bool := okS f && (okS t && (t.toList == ([] : List UInt8) || Op.bytesLess f.toList t.toList))
/-- The error's number. -/
def ckI : Bool → Int
  | true => 0
  | false => 2
/-- An end is ahead of another one; the empty one is behind all. -/
def endLt (x y : ByteArray) : Bool := !(x.toList == y.toList) && (!(x.toList == ([] : List UInt8)) && (y.toList == ([] : List UInt8) || Op.bytesLess x.toList y.toList))
/-- A range has a key. -/
def hasR (f t k : ByteArray) : Bool := okR f t && (isName k.data.toList && (!Op.bytesLess k.toList f.toList && endLt k t))
def maxS (x y : ByteArray) : ByteArray := if !Op.bytesLess x.toList y.toList then x else y
def minE (x y : ByteArray) : ByteArray := if endLt y x then y else x
/-- What one range has without the other one. -/
def outL (af at' bf bt : ByteArray) : List (ByteArray × ByteArray) :=
  (if Op.bytesLess af.toList bf.toList then [(af, minE bf at')] else []) ++ (if endLt bt at' then [(maxS af bt, at')] else [])
section
variable {L : List ByteArray} {f : ByteArray → Nat}
theorem endLt_num (R : Ranks L f) {x y : ByteArray} (hx : x ∈ L) (hy : y ∈ L) : endLt x y = decide (f x ≠ f y ∧ f x ≠ 0 ∧ (f y = 0 ∨ f x < f y)) := by
  unfold endLt
  rw [R.eq x hx y hy, R.em x hx, R.em y hy, R.lt x hx y hy]
  simp
theorem okR_num (R : Ranks L f) {x y : ByteArray} (hx : x ∈ L) (hy : y ∈ L) : okR x y = (okS x && (okS y && decide (f y = 0 ∨ f x < f y))) := by
  unfold okR
  rw [R.em y hy, R.lt x hx y hy]
  simp
theorem hasR_num (R : Ranks L f) {x y k : ByteArray} (hx : x ∈ L) (hy : y ∈ L) (hk : k ∈ L) : hasR x y k = (okR x y && (isName k.data.toList && decide (f x ≤ f k ∧ (f k ≠ f y ∧ f k ≠ 0 ∧ (f y = 0 ∨ f k < f y))))) := by
  unfold hasR
  rw [endLt_num R hk hy, R.lt k hk x hx, Bool.eq_iff_iff]
  simp
theorem maxS_num (R : Ranks L f) {x y : ByteArray} (hx : x ∈ L) (hy : y ∈ L) : (f x < f y ∧ f (maxS x y) = f y) ∨ (¬ f x < f y ∧ f (maxS x y) = f x) := by
  unfold maxS
  rw [R.lt x hx y hy]
  by_cases h : f x < f y <;> simp [h]
theorem minE_num (R : Ranks L f) {x y : ByteArray} (hx : x ∈ L) (hy : y ∈ L) : ((f y ≠ f x ∧ f y ≠ 0 ∧ (f x = 0 ∨ f y < f x)) ∧ f (minE x y) = f y) ∨ (¬ (f y ≠ f x ∧ f y ≠ 0 ∧ (f x = 0 ∨ f y < f x)) ∧ f (minE x y) = f x) := by
  unfold minE
  rw [endLt_num R hy hx]
  by_cases h : f y ≠ f x ∧ f y ≠ 0 ∧ (f x = 0 ∨ f y < f x)
  · rw [decide_eq_true h]; exact Or.inl ⟨h, rfl⟩
  · rw [decide_eq_false h]; exact Or.inr ⟨h, rfl⟩
theorem name_pos (R : Ranks L f) {x : ByteArray} (hx : x ∈ L) (h : isName x.data.toList = true) : f x ≠ 0 := by
  intro h0
  have he := R.em x hx
  rw [h0, ByteArray.toList_eq] at he
  have : x.data.toList = [] := by simpa using he
  rw [this] at h
  cases h
end
theorem nb_iff {b : Bool} : ((!b) = true) ↔ ¬ b = true := by cases b <;> simp
theorem maxS_or (x y : ByteArray) : maxS x y = x ∨ maxS x y = y := by
  unfold maxS; by_cases h : (!Op.bytesLess x.toList y.toList) = true <;> simp [h]
theorem minE_or (x y : ByteArray) : minE x y = x ∨ minE x y = y := by
  unfold minE; by_cases h : endLt y x = true <;> simp [h]
theorem okS_maxS {x y : ByteArray} (hx : okS x = true) (hy : okS y = true) : okS (maxS x y) = true := by
  rcases maxS_or x y with h | h <;> rw [h] <;> assumption
theorem okS_minE {x y : ByteArray} (hx : okS x = true) (hy : okS y = true) : okS (minE x y) = true := by
  rcases minE_or x y with h | h <;> rw [h] <;> assumption
theorem okR_left {x y : ByteArray} (h : okR x y = true) : okS x = true := by
  unfold okR at h; simp at h; exact h.1
theorem okR_right {x y : ByteArray} (h : okR x y = true) : okS y = true := by
  unfold okR at h; simp at h; exact h.2.1

/-- What two ranges have together, and what one has alone: each key is where it has to be. -/
theorem keys_law (af at' bf bt k : ByteArray) (ha : okR af at' = true) (hb : okR bf bt = true) :
    (okR (maxS af bf) (minE at' bt) && hasR (maxS af bf) (minE at' bt) k) = (hasR af at' k && hasR bf bt k) ∧
    (Op.bytesLess af.toList bf.toList = true → okR af (minE bf at') = true) ∧ (endLt bt at' = true → okR (maxS af bt) at' = true) ∧
    (if (Op.bytesLess af.toList bf.toList && hasR af (minE bf at') k) = true then 1 else 0) + (if (endLt bt at' && hasR (maxS af bt) at' k) = true then 1 else 0) = if (hasR af at' k && !hasR bf bt k) = true then 1 else 0 := by
  obtain ⟨f, R⟩ := ranks [af, at', bf, bt, k, maxS af bf, minE at' bt, maxS af bt, minE bf at']
  have sa := okR_left ha; have sat := okR_right ha; have sb := okR_left hb; have sbt := okR_right hb
  have sm := okS_maxS sa sb; have sn := okS_minE sat sbt; have so := okS_maxS sa sbt; have sp := okS_minE sb sat
  have nm := maxS_num R (x := af) (y := bf) (by simp) (by simp)
  have nn := minE_num R (x := at') (y := bt) (by simp) (by simp)
  have no := maxS_num R (x := af) (y := bt) (by simp) (by simp)
  have np := minE_num R (x := bf) (y := at') (by simp) (by simp)
  have e1 := okR_num R (x := af) (y := at') (by simp) (by simp)
  have e2 := okR_num R (x := bf) (y := bt) (by simp) (by simp)
  have e3 := okR_num R (x := maxS af bf) (y := minE at' bt) (by simp) (by simp)
  have h1 := hasR_num R (x := af) (y := at') (k := k) (by simp) (by simp) (by simp)
  have h2 := hasR_num R (x := bf) (y := bt) (k := k) (by simp) (by simp) (by simp)
  have h3 := hasR_num R (x := maxS af bf) (y := minE at' bt) (k := k) (by simp) (by simp) (by simp)
  have l1 := R.lt af (by simp) bf (by simp)
  have l3 := endLt_num R (x := bt) (y := at') (by simp) (by simp)
  have g1 := okR_num R (x := af) (y := minE bf at') (by simp) (by simp)
  have g2 := okR_num R (x := maxS af bt) (y := at') (by simp) (by simp)
  have k1 := hasR_num R (x := af) (y := minE bf at') (k := k) (by simp) (by simp) (by simp)
  have k2 := hasR_num R (x := maxS af bt) (y := at') (k := k) (by simp) (by simp) (by simp)
  rw [ha, sa, sat] at e1
  rw [hb, sb, sbt] at e2
  rw [sm, sn] at e3
  rw [ha] at h1
  rw [hb] at h2
  rw [sa, sp] at g1
  rw [so, sat] at g2
  rw [e3] at h3
  rw [g1] at k1
  rw [g2] at k2
  rw [l1, l3, e3, h3, h1, h2, g1, g2, k1, k2]
  generalize f af = A at *
  generalize f at' = B at *
  generalize f bf = C at *
  generalize f bt = D at *
  generalize f k = K at *
  generalize f (maxS af bf) = M at *
  generalize f (minE at' bt) = N at *
  generalize f (maxS af bt) = O at *
  generalize f (minE bf at') = Q at *
  generalize isName k.data.toList = n at *
  simp only [Bool.true_and, true_eq_decide_iff] at e1 e2
  clear l1 l3 h1 h2 h3 e3 sa sb sat sbt sm sn so sp R ha hb g1 g2 k1 k2
  refine ⟨?_, ?_, ?_, ?_⟩
  · rw [Bool.eq_iff_iff]
    simp only [Bool.and_eq_true, Bool.true_and, decide_eq_true_eq]
    cases n
    · simp
    · simp only [true_and]; omega
  · simp only [Bool.true_and, decide_eq_true_eq]; omega
  · simp only [Bool.true_and, decide_eq_true_eq]; omega
  · simp only [Bool.and_eq_true, Bool.true_and, decide_eq_true_eq, nb_iff]
    cases n
    · simp
    · simp only [true_and]
      split <;> split <;> split <;> omega
end
section

theorem ba_eq {x y : ByteArray} (h : x.toList = y.toList) : x = y := by
  rw [ByteArray.toList_eq, ByteArray.toList_eq] at h
  obtain ⟨⟨a⟩⟩ := x
  obtain ⟨⟨b⟩⟩ := y
  cases h
  rfl
theorem rank_eq {L : List ByteArray} {f : ByteArray → Nat} (R : Ranks L f) {x y : ByteArray} (hx : x ∈ L) (hy : y ∈ L) (h : f x = f y) : x = y := by
  have := R.eq x hx y hy
  rw [decide_eq_true h] at this
  exact ba_eq (by simpa using this)
theorem rank_ne {L : List ByteArray} {f : ByteArray → Nat} (R : Ranks L f) {x y : ByteArray} (hx : x ∈ L) (hy : y ∈ L) : (x = y) = (f x = f y) :=
  propext ⟨fun h => by rw [h], rank_eq R hx hy⟩

/-- A range ends before another one begins. -/
def lessR (at' bf : ByteArray) : Bool := !(at'.toList == ([] : List UInt8)) && (Op.bytesLess at'.toList bf.toList || at'.toList == bf.toList)
def insideR (af at' bf bt : ByteArray) : Bool := !Op.bytesLess af.toList bf.toList && !endLt bt at'

theorem orders_law (af at' bf bt x y : ByteArray) (ha : okR af at' = true) (hb : okR bf bt = true) :
    ¬ (lessR at' bf = true ∧ lessR bt af = true) ∧ (okR (maxS af bf) (minE at' bt) = true → lessR at' bf = false ∧ lessR bt af = false) ∧
    (okR (maxS af bf) (minE at' bt) = false → lessR at' bf = false → lessR bt af = true) ∧
    (hasR af at' x = true → lessR at' bf = true → hasR bf bt y = true → Op.bytesLess x.toList y.toList = true) ∧
    (hasR af at' x = true → insideR af at' bf bt = true → hasR bf bt x = true) := by
  obtain ⟨f, R⟩ := ranks [af, at', bf, bt, x, y, maxS af bf, minE at' bt]
  have sa := okR_left ha; have sat := okR_right ha; have sb := okR_left hb; have sbt := okR_right hb
  have sm := okS_maxS sa sb; have sn := okS_minE sat sbt
  have nm := maxS_num R (x := af) (y := bf) (by simp) (by simp)
  have nn := minE_num R (x := at') (y := bt) (by simp) (by simp)
  have e1 := okR_num R (x := af) (y := at') (by simp) (by simp)
  have e2 := okR_num R (x := bf) (y := bt) (by simp) (by simp)
  have e3 := okR_num R (x := maxS af bf) (y := minE at' bt) (by simp) (by simp)
  have h1 := hasR_num R (x := af) (y := at') (k := x) (by simp) (by simp) (by simp)
  have h2 := hasR_num R (x := bf) (y := bt) (k := y) (by simp) (by simp) (by simp)
  have h3 := hasR_num R (x := bf) (y := bt) (k := x) (by simp) (by simp) (by simp)
  have l1 := R.lt af (by simp) bf (by simp)
  have l2 := R.lt x (by simp) y (by simp)
  have l3 := endLt_num R (x := bt) (y := at') (by simp) (by simp)
  have d1 := R.em at' (by simp)
  have d2 := R.em bt (by simp)
  have d3 := R.lt at' (by simp) bf (by simp)
  have d4 := R.lt bt (by simp) af (by simp)
  have d5 := R.eq at' (by simp) bf (by simp)
  have d6 := R.eq bt (by simp) af (by simp)
  unfold lessR insideR
  rw [ha, sa, sat] at e1
  rw [hb, sb, sbt] at e2
  rw [sm, sn] at e3
  rw [ha] at h1
  rw [hb] at h2 h3
  rw [l1, l2, l3, e3, h1, h2, h3, d1, d2, d3, d4, d5, d6]
  generalize f af = A at *
  generalize f at' = B at *
  generalize f bf = C at *
  generalize f bt = D at *
  generalize f x = K at *
  generalize f y = H at *
  generalize f (maxS af bf) = M at *
  generalize f (minE at' bt) = N at *
  generalize isName x.data.toList = n at *
  generalize isName y.data.toList = m at *
  simp only [Bool.true_and, true_eq_decide_iff] at e1 e2
  clear l1 l2 l3 h1 h2 h3 e3 sa sb sat sbt sm sn R ha hb d1 d2 d3 d4 d5 d6
  simp only [Bool.and_eq_true, Bool.or_eq_true, Bool.true_and, decide_eq_true_eq, nb_iff, ← Bool.not_eq_true]
  refine ⟨?_, ?_, ?_, ?_, ?_⟩
  · omega
  · omega
  · omega
  · rintro ⟨q1, q2⟩ q3 ⟨q4, q5⟩; omega
  · rintro ⟨q1, q2⟩ q3; exact ⟨q1, by omega⟩

theorem okS_nil : okS ⟨#[]⟩ = true := by unfold okS; rw [ByteArray.toList_eq]; rfl
theorem okR_nil : okR ⟨#[]⟩ ⟨#[]⟩ = true := by unfold okR; rw [okS_nil, ByteArray.toList_eq]; rfl
theorem self_law (af at' bf bt : ByteArray) (ha : okR af at' = true) (hb : (bf = af ∧ bt = at') ∨ (bf = ⟨#[]⟩ ∧ bt = ⟨#[]⟩)) :
    okR bf bt = true ∧ maxS af bf = af ∧ minE at' bt = at' ∧ maxS bf af = af ∧ minE bt at' = at' ∧ Op.bytesLess af.toList bf.toList = false ∧ endLt bt at' = false ∧ lessR at' bf = false := by
  have hok : okR bf bt = true := by
    rcases hb with ⟨rfl, rfl⟩ | ⟨rfl, rfl⟩
    · exact ha
    · exact okR_nil
  refine ⟨hok, ?_⟩
  obtain ⟨f, R⟩ := ranks [af, at', bf, bt, maxS af bf, minE at' bt, maxS bf af, minE bt at']
  have sa := okR_left ha; have sat := okR_right ha
  have hn : (f bf = f af ∧ f bt = f at') ∨ (f bf = 0 ∧ f bt = 0) := by
    rcases hb with ⟨rfl, rfl⟩ | ⟨e1, e2⟩
    · exact Or.inl ⟨rfl, rfl⟩
    · have d1 := R.em bf (by simp)
      have d2 := R.em bt (by simp)
      refine Or.inr ⟨?_, ?_⟩
      · rw [e1] at d1 ⊢; simpa [ByteArray.toList_eq] using d1
      · rw [e2] at d2 ⊢; simpa [ByteArray.toList_eq] using d2
  have nm := maxS_num R (x := af) (y := bf) (by simp) (by simp)
  have nn := minE_num R (x := at') (y := bt) (by simp) (by simp)
  have nm2 := maxS_num R (x := bf) (y := af) (by simp) (by simp)
  have nn2 := minE_num R (x := bt) (y := at') (by simp) (by simp)
  have e1 := okR_num R (x := af) (y := at') (by simp) (by simp)
  have l1 := R.lt af (by simp) bf (by simp)
  have l3 := endLt_num R (x := bt) (y := at') (by simp) (by simp)
  have d1 := R.em at' (by simp)
  have d3 := R.lt at' (by simp) bf (by simp)
  have d5 := R.eq at' (by simp) bf (by simp)
  unfold lessR
  rw [ha, sa, sat] at e1
  rw [rank_ne R (x := maxS af bf) (y := af) (by simp) (by simp), rank_ne R (x := minE at' bt) (y := at') (by simp) (by simp), rank_ne R (x := maxS bf af) (y := af) (by simp) (by simp), rank_ne R (x := minE bt at') (y := at') (by simp) (by simp)]
  rw [l1, l3, d1, d3, d5]
  clear l1 l3 d1 d3 d5 hb hok ha sa sat R
  simp only [Bool.true_and, true_eq_decide_iff] at e1
  simp only [Bool.and_eq_true, Bool.or_eq_true, decide_eq_true_eq, nb_iff, ← Bool.not_eq_true]
  omega
end
section

/-- The earlier one of two ends, as the reference says it. -/
def refEnd (x y : ByteArray) : ByteArray := if (x.toList == ([] : List UInt8) || (!(y.toList == ([] : List UInt8)) && Op.bytesLess y.toList x.toList)) = true then y else x
theorem refEnd_eq (x y : ByteArray) : refEnd x y = minE x y := by
  obtain ⟨f, R⟩ := ranks [x, y, refEnd x y, minE x y]
  have n1 := minE_num R (x := x) (y := y) (by simp) (by simp)
  have n2 : ((f x = 0 ∨ (¬ f y = 0 ∧ f y < f x)) ∧ f (refEnd x y) = f y) ∨ (¬ (f x = 0 ∨ (¬ f y = 0 ∧ f y < f x)) ∧ f (refEnd x y) = f x) := by
    unfold refEnd
    rw [R.em x (by simp), R.em y (by simp), R.lt y (by simp) x (by simp)]
    by_cases h : f x = 0 ∨ (¬ f y = 0 ∧ f y < f x)
    · rw [if_pos (by simpa using h)]; exact Or.inl ⟨h, rfl⟩
    · rw [if_neg (by simpa using h)]; exact Or.inr ⟨h, rfl⟩
  exact rank_eq R (by simp) (by simp) (by omega)
theorem minE_comm (x y : ByteArray) : minE x y = minE y x := by
  obtain ⟨f, R⟩ := ranks [x, y, minE x y, minE y x]
  have n1 := minE_num R (x := x) (y := y) (by simp) (by simp)
  have n2 := minE_num R (x := y) (y := x) (by simp) (by simp)
  exact rank_eq R (by simp) (by simp) (by omega)
/-- The reference's test for what is left in front, and behind. -/
theorem ref_front (af bf : ByteArray) : (!(bf.toList == ([] : List UInt8)) && Op.bytesLess af.toList bf.toList) = Op.bytesLess af.toList bf.toList := by
  obtain ⟨f, R⟩ := ranks [af, bf]
  rw [R.em bf (by simp), R.lt af (by simp) bf (by simp), Bool.eq_iff_iff]
  simp only [Bool.and_eq_true, nb_iff, decide_eq_true_eq]
  omega
theorem ref_back (at' bt : ByteArray) : (!(bt.toList == ([] : List UInt8)) && (at'.toList == ([] : List UInt8) || Op.bytesLess bt.toList at'.toList)) = endLt bt at' := by
  obtain ⟨f, R⟩ := ranks [at', bt]
  rw [R.em bt (by simp), R.em at' (by simp), R.lt bt (by simp) at' (by simp), endLt_num R (by simp) (by simp), Bool.eq_iff_iff]
  simp only [Bool.and_eq_true, Bool.or_eq_true, nb_iff, decide_eq_true_eq]
  omega

/-- Which parts there are, and how they follow one another; c1: one in front, c2: one behind, c3: one together. -/
theorem parts_law (af at' bf bt : ByteArray) (ha : okR af at' = true) (hb : okR bf bt = true) (c1 c2 c3 : Bool)
    (h1 : Op.bytesLess af.toList bf.toList = c1) (h2 : endLt bt at' = c2) (h3 : okR (maxS af bf) (minE at' bt) = c3) :
    (c1 = true → c2 = true → c3 = true ∧ minE bf at' = bf ∧ maxS af bf = bf ∧ minE at' bt = bt ∧ maxS af bt = bt ∧ (af.toList == bf.toList) = false ∧ (af.toList == bt.toList) = false ∧ (bt.toList == bf.toList) = false ∧ (bf.toList == bt.toList) = false ∧ (bf.toList == ([] : List UInt8)) = false ∧ (bt.toList == ([] : List UInt8)) = false) ∧
    (c1 = true → c2 = false → c3 = true → minE bf at' = bf ∧ maxS af bf = bf ∧ minE at' bt = at' ∧ (af.toList == bf.toList) = false ∧ (bf.toList == ([] : List UInt8)) = false) ∧
    (c1 = false → c2 = true → c3 = true → maxS af bf = af ∧ minE at' bt = bt ∧ maxS af bt = bt ∧ (bt.toList == af.toList) = false ∧ (af.toList == bt.toList) = false ∧ (bt.toList == ([] : List UInt8)) = false) ∧
    (c1 = true → c2 = false → c3 = false → minE bf at' = at') ∧
    (c1 = false → c2 = true → c3 = false → maxS af bt = af) ∧
    (c1 = false → c2 = false → c3 = true ∧ maxS af bf = af ∧ minE at' bt = at') := by
  obtain ⟨f, R⟩ := ranks [af, at', bf, bt, maxS af bf, minE at' bt, maxS af bt, minE bf at']
  have sa := okR_left ha; have sat := okR_right ha; have sb := okR_left hb; have sbt := okR_right hb
  have sm := okS_maxS sa sb; have sn := okS_minE sat sbt
  have nm := maxS_num R (x := af) (y := bf) (by simp) (by simp)
  have nn := minE_num R (x := at') (y := bt) (by simp) (by simp)
  have no := maxS_num R (x := af) (y := bt) (by simp) (by simp)
  have np := minE_num R (x := bf) (y := at') (by simp) (by simp)
  have e1 := okR_num R (x := af) (y := at') (by simp) (by simp)
  have e2 := okR_num R (x := bf) (y := bt) (by simp) (by simp)
  have e3 := okR_num R (x := maxS af bf) (y := minE at' bt) (by simp) (by simp)
  rw [ha, sa, sat] at e1
  rw [hb, sb, sbt] at e2
  rw [sm, sn] at e3
  rw [R.lt af (by simp) bf (by simp)] at h1
  rw [endLt_num R (by simp) (by simp)] at h2
  rw [e3] at h3
  have q1 := rank_ne R (x := minE bf at') (y := bf) (by simp) (by simp)
  have q2 := rank_ne R (x := maxS af bf) (y := bf) (by simp) (by simp)
  have q3 := rank_ne R (x := minE at' bt) (y := bt) (by simp) (by simp)
  have q4 := rank_ne R (x := maxS af bt) (y := bt) (by simp) (by simp)
  have q5 := rank_ne R (x := minE at' bt) (y := at') (by simp) (by simp)
  have q6 := rank_ne R (x := maxS af bf) (y := af) (by simp) (by simp)
  have q7 := rank_ne R (x := minE bf at') (y := at') (by simp) (by simp)
  have q8 := rank_ne R (x := maxS af bt) (y := af) (by simp) (by simp)
  rw [q1, q2, q3, q4, q5, q6, q7, q8, R.eq af (by simp) bf (by simp), R.eq af (by simp) bt (by simp), R.eq bt (by simp) bf (by simp), R.eq bf (by simp) bt (by simp), R.eq bt (by simp) af (by simp), R.em bf (by simp), R.em bt (by simp)]
  clear q1 q2 q3 q4 q5 q6 q7 q8
  generalize f af = A at *
  generalize f at' = B at *
  generalize f bf = C at *
  generalize f bt = D at *
  generalize f (maxS af bf) = M at *
  generalize f (minE at' bt) = N at *
  generalize f (maxS af bt) = O at *
  generalize f (minE bf at') = Q at *
  simp only [Bool.true_and, true_eq_decide_iff] at e1 e2
  simp only [Bool.true_and] at h3
  clear e3 sa sb sat sbt sm sn R ha hb
  subst h1 h2 h3
  simp only [decide_eq_true_eq, decide_eq_false_iff_not]
  refine ⟨?_, ?_, ?_, ?_, ?_, ?_⟩ <;> omega
end
end Go.Proofs.YtkkkppbcjmeapaaDoor
