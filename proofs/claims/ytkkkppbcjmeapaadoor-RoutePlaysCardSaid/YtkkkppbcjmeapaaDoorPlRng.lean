/- Plain facts about ranges of keys: which are allowed, which keys they have, what two have together, and what one has without the other. No condition. -/
import Derived.Test.YtkkkppbcjmeapaaDoorPlName
import Derived.Test.YtkkkppbcjmeapaaDoorPlOrd
namespace Go.Proofs.YtkkkppbcjmeapaaDoor

/-- An end that is allowed. -/
def okS (x : ByteArray) : Bool := x.toList == ([] : List UInt8) || isName x.data.toList
/-- A range that is allowed. -/
def okR (f t : ByteArray) : Bool := okS f && (okS t && (t.toList == ([] : List UInt8) || Op.bytesLess f.toList t.toList))
/-- The error's number. -/
def ckI : Bool → Int
  | true => 0
  | false => 2
/-- An end is ahead of another one; the empty one is behind all. -/
def endLt (x y : ByteArray) : Bool := !(x.toList == y.toList) && (!(x.toList == ([] : List UInt8)) && (y.toList == ([] : List UInt8) || Op.bytesLess x.toList y.toList))
/-- A range has a key. -/
def hasR (f t k : ByteArray) : Bool := okR f t && (isName k.data.toList && (!Op.bytesLess k.toList f.toList && endLt k t))
def maxS (x y : ByteArray) : ByteArray := if !Op.bytesLess x.toList y.toList then x else y
def minE (x y : ByteArray) : ByteArray := if endLt y x then y else x
/-- What one range has without the other one. -/
def outL (af at' bf bt : ByteArray) : List (ByteArray × ByteArray) :=
  (if Op.bytesLess af.toList bf.toList then [(af, minE bf at')] else []) ++ (if endLt bt at' then [(maxS af bt, at')] else [])
section
variable {L : List ByteArray} {f : ByteArray → Nat}
theorem endLt_num (R : Ranks L f) {x y : ByteArray} (hx : x ∈ L) (hy : y ∈ L) : endLt x y = decide (f x ≠ f y ∧ f x ≠ 0 ∧ (f y = 0 ∨ f x < f y)) := by
  unfold endLt
  rw [R.eq x hx y hy, R.em x hx, R.em y hy, R.lt x hx y hy]
  simp
theorem okR_num (R : Ranks L f) {x y : ByteArray} (hx : x ∈ L) (hy : y ∈ L) : okR x y = (okS x && (okS y && decide (f y = 0 ∨ f x < f y))) := by
  unfold okR
  rw [R.em y hy, R.lt x hx y hy]
  simp
theorem hasR_num (R : Ranks L f) {x y k : ByteArray} (hx : x ∈ L) (hy : y ∈ L) (hk : k ∈ L) : hasR x y k = (okR x y && (isName k.data.toList && decide (f x ≤ f k ∧ (f k ≠ f y ∧ f k ≠ 0 ∧ (f y = 0 ∨ f k < f y))))) := by
  unfold hasR
  rw [endLt_num R hk hy, R.lt k hk x hx, Bool.eq_iff_iff]
  simp
theorem maxS_num (R : Ranks L f) {x y : ByteArray} (hx : x ∈ L) (hy : y ∈ L) : (f x < f y ∧ f (maxS x y) = f y) ∨ (¬ f x < f y ∧ f (maxS x y) = f x) := by
  unfold maxS
  rw [R.lt x hx y hy]
  by_cases h : f x < f y <;> simp [h]
theorem minE_num (R : Ranks L f) {x y : ByteArray} (hx : x ∈ L) (hy : y ∈ L) : ((f y ≠ f x ∧ f y ≠ 0 ∧ (f x = 0 ∨ f y < f x)) ∧ f (minE x y) = f y) ∨ (¬ (f y ≠ f x ∧ f y ≠ 0 ∧ (f x = 0 ∨ f y < f x)) ∧ f (minE x y) = f x) := by
  unfold minE
  rw [endLt_num R hy hx]
  by_cases h : f y ≠ f x ∧ f y ≠ 0 ∧ (f x = 0 ∨ f y < f x)
  · rw [decide_eq_true h]; exact Or.inl ⟨h, rfl⟩
  · rw [decide_eq_false h]; exact Or.inr ⟨h, rfl⟩
theorem name_pos (R : Ranks L f) {x : ByteArray} (hx : x ∈ L) (h : isName x.data.toList = true) : f x ≠ 0 := by
  intro h0
  have he := R.em x hx
  rw [h0, ByteArray.toList_eq] at he
  have : x.data.toList = [] := by simpa using he
  rw [this] at h
  cases h
end
theorem nb_iff {b : Bool} : ((!b) = true) ↔ ¬ b = true := by cases b <;> simp
theorem maxS_or (x y : ByteArray) : maxS x y = x ∨ maxS x y = y := by
  unfold maxS; by_cases h : (!Op.bytesLess x.toList y.toList) = true <;> simp [h]
theorem minE_or (x y : ByteArray) : minE x y = x ∨ minE x y = y := by
  unfold minE; by_cases h : endLt y x = true <;> simp [h]
theorem okS_maxS {x y : ByteArray} (hx : okS x = true) (hy : okS y = true) : okS (maxS x y) = true := by
  rcases maxS_or x y with h | h <;> rw [h] <;> assumption
theorem okS_minE {x y : ByteArray} (hx : okS x = true) (hy : okS y = true) : okS (minE x y) = true := by
  rcases minE_or x y with h | h <;> rw [h] <;> assumption
theorem okR_left {x y : ByteArray} (h : okR x y = true) : okS x = true := by
  unfold okR at h; simp at h; exact h.1
theorem okR_right {x y : ByteArray} (h : okR x y = true) : okS y = true := by
  unfold okR at h; simp at h; exact h.2.1

/-- What two ranges have together, and what one has alone: each key is where it has to be. -/
theorem keys_law (af at' bf bt k : ByteArray) (ha : okR af at' = true) (hb : okR bf bt = true) :
    (okR (maxS af bf) (minE at' bt) && hasR (maxS af bf) (minE at' bt) k) = (hasR af at' k && hasR bf bt k) ∧
    (Op.bytesLess af.toList bf.toList = true → okR af (minE bf at') = true) ∧ (endLt bt at' = true → okR (maxS af bt) at' = true) ∧
    (if (Op.bytesLess af.toList bf.toList && hasR af (minE bf at') k) = true then 1 else 0) + (if (endLt bt at' && hasR (maxS af bt) at' k) = true then 1 else 0) = if (hasR af at' k && !hasR bf bt k) = true then 1 else 0 := by
  obtain ⟨f, R⟩ := ranks [af, at', bf, bt, k, maxS af bf, minE at' bt, maxS af bt, minE bf at']
  have sa := okR_left ha; have sat := okR_right ha; have sb := okR_left hb; have sbt := okR_right hb
  have sm := okS_maxS sa sb; have sn := okS_minE sat sbt; have so := okS_maxS sa sbt; have sp := okS_minE sb sat
  have nm := maxS_num R (x := af) (y := bf) (by simp) (by simp)
  have nn := minE_num R (x := at') (y := bt) (by simp) (by simp)
  have no := maxS_num R (x := af) (y := bt) (by simp) (by simp)
  have np := minE_num R (x := bf) (y := at') (by simp) (by simp)
  have e1 := okR_num R (x := af) (y := at') (by simp) (by simp)
  have e2 := okR_num R (x := bf) (y := bt) (by simp) (by simp)
  have e3 := okR_num R (x := maxS af bf) (y := minE at' bt) (by simp) (by simp)
  have h1 := hasR_num R (x := af) (y := at') (k := k) (by simp) (by simp) (by simp)
  have h2 := hasR_num R (x := bf) (y := bt) (k := k) (by simp) (by simp) (by simp)
  have h3 := hasR_num R (x := maxS af bf) (y := minE at' bt) (k := k) (by simp) (by simp) (by simp)
  have l1 := R.lt af (by simp) bf (by simp)
  have l3 := endLt_num R (x := bt) (y := at') (by simp) (by simp)
  have g1 := okR_num R (x := af) (y := minE bf at') (by simp) (by simp)
  have g2 := okR_num R (x := maxS af bt) (y := at') (by simp) (by simp)
  have k1 := hasR_num R (x := af) (y := minE bf at') (k := k) (by simp) (by simp) (by simp)
  have k2 := hasR_num R (x := maxS af bt) (y := at') (k := k) (by simp) (by simp) (by simp)
  rw [ha, sa, sat] at e1
  rw [hb, sb, sbt] at e2
  rw [sm, sn] at e3
  rw [ha] at h1
  rw [hb] at h2
  rw [sa, sp] at g1
  rw [so, sat] at g2
  rw [e3] at h3
  rw [g1] at k1
  rw [g2] at k2
  rw [l1, l3, e3, h3, h1, h2, g1, g2, k1, k2]
  generalize f af = A at *
  generalize f at' = B at *
  generalize f bf = C at *
  generalize f bt = D at *
  generalize f k = K at *
  generalize f (maxS af bf) = M at *
  generalize f (minE at' bt) = N at *
  generalize f (maxS af bt) = O at *
  generalize f (minE bf at') = Q at *
  generalize isName k.data.toList = n at *
  simp only [Bool.true_and, true_eq_decide_iff] at e1 e2
  clear l1 l3 h1 h2 h3 e3 sa sb sat sbt sm sn so sp R ha hb g1 g2 k1 k2
  refine ⟨?_, ?_, ?_, ?_⟩
  · rw [Bool.eq_iff_iff]
    simp only [Bool.and_eq_true, Bool.true_and, decide_eq_true_eq]
    cases n
    · simp
    · simp only [true_and]; omega
  · simp only [Bool.true_and, decide_eq_true_eq]; omega
  · simp only [Bool.true_and, decide_eq_true_eq]; omega
  · simp only [Bool.and_eq_true, Bool.true_and, decide_eq_true_eq, nb_iff]
    cases n
    · simp
    · simp only [true_and]
      split <;> split <;> split <;> omega
end Go.Proofs.YtkkkppbcjmeapaaDoor
