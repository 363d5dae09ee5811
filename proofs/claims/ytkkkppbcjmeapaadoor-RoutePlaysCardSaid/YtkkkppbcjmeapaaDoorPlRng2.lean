/- Plain laws of two ranges: before, inside, together; a range and itself. No condition. -/
import Derived.Test.YtkkkppbcjmeapaaDoorPlRng
namespace Go.Proofs.YtkkkppbcjmeapaaDoor

theorem ba_eq {x y : ByteArray} (h : x.toList = y.toList) : x = y := by
  rw [ByteArray.toList_eq, ByteArray.toList_eq] at h
  obtain ⟨⟨a⟩⟩ := x
  obtain ⟨⟨b⟩⟩ := y
  cases h
  rfl
theorem rank_eq {L : List ByteArray} {f : ByteArray → Nat} (R : Ranks L f) {x y : ByteArray} (hx : x ∈ L) (hy : y ∈ L) (h : f x = f y) : x = y := by
  have := R.eq x hx y hy
  rw [decide_eq_true h] at this
  exact ba_eq (by simpa using this)
theorem rank_ne {L : List ByteArray} {f : ByteArray → Nat} (R : Ranks L f) {x y : ByteArray} (hx : x ∈ L) (hy : y ∈ L) : (x = y) = (f x = f y) :=
  propext ⟨fun h => by rw [h], rank_eq R hx hy⟩

/-- A range ends before another one begins. -/
def lessR (at' bf : ByteArray) : Bool := !(at'.toList == ([] : List UInt8)) && (Op.bytesLess at'.toList bf.toList || at'.toList == bf.toList)
def insideR (af at' bf bt : ByteArray) : Bool := !Op.bytesLess af.toList bf.toList && !endLt bt at'

theorem orders_law (af at' bf bt x y : ByteArray) (ha : okR af at' = true) (hb : okR bf bt = true) :
    ¬ (lessR at' bf = true ∧ lessR bt af = true) ∧ (okR (maxS af bf) (minE at' bt) = true → lessR at' bf = false ∧ lessR bt af = false) ∧
    (okR (maxS af bf) (minE at' bt) = false → lessR at' bf = false → lessR bt af = true) ∧
    (hasR af at' x = true → lessR at' bf = true → hasR bf bt y = true → Op.bytesLess x.toList y.toList = true) ∧
    (hasR af at' x = true → insideR af at' bf bt = true → hasR bf bt x = true) := by
  obtain ⟨f, R⟩ := ranks [af, at', bf, bt, x, y, maxS af bf, minE at' bt]
  have sa := okR_left ha; have sat := okR_right ha; have sb := okR_left hb; have sbt := okR_right hb
  have sm := okS_maxS sa sb; have sn := okS_minE sat sbt
  have nm := maxS_num R (x := af) (y := bf) (by simp) (by simp)
  have nn := minE_num R (x := at') (y := bt) (by simp) (by simp)
  have e1 := okR_num R (x := af) (y := at') (by simp) (by simp)
  have e2 := okR_num R (x := bf) (y := bt) (by simp) (by simp)
  have e3 := okR_num R (x := maxS af bf) (y := minE at' bt) (by simp) (by simp)
  have h1 := hasR_num R (x := af) (y := at') (k := x) (by simp) (by simp) (by simp)
  have h2 := hasR_num R (x := bf) (y := bt) (k := y) (by simp) (by simp) (by simp)
  have h3 := hasR_num R (x := bf) (y := bt) (k := x) (by simp) (by simp) (by simp)
  have l1 := R.lt af (by simp) bf (by simp)
  have l2 := R.lt x (by simp) y (by simp)
  have l3 := endLt_num R (x := bt) (y := at') (by simp) (by simp)
  have d1 := R.em at' (by simp)
  have d2 := R.em bt (by simp)
  have d3 := R.lt at' (by simp) bf (by simp)
  have d4 := R.lt bt (by simp) af (by simp)
  have d5 := R.eq at' (by simp) bf (by simp)
  have d6 := R.eq bt (by simp) af (by simp)
  unfold lessR insideR
  rw [ha, sa, sat] at e1
  rw [hb, sb, sbt] at e2
  rw [sm, sn] at e3
  rw [ha] at h1
  rw [hb] at h2 h3
  rw [l1, l2, l3, e3, h1, h2, h3, d1, d2, d3, d4, d5, d6]
  generalize f af = A at *
  generalize f at' = B at *
  generalize f bf = C at *
  generalize f bt = D at *
  generalize f x = K at *
  generalize f y = H at *
  generalize f (maxS af bf) = M at *
  generalize f (minE at' bt) = N at *
  generalize isName x.data.toList = n at *
  generalize isName y.data.toList = m at *
  simp only [Bool.true_and, true_eq_decide_iff] at e1 e2
  clear l1 l2 l3 h1 h2 h3 e3 sa sb sat sbt sm sn R ha hb d1 d2 d3 d4 d5 d6
  simp only [Bool.and_eq_true, Bool.or_eq_true, Bool.true_and, decide_eq_true_eq, nb_iff, ← Bool.not_eq_true]
  refine ⟨?_, ?_, ?_, ?_, ?_⟩
  · omega
  · omega
  · omega
  · rintro ⟨q1, q2⟩ q3 ⟨q4, q5⟩; omega
  · rintro ⟨q1, q2⟩ q3; exact ⟨q1, by omega⟩

theorem okS_nil : okS ⟨#[]⟩ = true := by unfold okS; rw [ByteArray.toList_eq]; rfl
theorem okR_nil : okR ⟨#[]⟩ ⟨#[]⟩ = true := by unfold okR; rw [okS_nil, ByteArray.toList_eq]; rfl
theorem self_law (af at' bf bt : ByteArray) (ha : okR af at' = true) (hb : (bf = af ∧ bt = at') ∨ (bf = ⟨#[]⟩ ∧ bt = ⟨#[]⟩)) :
    okR bf bt = true ∧ maxS af bf = af ∧ minE at' bt = at' ∧ maxS bf af = af ∧ minE bt at' = at' ∧ Op.bytesLess af.toList bf.toList = false ∧ endLt bt at' = false ∧ lessR at' bf = false := by
  have hok : okR bf bt = true := by
    rcases hb with ⟨rfl, rfl⟩ | ⟨rfl, rfl⟩
    · exact ha
    · exact okR_nil
  refine ⟨hok, ?_⟩
  obtain ⟨f, R⟩ := ranks [af, at', bf, bt, maxS af bf, minE at' bt, maxS bf af, minE bt at']
  have sa := okR_left ha; have sat := okR_right ha
  have hn : (f bf = f af ∧ f bt = f at') ∨ (f bf = 0 ∧ f bt = 0) := by
    rcases hb with ⟨rfl, rfl⟩ | ⟨e1, e2⟩
    · exact Or.inl ⟨rfl, rfl⟩
    · have d1 := R.em bf (by simp)
      have d2 := R.em bt (by simp)
      refine Or.inr ⟨?_, ?_⟩
      · rw [e1] at d1 ⊢; simpa [ByteArray.toList_eq] using d1
      · rw [e2] at d2 ⊢; simpa [ByteArray.toList_eq] using d2
  have nm := maxS_num R (x := af) (y := bf) (by simp) (by simp)
  have nn := minE_num R (x := at') (y := bt) (by simp) (by simp)
  have nm2 := maxS_num R (x := bf) (y := af) (by simp) (by simp)
  have nn2 := minE_num R (x := bt) (y := at') (by simp) (by simp)
  have e1 := okR_num R (x := af) (y := at') (by simp) (by simp)
  have l1 := R.lt af (by simp) bf (by simp)
  have l3 := endLt_num R (x := bt) (y := at') (by simp) (by simp)
  have d1 := R.em at' (by simp)
  have d3 := R.lt at' (by simp) bf (by simp)
  have d5 := R.eq at' (by simp) bf (by simp)
  unfold lessR
  rw [ha, sa, sat] at e1
  rw [rank_ne R (x := maxS af bf) (y := af) (by simp) (by simp), rank_ne R (x := minE at' bt) (y := at') (by simp) (by simp), rank_ne R (x := maxS bf af) (y := af) (by simp) (by simp), rank_ne R (x := minE bt at') (y := at') (by simp) (by simp)]
  rw [l1, l3, d1, d3, d5]
  clear l1 l3 d1 d3 d5 hb hok ha sa sat R
  simp only [Bool.true_and, true_eq_decide_iff] at e1
  simp only [Bool.and_eq_true, Bool.or_eq_true, decide_eq_true_eq, nb_iff, ← Bool.not_eq_true]
  omega
end Go.Proofs.YtkkkppbcjmeapaaDoor
