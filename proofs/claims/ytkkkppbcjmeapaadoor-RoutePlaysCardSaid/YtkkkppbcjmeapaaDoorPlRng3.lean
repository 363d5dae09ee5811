/- Plain laws of two ranges: the reference's words for them; parts that follow one another. No condition. -/
import Derived.Test.YtkkkppbcjmeapaaDoorPlRng2
namespace Go.Proofs.YtkkkppbcjmeapaaDoor

/-- The earlier one of two ends, as the reference says it. -/
def refEnd (x y : ByteArray) : ByteArray := if (x.toList == ([] : List UInt8) || (!(y.toList == ([] : List UInt8)) && Op.bytesLess y.toList x.toList)) = true then y else x
theorem refEnd_eq (x y : ByteArray) : refEnd x y = minE x y := by
  obtain ⟨f, R⟩ := ranks [x, y, refEnd x y, minE x y]
  have n1 := minE_num R (x := x) (y := y) (by simp) (by simp)
  have n2 : ((f x = 0 ∨ (¬ f y = 0 ∧ f y < f x)) ∧ f (refEnd x y) = f y) ∨ (¬ (f x = 0 ∨ (¬ f y = 0 ∧ f y < f x)) ∧ f (refEnd x y) = f x) := by
    unfold refEnd
    rw [R.em x (by simp), R.em y (by simp), R.lt y (by simp) x (by simp)]
    by_cases h : f x = 0 ∨ (¬ f y = 0 ∧ f y < f x)
    · rw [if_pos (by simpa using h)]; exact Or.inl ⟨h, rfl⟩
    · rw [if_neg (by simpa using h)]; exact Or.inr ⟨h, rfl⟩
  exact rank_eq R (by simp) (by simp) (by omega)
theorem minE_comm (x y : ByteArray) : minE x y = minE y x := by
  obtain ⟨f, R⟩ := ranks [x, y, minE x y, minE y x]
  have n1 := minE_num R (x := x) (y := y) (by simp) (by simp)
  have n2 := minE_num R (x := y) (y := x) (by simp) (by simp)
  exact rank_eq R (by simp) (by simp) (by omega)
/-- The reference's test for what is left in front, and behind. -/
theorem ref_front (af bf : ByteArray) : (!(bf.toList == ([] : List UInt8)) && Op.bytesLess af.toList bf.toList) = Op.bytesLess af.toList bf.toList := by
  obtain ⟨f, R⟩ := ranks [af, bf]
  rw [R.em bf (by simp), R.lt af (by simp) bf (by simp), Bool.eq_iff_iff]
  simp only [Bool.and_eq_true, nb_iff, decide_eq_true_eq]
  omega
theorem ref_back (at' bt : ByteArray) : (!(bt.toList == ([] : List UInt8)) && (at'.toList == ([] : List UInt8) || Op.bytesLess bt.toList at'.toList)) = endLt bt at' := by
  obtain ⟨f, R⟩ := ranks [at', bt]
  rw [R.em bt (by simp), R.em at' (by simp), R.lt bt (by simp) at' (by simp), endLt_num R (by simp) (by simp), Bool.eq_iff_iff]
  simp only [Bool.and_eq_true, Bool.or_eq_true, nb_iff, decide_eq_true_eq]
  omega

/-- Which parts there are, and how they follow one another; c1: one in front, c2: one behind, c3: one together. -/
theorem parts_law (af at' bf bt : ByteArray) (ha : okR af at' = true) (hb : okR bf bt = true) (c1 c2 c3 : Bool)
    (h1 : Op.bytesLess af.toList bf.toList = c1) (h2 : endLt bt at' = c2) (h3 : okR (maxS af bf) (minE at' bt) = c3) :
    (c1 = true → c2 = true → c3 = true ∧ minE bf at' = bf ∧ maxS af bf = bf ∧ minE at' bt = bt ∧ maxS af bt = bt ∧ (af.toList == bf.toList) = false ∧ (af.toList == bt.toList) = false ∧ (bt.toList == bf.toList) = false ∧ (bf.toList == bt.toList) = false ∧ (bf.toList == ([] : List UInt8)) = false ∧ (bt.toList == ([] : List UInt8)) = false) ∧
    (c1 = true → c2 = false → c3 = true → minE bf at' = bf ∧ maxS af bf = bf ∧ minE at' bt = at' ∧ (af.toList == bf.toList) = false ∧ (bf.toList == ([] : List UInt8)) = false) ∧
    (c1 = false → c2 = true → c3 = true → maxS af bf = af ∧ minE at' bt = bt ∧ maxS af bt = bt ∧ (bt.toList == af.toList) = false ∧ (af.toList == bt.toList) = false ∧ (bt.toList == ([] : List UInt8)) = false) ∧
    (c1 = true → c2 = false → c3 = false → minE bf at' = at') ∧
    (c1 = false → c2 = true → c3 = false → maxS af bt = af) ∧
    (c1 = false → c2 = false → c3 = true ∧ maxS af bf = af ∧ minE at' bt = at') := by
  obtain ⟨f, R⟩ := ranks [af, at', bf, bt, maxS af bf, minE at' bt, maxS af bt, minE bf at']
  have sa := okR_left ha; have sat := okR_right ha; have sb := okR_left hb; have sbt := okR_right hb
  have sm := okS_maxS sa sb; have sn := okS_minE sat sbt
  have nm := maxS_num R (x := af) (y := bf) (by simp) (by simp)
  have nn := minE_num R (x := at') (y := bt) (by simp) (by simp)
  have no := maxS_num R (x := af) (y := bt) (by simp) (by simp)
  have np := minE_num R (x := bf) (y := at') (by simp) (by simp)
  have e1 := okR_num R (x := af) (y := at') (by simp) (by simp)
  have e2 := okR_num R (x := bf) (y := bt) (by simp) (by simp)
  have e3 := okR_num R (x := maxS af bf) (y := minE at' bt) (by simp) (by simp)
  rw [ha, sa, sat] at e1
  rw [hb, sb, sbt] at e2
  rw [sm, sn] at e3
  rw [R.lt af (by simp) bf (by simp)] at h1
  rw [endLt_num R (by simp) (by simp)] at h2
  rw [e3] at h3
  have q1 := rank_ne R (x := minE bf at') (y := bf) (by simp) (by simp)
  have q2 := rank_ne R (x := maxS af bf) (y := bf) (by simp) (by simp)
  have q3 := rank_ne R (x := minE at' bt) (y := bt) (by simp) (by simp)
  have q4 := rank_ne R (x := maxS af bt) (y := bt) (by simp) (by simp)
  have q5 := rank_ne R (x := minE at' bt) (y := at') (by simp) (by simp)
  have q6 := rank_ne R (x := maxS af bf) (y := af) (by simp) (by simp)
  have q7 := rank_ne R (x := minE bf at') (y := at') (by simp) (by simp)
  have q8 := rank_ne R (x := maxS af bt) (y := af) (by simp) (by simp)
  rw [q1, q2, q3, q4, q5, q6, q7, q8, R.eq af (by simp) bf (by simp), R.eq af (by simp) bt (by simp), R.eq bt (by simp) bf (by simp), R.eq bf (by simp) bt (by simp), R.eq bt (by simp) af (by simp), R.em bf (by simp), R.em bt (by simp)]
  clear q1 q2 q3 q4 q5 q6 q7 q8
  generalize f af = A at *
  generalize f at' = B at *
  generalize f bf = C at *
  generalize f bt = D at *
  generalize f (maxS af bf) = M at *
  generalize f (minE at' bt) = N at *
  generalize f (maxS af bt) = O at *
  generalize f (minE bf at') = Q at *
  simp only [Bool.true_and, true_eq_decide_iff] at e1 e2
  simp only [Bool.true_and] at h3
  clear e3 sa sb sat sbt sm sn R ha hb
  subst h1 h2 h3
  simp only [decide_eq_true_eq, decide_eq_false_iff_not]
  refine ⟨?_, ?_, ?_, ?_, ?_, ?_⟩ <;> omega
end Go.Proofs.YtkkkppbcjmeapaaDoor
