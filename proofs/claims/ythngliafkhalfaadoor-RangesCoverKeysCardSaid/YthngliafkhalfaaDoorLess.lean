/- Whether a range ends before another one, and is inside it; ranges' texts; ranges compared; memory that lay stays. Condition: the ends are no longer than an int can say. -/
import Derived.Test.YthngliafkhalfaaDoorWithout
import Derived.Test.YthngliafkhalfaaDoorPlRngT
namespace Go.Proofs.YthngliafkhalfaaDoor
open Go.RowKit

theorem rng_eq (a b c d : ByteArray) (W : World) : (binOp .eql 23 (.agg #[.string a, .string b]) (.agg #[.string c, .string d])).run Tryd.prog W = .ok (.bool (a.toList == c.toList && b.toList == d.toList)) W := by
  cases h1 : (a.toList == c.toList) <;> cases h2 : (b.toList == d.toList) <;> go_simp
theorem rng_ne (a b c d : ByteArray) (W : World) : (binOp .neq 23 (.agg #[.string a, .string b]) (.agg #[.string c, .string d])).run Tryd.prog W = .ok (.bool (!(a.toList == c.toList && b.toList == d.toList))) W := by
  cases h1 : (a.toList == c.toList) <;> cases h2 : (b.toList == d.toList) <;> go_simp

set_option maxRecDepth 100000 in
set_option maxHeartbeats 4000000 in
theorem less_any (f t g u : ByteArray) (w : World) (hf : f.size ≤ 9223372036854775807) (ht : t.size ≤ 9223372036854775807) (hg : g.size ≤ 9223372036854775807) (hu : u.size ≤ 9223372036854775807) :
    Calls Tryd.prog 27 #[.agg #[.string f, .string t], .agg #[.string g, .string u]] w fun e w' => e = .returned (.tuple #[.bool ((okR f t && okR g u) && lessR t g), .int .i64 (ckI (okR f t && okR g u))]) ∧ Below w.heap.size w w' := by
  have A1 := ((Whole.new w 23 #[.string f, .string t]).alloc (.cells #[.string g, .string u] 23)).alloc (.cells #[.string f, .string t, .string g, .string u] 23)
  have B1 := (Whole.new (w.alloc (.cells #[.string f, .string t] 23)) 23 #[.string g, .string u]).alloc (.cells #[.string f, .string t, .string g, .string u] 23)
  have b1 := (((Below.refl w.heap.size w).alloc (Nat.le_refl _) (.cells #[.string f, .string t] 23)).alloc (by simp) (.cells #[.string g, .string u] 23)).alloc (by simp; omega) (.cells #[.string f, .string t, .string g, .string u] 23)
  have L1 := Whole.new ((w.alloc (.cells #[.string f, .string t] 23)).alloc (.cells #[.string g, .string u] 23)) 23 #[.string f, .string t, .string g, .string u]
  simp only [World.size_alloc] at B1 L1
  have E := ends2 (w.heap.size + 1 + 1) f t g u _ hf ht hg hu (L1.cell 0) (L1.cell 1) (L1.cell 2) (L1.cell 3)
  have hq : lessR t g = (!(t.toList == ([] : List UInt8)) && (Op.bytesLess t.toList g.toList || t.toList == g.toList)) := rfl
  generalize lessR t g = q at hq ⊢
  generalize (okR f t && okR g u) = o at E ⊢
  clear L1 hf ht hg hu
  cases o <;> cases h1 : (t.toList == ([] : List UInt8)) <;> cases h2 : Op.bytesLess t.toList g.toList <;> cases h3 : (t.toList == g.toList)
  all_goals
    have HQ := Lib.hid (hq.trans (by rw [h1, h2, h3]) : q = _)
    clear hq
    simp only [fnV, ckI] at E
    go_enter Tryd.func27, Tryd.ntmps27
    go_wp2_with fail
    refine E.mono ?_
    rintro e w1 ⟨rfl, hb⟩
    have A2 := A1.below hb A1.lt
    have B2 := B1.below hb B1.lt
    have b2 := b1.trans (hb.mono b1.size)
    have x1 := A2.cell 1
    have y0 := B2.cell 0
    simp only [List.getElem?_toArray, List.getElem?_cons_succ, List.getElem?_cons_zero] at x1 y0
    clear A1 B1 b1 hb E A2 B2
    go_wp2_with fail
    go_ret2
    exact ⟨by rw [HQ.out]; rfl, b2⟩

theorem outL_nil (f t g u : ByteArray) : (outL f t g u = []) = (insideR f t g u = true) := by
  unfold outL insideR
  cases Op.bytesLess f.toList g.toList <;> cases endLt u t <;> simp
set_option maxRecDepth 100000 in
set_option maxHeartbeats 4000000 in
theorem inside_any (f t g u : ByteArray) (w : World) (hf : f.size ≤ 9223372036854775807) (ht : t.size ≤ 9223372036854775807) (hg : g.size ≤ 9223372036854775807) (hu : u.size ≤ 9223372036854775807) :
    Calls Tryd.prog 29 #[.agg #[.string f, .string t], .agg #[.string g, .string u]] w fun e w' => e = .returned (.tuple #[.bool ((okR f t && okR g u) && insideR f t g u), .int .i64 (ckI (okR f t && okR g u))]) ∧ Below w.heap.size w w' := by
  have b1 := ((Below.refl w.heap.size w).alloc (Nat.le_refl _) (.cells #[.string f, .string t] 23)).alloc (by simp) (.cells #[.string g, .string u] 23)
  have E := fun W => without_any f t g u W hf ht hg hu
  have hi := outL_nil f t g u
  generalize insideR f t g u = q at hi ⊢
  generalize outL f t g u = ps at hi E
  generalize (okR f t && okR g u) = o at E ⊢
  clear hf ht hg hu
  cases o with
  | false =>
    simp only [ckI] at E
    go_enter Tryd.func29, Tryd.ntmps29
    go_wp2_with fail
    refine (E _).mono ?_
    rintro e w1 ⟨v, rfl, ho, hb⟩
    clear ho
    go_wp2_with fail
    go_ret2
    exact ⟨rfl, b1.trans (hb.mono b1.size)⟩
  | true =>
    simp only [ckI] at E
    go_enter Tryd.func29, Tryd.ntmps29
    go_wp2_with fail
    refine (E _).mono ?_
    rintro e w1 ⟨v, rfl, ho, hb⟩
    have b2 := b1.trans (hb.mono b1.size)
    rcases ho with ⟨h1, rfl⟩ | ⟨h1, g0, cap, rfl, _⟩
    · obtain rfl : q = true := by simp only [if_true] at h1; rw [h1] at hi; simpa using hi
      clear hi h1 hb b1
      go_wp2_with fail
      go_ret2
      exact ⟨rfl, b2⟩
    · simp only [if_true] at h1
      obtain rfl : q = false := by
        cases q with
        | false => rfl
        | true => exact absurd (by rw [hi]) h1
      have hl : (if True then ps else []).length ≠ 0 := by simpa using h1
      clear hi h1 hb b1
      generalize (if True then ps else []).length = n at hl
      have hl2 : (((n : Nat) : Int) == 0) = false := by simpa using hl
      go_wp2_with fail
      go_ret2
      exact ⟨by simp [ckI], b2⟩
end Go.Proofs.YthngliafkhalfaaDoor
