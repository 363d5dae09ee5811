/- RangesPairs returns true; memory that lay stays. Condition: the types' shapes lie as the program's start lays them. -/
import Derived.Test.YthngliafkhalfaaDoorRefWithout
namespace Go.Proofs.YthngliafkhalfaaDoor
open Go.RowKit

set_option maxRecDepth 100000 in
set_option maxHeartbeats 4000000 in
theorem refInside_any (f t g u : ByteArray) (w : World) (hf : f.size ≤ 9223372036854775807) (ht : t.size ≤ 9223372036854775807) (hg : g.size ≤ 9223372036854775807) (hu : u.size ≤ 9223372036854775807) :
    Calls Tryd.prog 30 #[.agg #[.string f, .string t], .agg #[.string g, .string u]] w fun e w' => e = .returned (.tuple #[.bool ((okR f t && okR g u) && insideR f t g u), .int .i64 (ckI (okR f t && okR g u))]) ∧ Below w.heap.size w w' := by
  have b1 := ((Below.refl w.heap.size w).alloc (Nat.le_refl _) (.cells #[.string f, .string t] 23)).alloc (by simp) (.cells #[.string g, .string u] 23)
  have E := fun W => refWithout_any f t g u W hf ht hg hu
  have hi := outL_nil f t g u
  generalize insideR f t g u = q at hi ⊢
  generalize outL f t g u = ps at hi E
  generalize (okR f t && okR g u) = o at E ⊢
  clear hf ht hg hu
  cases o with
  | false =>
    simp only [ckI] at E
    go_enter Tryd.func30, Tryd.ntmps30
    go_wp2_with fail
    refine (E _).mono ?_
    rintro e w1 ⟨v, rfl, ho, hb⟩
    clear ho
    go_wp2_with fail
    go_ret2
    exact ⟨rfl, b1.trans (hb.mono b1.size)⟩
  | true =>
    simp only [ckI] at E
    go_enter Tryd.func30, Tryd.ntmps30
    go_wp2_with fail
    refine (E _).mono ?_
    rintro e w1 ⟨v, rfl, ho, hb⟩
    have b2 := b1.trans (hb.mono b1.size)
    rcases ho with ⟨h1, rfl⟩ | ⟨h1, g0, cap, rfl, _⟩
    · obtain rfl : q = true := by simp only [if_true] at h1; rw [h1] at hi; simpa using hi
      clear hi h1 hb b1
      go_wp2_with fail
      go_ret2
      exact ⟨rfl, b2⟩
    · simp only [if_true] at h1
      obtain rfl : q = false := by
        cases q with
        | false => rfl
        | true => exact absurd (by rw [hi]) h1
      have hl : (if True then ps else []).length ≠ 0 := by simpa using h1
      clear hi h1 hb b1
      generalize (if True then ps else []).length = n at hl
      have hl2 : (((n : Nat) : Int) == 0) = false := by simpa using hl
      go_wp2_with fail
      go_ret2
      exact ⟨by simp [ckI], b2⟩

theorem meetV_form (o m : Bool) (f t : ByteArray) : ∃ (x y : ByteArray) (b : Bool) (e : Int), meetV o m f t = .tuple #[.agg #[.string x, .string y], .bool b, .int .i64 e] := by
  cases o <;> cases m <;> exact ⟨_, _, _, _, rfl⟩

set_option maxRecDepth 100000 in
set_option maxHeartbeats 8000000 in
theorem pairs_walk (f t g u : ByteArray) (w : World) (hf : f.size ≤ 9223372036854775807) (ht : t.size ≤ 9223372036854775807) (hg : g.size ≤ 9223372036854775807) (hu : u.size ≤ 9223372036854775807) (hsh : w.ShapedOpen Tryd.prog) :
    Calls Tryd.prog 8 #[.agg #[.string f, .string t], .agg #[.string g, .string u]] w fun e w' => e = .returned (.bool true) ∧ Below w.heap.size w w' := by
  have HS := Lib.hid hsh
  have a := AB.start w f t g u
  clear hsh
  cases hs1 : sh f t with
  | false =>
    go_enter Tryd.func8, Tryd.ntmps8
    go_wp2_with (first
      | (go_at_call 11; refine (short_any _ _ _).mono ?_; rintro e w1 ⟨rfl, hb⟩; replace a := a.below hb; have x0 := a.c0; have x1 := a.c1; have x2 := a.c2; have x3 := a.c3)
      | (go_at_call 12; refine (works_any _ (a.shaped HS.out)).mono ?_; rintro e w2 ⟨rfl, hb2⟩; have bF := a.last hb2))
    go_ret
    exact ⟨rfl, bF⟩
  | true =>
  cases hs2 : sh g u with
  | false =>
    have x0 := a.c0
    have x1 := a.c1
    have x2 := a.c2
    have x3 := a.c3
    go_enter Tryd.func8, Tryd.ntmps8
    go_wp2_with (first
      | (go_at_call 11; refine (short_any _ _ _).mono ?_; rintro e w1 ⟨rfl, hb⟩; replace a := a.below hb; have x0 := a.c0; have x1 := a.c1; have x2 := a.c2; have x3 := a.c3)
      | (go_at_call 12; refine (works_any _ (a.shaped HS.out)).mono ?_; rintro e w2 ⟨rfl, hb2⟩; have bF := a.last hb2))
    go_ret
    exact ⟨rfl, bF⟩
  | true =>
    have C1 := fun W => meet_any f t g u W hf ht hg hu
    have C2 := fun W => refMeet_any f t g u W hf ht hg hu
    have C3 := fun W => without_any f t g u W hf ht hg hu
    have C4 := fun W => refWithout_any f t g u W hf ht hg hu
    have C5 := fun W => less_any f t g u W hf ht hg hu
    have C6 := fun W => refLess_any f t g u W hf ht hg hu
    have C7 := fun W => inside_any f t g u W hf ht hg hu
    have C8 := fun W => refInside_any f t g u W hf ht hg hu
    have hlen : (if (okR f t && okR g u) = true then outL f t g u else []).length ≤ 1000000 := by
      split
      · have : (outL f t g u).length ≤ 2 := by unfold outL; split <;> split <;> simp
        omega
      · simp
    obtain ⟨rx, ry, bm, e1, hv⟩ := meetV_form (okR f t && okR g u) (okR (maxS f g) (minE t u)) (maxS f g) (minE t u)
    rw [hv] at C1 C2
    generalize (if (okR f t && okR g u) = true then outL f t g u else []) = ps at C3 C4 hlen
    generalize ((okR f t && okR g u) && lessR t g) = b3 at C5 C6
    generalize ((okR f t && okR g u) && insideR f t g u) = b4 at C7 C8
    generalize ckI (okR f t && okR g u) = e2 at C3 C4 C5 C6 C7 C8
    have N := ne_self rx ry
    clear hv hf ht hg hu
    have x0 := a.c0
    have x1 := a.c1
    have x2 := a.c2
    have x3 := a.c3
    go_enter Tryd.func8, Tryd.ntmps8
    go_wp2_with (go_at_call 11; refine (short_any _ _ _).mono ?_; rintro e w1 ⟨rfl, hb⟩; replace a := a.below hb; have x0 := a.c0; have x1 := a.c1; have x2 := a.c2; have x3 := a.c3)
    refine (C1 _).mono ?_
    rintro e w3 ⟨rfl, hb⟩
    have R := Whole.new w3 23 #[.string rx, .string ry]
    replace a := (a.below hb).alloc (.cells #[.string rx, .string ry] 23)
    clear x0 x1 x2 x3 hb
    have x0 := a.c0
    have x1 := a.c1
    have x2 := a.c2
    have x3 := a.c3
    go_wp2_with fail
    refine (C2 _).mono ?_
    rintro e w4 ⟨rfl, hb⟩
    have D := Whole.new w4 23 #[.string rx, .string ry]
    replace R := (R.below hb R.lt).alloc (.cells #[.string rx, .string ry] 23)
    replace a := (a.below hb).alloc (.cells #[.string rx, .string ry] 23)
    clear x0 x1 x2 x3 hb
    have x0 := a.c0
    have x1 := a.c1
    have x2 := a.c2
    have x3 := a.c3
    go_wp2_with fail
    refine (C3 _).mono ?_
    rintro e w5 ⟨v, rfl, ho, hb⟩
    replace R := R.below hb R.lt
    replace D := D.below hb D.lt
    replace a := a.below hb
    clear x0 x1 x2 x3 hb
    have x0 := a.c0
    have x1 := a.c1
    have x2 := a.c2
    have x3 := a.c3
    go_wp2_with fail
    refine (C4 _).mono ?_
    rintro e w6 ⟨v', rfl, ho', hb⟩
    replace R := R.below hb R.lt
    replace D := D.below hb D.lt
    replace ho := ho.below hb
    replace a := a.below hb
    clear x0 x1 x2 x3 hb
    have x0 := a.c0
    have x1 := a.c1
    have x2 := a.c2
    have x3 := a.c3
    have r0 := R.cell 0
    have r1 := R.cell 1
    have q0 := D.cell 0
    have q1 := D.cell 1
    simp only [List.getElem?_toArray, List.getElem?_cons_succ, List.getElem?_cons_zero] at r0 r1 q0 q1
    have SM := Lib.hid (same_any v v' ps w6 hlen ho ho')
    clear ho ho' hlen C1 C2 C3 C4 R D
    go_wp2_with fail
    refine SM.out.mono ?_
    rintro e w7 ⟨rfl, hb⟩
    replace a := a.below hb
    clear x0 x1 x2 x3 hb r0 r1 q0 q1 SM N
    have x0 := a.c0
    have x1 := a.c1
    have x2 := a.c2
    have x3 := a.c3
    go_wp2_with fail
    refine (C5 _).mono ?_
    rintro e w8 ⟨rfl, hb⟩
    replace a := a.below hb
    clear x0 x1 x2 x3 hb
    have x0 := a.c0
    have x1 := a.c1
    have x2 := a.c2
    have x3 := a.c3
    go_wp2_with fail
    refine (C6 _).mono ?_
    rintro e w8 ⟨rfl, hb⟩
    replace a := a.below hb
    clear x0 x1 x2 x3 hb
    have x0 := a.c0
    have x1 := a.c1
    have x2 := a.c2
    have x3 := a.c3
    go_wp2_with fail
    refine (C7 _).mono ?_
    rintro e w8 ⟨rfl, hb⟩
    replace a := a.below hb
    clear x0 x1 x2 x3 hb
    have x0 := a.c0
    have x1 := a.c1
    have x2 := a.c2
    have x3 := a.c3
    go_wp2_with fail
    refine (C8 _).mono ?_
    rintro e w8 ⟨rfl, hb⟩
    replace a := a.below hb
    clear x0 x1 x2 x3 hb
    have x0 := a.c0
    have x1 := a.c1
    have x2 := a.c2
    have x3 := a.c3
    go_wp2_with (go_at_call 12; refine (works_any _ (a.shaped HS.out)).mono ?_; rintro e w2 ⟨rfl, hb2⟩; have bF := a.last hb2)
    go_ret
    exact ⟨rfl, bF⟩
end Go.Proofs.YthngliafkhalfaaDoor
