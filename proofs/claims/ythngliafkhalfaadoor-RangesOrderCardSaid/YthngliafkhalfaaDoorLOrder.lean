/- RangesOrder returns true; memory that lay stays. Condition: the types' shapes lie as the program's start lays them. -/
import Derived.Test.YthngliafkhalfaaDoorAB
namespace Go.Proofs.YthngliafkhalfaaDoor
open Go.RowKit

set_option maxRecDepth 100000 in
set_option maxHeartbeats 16000000 in
theorem order_law (f t g u x y : ByteArray) (w : World) (hf : f.size ≤ 9223372036854775807) (ht : t.size ≤ 9223372036854775807) (hg : g.size ≤ 9223372036854775807) (hu : u.size ≤ 9223372036854775807) (hx : x.size ≤ 9223372036854775807) (hy : y.size ≤ 9223372036854775807) (hsh : w.ShapedOpen Tryd.prog) :
    Calls Tryd.prog 9 #[.agg #[.string f, .string t], .agg #[.string g, .string u], .string x, .string y] w fun e w' => e = .returned (.bool true) ∧ Below w.heap.size w w' := by
  have HS := Lib.hid hsh
  have a := AB.start w f t g u
  clear hsh
  cases hs1 : sh f t with
  | false =>
    go_enter Tryd.func9, Tryd.ntmps9
    go_wp2_with (first
      | (go_at_call 11; refine (short_any _ _ _).mono ?_; rintro e w1 ⟨rfl, hb⟩; replace a := a.below hb; have x0 := a.c0; have x1 := a.c1; have x2 := a.c2; have x3 := a.c3)
      | (go_at_call 12; refine (works_any _ (a.shaped HS.out)).mono ?_; rintro e w2 ⟨rfl, hb2⟩; have bF := a.last hb2))
    go_ret
    exact ⟨rfl, bF⟩
  | true =>
  cases hs2 : sh g u with
  | false =>
    have x0 := a.c0
    have x1 := a.c1
    have x2 := a.c2
    have x3 := a.c3
    go_enter Tryd.func9, Tryd.ntmps9
    go_wp2_with (first
      | (go_at_call 11; refine (short_any _ _ _).mono ?_; rintro e w1 ⟨rfl, hb⟩; replace a := a.below hb; have x0 := a.c0; have x1 := a.c1; have x2 := a.c2; have x3 := a.c3)
      | (go_at_call 12; refine (works_any _ (a.shaped HS.out)).mono ?_; rintro e w2 ⟨rfl, hb2⟩; have bF := a.last hb2))
    go_ret
    exact ⟨rfl, bF⟩
  | true =>
  by_cases hxs : x.size ≤ 100
  · by_cases hys : y.size ≤ 100
    · have x0 := a.c0
      have x1 := a.c1
      have x2 := a.c2
      have x3 := a.c3
      have C1 := fun W => less_any f t g u W hf ht hg hu
      have C2 := fun W => less_any g u f t W hg hu hf ht
      have C3 := fun W => inside_any f t g u W hf ht hg hu
      have C4 := fun W => meet_any f t g u W hf ht hg hu
      rw [Bool.and_comm (okR g u)] at C2
      cases ho : okR f t && okR g u with
      | false =>
        rw [ho] at C1 C2 C3 C4
        simp only [Bool.false_and, ckI, meetV, Bool.false_eq_true, if_false] at C1 C2 C3 C4
        go_enter Tryd.func9, Tryd.ntmps9
        go_wp2_with (first
          | (go_at_call 11; refine (short_any _ _ _).mono ?_; rintro e w1 ⟨rfl, hb⟩; replace a := a.below hb; have x0 := a.c0; have x1 := a.c1; have x2 := a.c2; have x3 := a.c3))
        refine (C1 _).mono ?_
        rintro e w3 ⟨rfl, hb⟩
        replace a := a.below hb
        clear x0 x1 x2 x3 hb
        have x0 := a.c0
        have x1 := a.c1
        have x2 := a.c2
        have x3 := a.c3
        go_wp2_with fail
        refine (C2 _).mono ?_
        rintro e w3 ⟨rfl, hb⟩
        replace a := a.below hb
        clear x0 x1 x2 x3 hb
        have x0 := a.c0
        have x1 := a.c1
        have x2 := a.c2
        have x3 := a.c3
        go_wp2_with fail
        refine (C3 _).mono ?_
        rintro e w3 ⟨rfl, hb⟩
        replace a := a.below hb
        clear x0 x1 x2 x3 hb
        have x0 := a.c0
        have x1 := a.c1
        have x2 := a.c2
        have x3 := a.c3
        go_wp2_with fail
        refine (C4 _).mono ?_
        rintro e w3 ⟨rfl, hb⟩
        replace a := (a.below hb).alloc (.cells #[.string ⟨#[]⟩, .string ⟨#[]⟩] 23)
        clear x0 x1 x2 x3 hb
        have x0 := a.c0
        have x1 := a.c1
        have x2 := a.c2
        have x3 := a.c3
        go_wp2_with (first
          | (go_at_call 12; refine (works_any _ (a.shaped HS.out)).mono ?_; rintro e w2 ⟨rfl, hb2⟩; have bF := a.last hb2))
        go_ret
        exact ⟨rfl, bF⟩
      | true =>
        rw [ho] at C1 C2 C3 C4
        have ho' := ho
        rw [Bool.and_eq_true] at ho'
        obtain ⟨K1, K2, K3, K4, K5⟩ := orders_law f t g u x y ho'.1 ho'.2
        clear ho ho'
        generalize lessR t g = l1 at *
        generalize lessR u f = l2 at *
        generalize insideR f t g u = i1 at *
        generalize okR (maxS f g) (minE t u) = m at *
        have HM := fun W => has_any f t x W hf ht hx
        have HN := fun W => has_any g u y W hg hu hy
        have HO := fun W => has_any g u x W hg hu hx
        generalize hasR f t x = h1 at *
        generalize hasR g u y = h2 at *
        generalize hasR g u x = h3 at *
        replace K4 := Lib.hid K4
        replace K5 := Lib.hid K5
        cases m with
        | true =>
          obtain ⟨rfl, rfl⟩ := K2 rfl
          simp only [Bool.true_and, Bool.and_false, ckI, meetV, if_true] at C1 C2 C3 C4
          clear K1 K2 K3 K4
          go_enter Tryd.func9, Tryd.ntmps9
          go_wp2_with (first
            | (go_at_call 11; refine (short_any _ _ _).mono ?_; rintro e w1 ⟨rfl, hb⟩; replace a := a.below hb; have x0 := a.c0; have x1 := a.c1; have x2 := a.c2; have x3 := a.c3))
          refine (C1 _).mono ?_
          rintro e w3 ⟨rfl, hb⟩
          replace a := a.below hb
          clear x0 x1 x2 x3 hb
          have x0 := a.c0
          have x1 := a.c1
          have x2 := a.c2
          have x3 := a.c3
          go_wp2_with fail
          refine (C2 _).mono ?_
          rintro e w3 ⟨rfl, hb⟩
          replace a := a.below hb
          clear x0 x1 x2 x3 hb
          have x0 := a.c0
          have x1 := a.c1
          have x2 := a.c2
          have x3 := a.c3
          go_wp2_with fail
          refine (C3 _).mono ?_
          rintro e w3 ⟨rfl, hb⟩
          replace a := a.below hb
          clear x0 x1 x2 x3 hb
          have x0 := a.c0
          have x1 := a.c1
          have x2 := a.c2
          have x3 := a.c3
          go_wp2_with fail
          refine (C4 _).mono ?_
          rintro e w3 ⟨rfl, hb⟩
          replace a := (a.below hb).alloc (.cells #[.string (maxS f g), .string (minE t u)] 23)
          clear x0 x1 x2 x3 hb
          have x0 := a.c0
          have x1 := a.c1
          have x2 := a.c2
          have x3 := a.c3
          cases h1 with
          | false =>
            go_wp2_with (first
              | (go_at_call 16; refine (HM _).mono ?_; rintro e w1 ⟨rfl, hb⟩; replace a := a.below hb; have x0 := a.c0; have x1 := a.c1; have x2 := a.c2; have x3 := a.c3)
              | (go_at_call 12; refine (works_any _ (a.shaped HS.out)).mono ?_; rintro e w2 ⟨rfl, hb2⟩; have bF := a.last hb2))
            go_ret
            exact ⟨rfl, bF⟩
          | true =>
            go_wp2_with fail
            refine (HM _).mono ?_
            rintro e w4 ⟨rfl, hb⟩
            replace a := a.below hb
            clear x0 x1 x2 x3 hb
            have x0 := a.c0
            have x1 := a.c1
            have x2 := a.c2
            have x3 := a.c3
            cases i1 with
            | false =>
              go_wp2_with (first
                | (go_at_call 12; refine (works_any _ (a.shaped HS.out)).mono ?_; rintro e w2 ⟨rfl, hb2⟩; have bF := a.last hb2))
              go_ret
              exact ⟨rfl, bF⟩
            | true =>
              obtain rfl : h3 = true := K5.out (by simp) (by simp)
              go_wp2_with fail
              refine (HO _).mono ?_
              rintro e w5 ⟨rfl, hb⟩
              replace a := a.below hb
              clear x0 x1 x2 x3 hb
              have x0 := a.c0
              have x1 := a.c1
              have x2 := a.c2
              have x3 := a.c3
              go_wp2_with (first
                | (go_at_call 12; refine (works_any _ (a.shaped HS.out)).mono ?_; rintro e w2 ⟨rfl, hb2⟩; have bF := a.last hb2))
              go_ret
              exact ⟨rfl, bF⟩
        | false =>
          cases l1 with
          | false =>
            obtain rfl : l2 = true := K3 rfl rfl
            simp only [Bool.true_and, Bool.and_true, Bool.and_false, ckI, meetV, Bool.false_eq_true, if_false] at C1 C2 C3 C4
            clear K1 K2 K3 K4
            go_enter Tryd.func9, Tryd.ntmps9
            go_wp2_with (first
              | (go_at_call 11; refine (short_any _ _ _).mono ?_; rintro e w1 ⟨rfl, hb⟩; replace a := a.below hb; have x0 := a.c0; have x1 := a.c1; have x2 := a.c2; have x3 := a.c3))
            refine (C1 _).mono ?_
            rintro e w3 ⟨rfl, hb⟩
            replace a := a.below hb
            clear x0 x1 x2 x3 hb
            have x0 := a.c0
            have x1 := a.c1
            have x2 := a.c2
            have x3 := a.c3
            go_wp2_with fail
            refine (C2 _).mono ?_
            rintro e w3 ⟨rfl, hb⟩
            replace a := a.below hb
            clear x0 x1 x2 x3 hb
            have x0 := a.c0
            have x1 := a.c1
            have x2 := a.c2
            have x3 := a.c3
            go_wp2_with fail
            refine (C3 _).mono ?_
            rintro e w3 ⟨rfl, hb⟩
            replace a := a.below hb
            clear x0 x1 x2 x3 hb
            have x0 := a.c0
            have x1 := a.c1
            have x2 := a.c2
            have x3 := a.c3
            go_wp2_with fail
            refine (C4 _).mono ?_
            rintro e w3 ⟨rfl, hb⟩
            replace a := (a.below hb).alloc (.cells #[.string ⟨#[]⟩, .string ⟨#[]⟩] 23)
            clear x0 x1 x2 x3 hb
            have x0 := a.c0
            have x1 := a.c1
            have x2 := a.c2
            have x3 := a.c3
            cases h1 with
            | false =>
              go_wp2_with (first
                | (go_at_call 16; refine (HM _).mono ?_; rintro e w1 ⟨rfl, hb⟩; replace a := a.below hb; have x0 := a.c0; have x1 := a.c1; have x2 := a.c2; have x3 := a.c3)
                | (go_at_call 12; refine (works_any _ (a.shaped HS.out)).mono ?_; rintro e w2 ⟨rfl, hb2⟩; have bF := a.last hb2))
              go_ret
              exact ⟨rfl, bF⟩
            | true =>
              go_wp2_with fail
              refine (HM _).mono ?_
              rintro e w4 ⟨rfl, hb⟩
              replace a := a.below hb
              clear x0 x1 x2 x3 hb
              have x0 := a.c0
              have x1 := a.c1
              have x2 := a.c2
              have x3 := a.c3
              cases i1 with
              | false =>
                go_wp2_with (first
                  | (go_at_call 12; refine (works_any _ (a.shaped HS.out)).mono ?_; rintro e w2 ⟨rfl, hb2⟩; have bF := a.last hb2))
                go_ret
                exact ⟨rfl, bF⟩
              | true =>
                obtain rfl : h3 = true := K5.out (by simp) (by simp)
                go_wp2_with fail
                refine (HO _).mono ?_
                rintro e w5 ⟨rfl, hb⟩
                replace a := a.below hb
                clear x0 x1 x2 x3 hb
                have x0 := a.c0
                have x1 := a.c1
                have x2 := a.c2
                have x3 := a.c3
                go_wp2_with (first
                  | (go_at_call 12; refine (works_any _ (a.shaped HS.out)).mono ?_; rintro e w2 ⟨rfl, hb2⟩; have bF := a.last hb2))
                go_ret
                exact ⟨rfl, bF⟩
          | true =>
            obtain rfl : l2 = false := by
              cases l2 with
              | false => rfl
              | true => exact absurd ⟨rfl, rfl⟩ K1
            simp only [Bool.true_and, Bool.and_true, Bool.and_false, ckI, meetV, Bool.false_eq_true, if_false] at C1 C2 C3 C4
            clear K1 K2 K3
            go_enter Tryd.func9, Tryd.ntmps9
            go_wp2_with (first
              | (go_at_call 11; refine (short_any _ _ _).mono ?_; rintro e w1 ⟨rfl, hb⟩; replace a := a.below hb; have x0 := a.c0; have x1 := a.c1; have x2 := a.c2; have x3 := a.c3))
            refine (C1 _).mono ?_
            rintro e w3 ⟨rfl, hb⟩
            replace a := a.below hb
            clear x0 x1 x2 x3 hb
            have x0 := a.c0
            have x1 := a.c1
            have x2 := a.c2
            have x3 := a.c3
            go_wp2_with fail
            refine (C2 _).mono ?_
            rintro e w3 ⟨rfl, hb⟩
            replace a := a.below hb
            clear x0 x1 x2 x3 hb
            have x0 := a.c0
            have x1 := a.c1
            have x2 := a.c2
            have x3 := a.c3
            go_wp2_with fail
            refine (C3 _).mono ?_
            rintro e w3 ⟨rfl, hb⟩
            replace a := a.below hb
            clear x0 x1 x2 x3 hb
            have x0 := a.c0
            have x1 := a.c1
            have x2 := a.c2
            have x3 := a.c3
            go_wp2_with fail
            refine (C4 _).mono ?_
            rintro e w3 ⟨rfl, hb⟩
            replace a := (a.below hb).alloc (.cells #[.string ⟨#[]⟩, .string ⟨#[]⟩] 23)
            clear x0 x1 x2 x3 hb
            have x0 := a.c0
            have x1 := a.c1
            have x2 := a.c2
            have x3 := a.c3
            cases h1 with
            | false =>
              go_wp2_with (first
                | (go_at_call 16; refine (HM _).mono ?_; rintro e w1 ⟨rfl, hb⟩; replace a := a.below hb; have x0 := a.c0; have x1 := a.c1; have x2 := a.c2; have x3 := a.c3)
                | (go_at_call 12; refine (works_any _ (a.shaped HS.out)).mono ?_; rintro e w2 ⟨rfl, hb2⟩; have bF := a.last hb2))
              go_ret
              exact ⟨rfl, bF⟩
            | true =>
              go_wp2_with fail
              refine (HM _).mono ?_
              rintro e w4 ⟨rfl, hb⟩
              replace a := a.below hb
              clear x0 x1 x2 x3 hb
              have x0 := a.c0
              have x1 := a.c1
              have x2 := a.c2
              have x3 := a.c3
              go_wp2_with fail
              refine (HN _).mono ?_
              rintro e w5 ⟨rfl, hb⟩
              replace a := a.below hb
              clear x0 x1 x2 x3 hb
              have x0 := a.c0
              have x1 := a.c1
              have x2 := a.c2
              have x3 := a.c3
              cases h2 with
              | false =>
                cases i1 with
                | false =>
                  go_wp2_with (first
                    | (go_at_call 12; refine (works_any _ (a.shaped HS.out)).mono ?_; rintro e w2 ⟨rfl, hb2⟩; have bF := a.last hb2))
                  go_ret
                  exact ⟨rfl, bF⟩
                | true =>
                  obtain rfl : h3 = true := K5.out (by simp) (by simp)
                  go_wp2_with fail
                  refine (HO _).mono ?_
                  rintro e w5 ⟨rfl, hb⟩
                  replace a := a.below hb
                  clear x0 x1 x2 x3 hb
                  have x0 := a.c0
                  have x1 := a.c1
                  have x2 := a.c2
                  have x3 := a.c3
                  go_wp2_with (first
                    | (go_at_call 12; refine (works_any _ (a.shaped HS.out)).mono ?_; rintro e w2 ⟨rfl, hb2⟩; have bF := a.last hb2))
                  go_ret
                  exact ⟨rfl, bF⟩
              | true =>
                have hxy := K4.out (by simp) (by simp) (by simp)
                cases i1 with
                | false =>
                  go_wp2_with (first
                    | (go_at_call 12; refine (works_any _ (a.shaped HS.out)).mono ?_; rintro e w2 ⟨rfl, hb2⟩; have bF := a.last hb2))
                  go_ret
                  exact ⟨rfl, bF⟩
                | true =>
                  obtain rfl : h3 = true := K5.out (by simp) (by simp)
                  go_wp2_with fail
                  refine (HO _).mono ?_
                  rintro e w5 ⟨rfl, hb⟩
                  replace a := a.below hb
                  clear x0 x1 x2 x3 hb
                  have x0 := a.c0
                  have x1 := a.c1
                  have x2 := a.c2
                  have x3 := a.c3
                  go_wp2_with (first
                    | (go_at_call 12; refine (works_any _ (a.shaped HS.out)).mono ?_; rintro e w2 ⟨rfl, hb2⟩; have bF := a.last hb2))
                  go_ret
                  exact ⟨rfl, bF⟩
    · have x0 := a.c0
      have x1 := a.c1
      have x2 := a.c2
      have x3 := a.c3
      go_enter Tryd.func9, Tryd.ntmps9
      go_wp2_with (first
        | (go_at_call 11; refine (short_any _ _ _).mono ?_; rintro e w1 ⟨rfl, hb⟩; replace a := a.below hb; have x0 := a.c0; have x1 := a.c1; have x2 := a.c2; have x3 := a.c3)
        | (go_at_call 12; refine (works_any _ (a.shaped HS.out)).mono ?_; rintro e w2 ⟨rfl, hb2⟩; have bF := a.last hb2))
      go_ret
      exact ⟨rfl, bF⟩
  · have x0 := a.c0
    have x1 := a.c1
    have x2 := a.c2
    have x3 := a.c3
    go_enter Tryd.func9, Tryd.ntmps9
    go_wp2_with (first
      | (go_at_call 11; refine (short_any _ _ _).mono ?_; rintro e w1 ⟨rfl, hb⟩; replace a := a.below hb; have x0 := a.c0; have x1 := a.c1; have x2 := a.c2; have x3 := a.c3)
      | (go_at_call 12; refine (works_any _ (a.shaped HS.out)).mono ?_; rintro e w2 ⟨rfl, hb2⟩; have bF := a.last hb2))
    go_ret
    exact ⟨rfl, bF⟩
end Go.Proofs.YthngliafkhalfaaDoor
