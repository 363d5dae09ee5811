/- RangesKeys returns true; memory that lay stays. Condition: the types' shapes lie as the program's start lays them. -/
import Derived.Test.YthngliafkhalfaaDoorAB
namespace Go.Proofs.YthngliafkhalfaaDoor
open Go.RowKit

theorem eq_self (a b : ByteArray) (W : World) : (binOp .eql 23 (.agg #[.string a, .string b]) (.agg #[.string a, .string b])).run Tryd.prog W = .ok (.bool true) W := by
  rw [rng_eq]; simp
theorem keys_list (f t g u k : ByteArray) (ha : okR f t = true) (hb : okR g u = true) :
    (∀ p ∈ outL f t g u, okR p.1 p.2 = true) ∧ ((outL f t g u).filter fun p => hasR p.1 p.2 k).length = (if (hasR f t k && !hasR g u k) = true then 1 else 0) ∧ (outL f t g u).length ≤ 2 := by
  obtain ⟨_, h2, h3, h4⟩ := keys_law f t g u k ha hb
  rw [← h4]
  unfold outL
  cases c1 : Op.bytesLess f.toList g.toList <;> cases c2 : endLt u t
  · simp
  · refine ⟨fun p hp => ?_, ?_, by simp⟩
    · simp at hp; rw [hp]; exact h3 c2
    · cases h : hasR (maxS f u) t k <;> simp [h]
  · refine ⟨fun p hp => ?_, ?_, by simp⟩
    · simp at hp; rw [hp]; exact h2 c1
    · cases h : hasR f (minE g t) k <;> simp [h]
  · refine ⟨fun p hp => ?_, ?_, by simp⟩
    · simp at hp; rcases hp with rfl | rfl
      · exact h2 c1
      · exact h3 c2
    · cases h : hasR (maxS f u) t k <;> cases h' : hasR f (minE g t) k <;> simp [h, h']
theorem outL_fit {f t g u : ByteArray} (hf : f.size ≤ 9223372036854775807) (ht : t.size ≤ 9223372036854775807) (hg : g.size ≤ 9223372036854775807) (hu : u.size ≤ 9223372036854775807) : ∀ p ∈ outL f t g u, fitR p := by
  intro p hp
  unfold outL at hp
  rw [List.mem_append] at hp
  rcases hp with hp | hp
  · split at hp
    · rw [List.mem_singleton] at hp; rw [hp]; exact ⟨hf, minE_sz hg ht⟩
    · cases hp
  · split at hp
    · rw [List.mem_singleton] at hp; rw [hp]; exact ⟨maxS_sz hf hu, ht⟩
    · cases hp

set_option maxRecDepth 100000 in
set_option maxHeartbeats 16000000 in
theorem keys_walk (f t g u k : ByteArray) (w : World) (hf : f.size ≤ 9223372036854775807) (ht : t.size ≤ 9223372036854775807) (hg : g.size ≤ 9223372036854775807) (hu : u.size ≤ 9223372036854775807) (hk : k.size ≤ 9223372036854775807) (hsh : w.ShapedOpen Tryd.prog) :
    Calls Tryd.prog 3 #[.agg #[.string f, .string t], .agg #[.string g, .string u], .string k] w fun e w' => e = .returned (.bool true) ∧ Below w.heap.size w w' := by
  have HS := Lib.hid hsh
  have a := AB.start w f t g u
  clear hsh
  cases hs1 : sh f t with
  | false =>
    go_enter Tryd.func3, Tryd.ntmps3
    go_wp2_with (first
      | (go_at_call 11; refine (short_any _ _ _).mono ?_; rintro e w1 ⟨rfl, hb⟩; replace a := a.below hb; have x0 := a.c0; have x1 := a.c1; have x2 := a.c2; have x3 := a.c3)
      | (go_at_call 12; refine (works_any _ (a.shaped HS.out)).mono ?_; rintro e w2 ⟨rfl, hb2⟩; have bF := a.last hb2))
    go_ret
    exact ⟨rfl, bF⟩
  | true =>
  cases hs2 : sh g u with
  | false =>
    have x0 := a.c0
    have x1 := a.c1
    have x2 := a.c2
    have x3 := a.c3
    go_enter Tryd.func3, Tryd.ntmps3
    go_wp2_with (first
      | (go_at_call 11; refine (short_any _ _ _).mono ?_; rintro e w1 ⟨rfl, hb⟩; replace a := a.below hb; have x0 := a.c0; have x1 := a.c1; have x2 := a.c2; have x3 := a.c3)
      | (go_at_call 12; refine (works_any _ (a.shaped HS.out)).mono ?_; rintro e w2 ⟨rfl, hb2⟩; have bF := a.last hb2))
    go_ret
    exact ⟨rfl, bF⟩
  | true =>
  by_cases hks : k.size ≤ 100
  · have C1 := fun W => meet_any f t g u W hf ht hg hu
    have C2 := fun W => without_any f t g u W hf ht hg hu
    have x0 := a.c0
    have x1 := a.c1
    have x2 := a.c2
    have x3 := a.c3
    cases ho : okR f t && okR g u with
    | false =>
      rw [ho] at C1 C2
      simp only [Bool.false_and, ckI, meetV, Bool.false_eq_true, if_false] at C1 C2
      have N := eq_self ⟨#[]⟩ ⟨#[]⟩
      go_enter Tryd.func3, Tryd.ntmps3
      go_wp2_with (first
        | (go_at_call 11; refine (short_any _ _ _).mono ?_; rintro e w1 ⟨rfl, hb⟩; replace a := a.below hb; have x0 := a.c0; have x1 := a.c1; have x2 := a.c2; have x3 := a.c3))
      refine (C1 _).mono ?_
      rintro e w3 ⟨rfl, hb⟩
      have R := Whole.new w3 23 #[.string ⟨#[]⟩, .string ⟨#[]⟩]
      replace a := (a.below hb).alloc (.cells #[.string ⟨#[]⟩, .string ⟨#[]⟩] 23)
      clear x0 x1 x2 x3 hb
      have x0 := a.c0
      have x1 := a.c1
      have x2 := a.c2
      have x3 := a.c3
      go_wp2_with fail
      refine (C2 _).mono ?_
      rintro e w4 ⟨v, rfl, ⟨_, rfl⟩ | ⟨hne, _⟩, hb⟩
      · replace R := R.below hb R.lt
        replace a := a.below hb
        have r0 := R.cell 0
        have r1 := R.cell 1
        simp only [List.getElem?_toArray, List.getElem?_cons_succ, List.getElem?_cons_zero] at r0 r1
        clear x0 x1 x2 x3 hb
        have x0 := a.c0
        have x1 := a.c1
        have x2 := a.c2
        have x3 := a.c3
        cases ho1 : okR f t with
        | false =>
          have CK := fun W => check_any f t W hf ht
          rw [ho1] at CK
          simp only [ckI] at CK
          go_wp2_with (first
            | (go_at_call 15; refine (CK _).mono ?_; rintro e w1 ⟨rfl, hb⟩; replace a := a.below hb; have x0 := a.c0; have x1 := a.c1; have x2 := a.c2; have x3 := a.c3)
            | (go_at_call 12; refine (works_any _ (a.shaped HS.out)).mono ?_; rintro e w2 ⟨rfl, hb2⟩; have bF := a.last hb2))
          go_ret
          exact ⟨rfl, bF⟩
        | true =>
          have ho2 : okR g u = false := by rw [ho1] at ho; simpa using ho
          have CK := fun W => check_any f t W hf ht
          rw [ho1] at CK
          have CL := fun W => check_any g u W hg hu
          rw [ho2] at CL
          simp only [ckI] at CK CL
          go_wp2_with fail
          refine (CK _).mono ?_
          rintro e w5 ⟨rfl, hb⟩
          replace a := a.below hb
          clear x0 x1 x2 x3 hb
          have x0 := a.c0
          have x1 := a.c1
          have x2 := a.c2
          have x3 := a.c3
          go_wp2_with (first
            | (go_at_call 15; refine (CL _).mono ?_; rintro e w1 ⟨rfl, hb⟩; replace a := a.below hb)
            | (go_at_call 12; refine (works_any _ (a.shaped HS.out)).mono ?_; rintro e w2 ⟨rfl, hb2⟩; have bF := a.last hb2))
          go_ret
          exact ⟨rfl, bF⟩
      · exact absurd rfl hne
    | true =>
      have ho' := ho
      rw [Bool.and_eq_true] at ho'
      obtain ⟨hk0, _, _, _⟩ := keys_law f t g u k ho'.1 ho'.2
      obtain ⟨hall, hcnt, hlen⟩ := keys_list f t g u k ho'.1 ho'.2
      have hfit := outL_fit hf ht hg hu
      have hms := maxS_sz hf hg
      have hns := minE_sz ht hu
      rw [ho] at C1 C2
      simp only [if_true] at C2
      generalize outL f t g u = ps at *
      generalize maxS f g = mx at *
      generalize minE t u = mn at *
      generalize okR mx mn = m at *
      have HM := fun W => has_any f t k W hf ht hk
      have HN := fun W => has_any g u k W hg hu hk
      have HR := fun W => has_any mx mn k W hms hns hk
      generalize hasR f t k = i at *
      generalize hasR g u k = o at *
      generalize hasR mx mn k = r at *
      obtain ⟨rf, rt, hrv⟩ : ∃ rf rt : ByteArray, meetV true m mx mn = .tuple #[.agg #[.string rf, .string rt], .bool m, .int .i64 0] ∧ (m = true → rf = mx ∧ rt = mn) := by
        cases m
        · exact ⟨⟨#[]⟩, ⟨#[]⟩, rfl, fun h => by cases h⟩
        · exact ⟨mx, mn, rfl, fun _ => ⟨rfl, rfl⟩⟩
      obtain ⟨hrv, hrm⟩ := hrv
      rw [hrv] at C1
      simp only [ckI] at C2
      have HALL := Lib.hid hall
      have HCNT := Lib.hid hcnt
      have HFIT := Lib.hid hfit
      have HK0 := Lib.hid hk0
      have HRM := Lib.hid hrm
      have HKS := Lib.hid hk
      have HR' := Lib.hid HR
      clear hall hcnt hfit hk0 hrm ho ho' hrv hms hns HR hf ht hg hu hk
      go_enter Tryd.func3, Tryd.ntmps3
      go_wp2_with (first
        | (go_at_call 11; refine (short_any _ _ _).mono ?_; rintro e w1 ⟨rfl, hb⟩; replace a := a.below hb; have x0 := a.c0; have x1 := a.c1; have x2 := a.c2; have x3 := a.c3))
      refine (C1 _).mono ?_
      rintro e w3 ⟨rfl, hb⟩
      have R := Whole.new w3 23 #[.string rf, .string rt]
      generalize hL : w3.heap.size = L at R
      replace a := (a.below hb).alloc (.cells #[.string rf, .string rt] 23)
      clear x0 x1 x2 x3 hb
      have x0 := a.c0
      have x1 := a.c1
      have x2 := a.c2
      have x3 := a.c3
      go_wp2_with fail
      refine (C2 _).mono ?_
      rintro e w4 ⟨v, rfl, hout, hb⟩
      simp only []
      replace R := R.below hb R.lt
      replace a := a.below hb
      clear x0 x1 x2 x3 hb C1 C2
      have x0 := a.c0
      have x1 := a.c1
      have x2 := a.c2
      have x3 := a.c3
      rcases hout with ⟨rfl, rfl⟩ | ⟨hne, gl, cap, rfl, hc⟩
      · have HCN := Lib.hid (show (0 : Nat) = if (i && !o) = true then 1 else 0 from HCNT.out)
        clear HALL HCNT HFIT
        go_wp2_with fail
        go_loopw [12, 13] (fun c v wr => AB w wr f t g u ∧ Whole wr L 23 #[.string rf, .string rt] ∧ v = .int .i64 0 ∧ c = .int .i64 0) (fun _ _ _ => 0)
        case atStart => exact ⟨a, R, rfl, rfl⟩
        case round =>
        clear a R x0 x1 x2 x3
        obtain ⟨a, R, rfl, rfl⟩ := hrel
        have x0 := a.c0
        have x1 := a.c1
        have x2 := a.c2
        have x3 := a.c3
        go_wp2_with fail
        refine (HM _).mono ?_
        rintro e w6 ⟨rfl, hb⟩
        replace R := R.below hb R.lt
        replace a := a.below hb
        clear x0 x1 x2 x3 hb
        have x0 := a.c0
        have x1 := a.c1
        have x2 := a.c2
        have x3 := a.c3
        go_wp2_with fail
        refine (HN _).mono ?_
        rintro e w6 ⟨rfl, hb⟩
        replace R := R.below hb R.lt
        replace a := a.below hb
        clear x0 x1 x2 x3 hb
        have x0 := a.c0
        have x1 := a.c1
        have x2 := a.c2
        have x3 := a.c3
        have r0 := R.cell 0
        have r1 := R.cell 1
        simp only [List.getElem?_toArray, List.getElem?_cons_succ, List.getElem?_cons_zero] at r0 r1
        cases m with
        | true =>
          obtain ⟨rfl, rfl⟩ := HRM.out rfl
          cases i <;> cases o <;> cases r
          all_goals
            first
            | exact absurd HK0.out (by decide)
            | exact absurd HCN.out (by decide)
            | (skip
               go_wp2_with (first
                 | (go_at_call 16; refine (HR'.out _).mono ?_; rintro e w1 ⟨rfl, hb⟩; replace a := a.below hb)
                 | (go_at_call 12; refine (works_any _ (a.shaped HS.out)).mono ?_; rintro e w2 ⟨rfl, hb2⟩; have bF := a.last hb2))
               go_ret
               exact ⟨rfl, bF⟩)
        | false =>
          cases i <;> cases o <;> cases r
          all_goals
            first
            | exact absurd HK0.out (by decide)
            | exact absurd HCN.out (by decide)
            | (skip
               go_wp2_with (first
                 | (go_at_call 16; refine (HR'.out _).mono ?_; rintro e w1 ⟨rfl, hb⟩; replace a := a.below hb)
                 | (go_at_call 12; refine (works_any _ (a.shaped HS.out)).mono ?_; rintro e w2 ⟨rfl, hb2⟩; have bF := a.last hb2))
               go_ret
               exact ⟨rfl, bF⟩)
      · have hn := hlen
        have HNE := Lib.hid (rfl : ps.length = ps.length)
        clear hne
        generalize hnn : ps.length = n at hn HNE ⊢
        have HN2 := Lib.hid hnn
        have hn2 : ((n : Nat) : Int) ≤ 2 := by omega
        replace hc := Lib.hid (show CellsR w4 gl 0 ps from hc)
        clear hnn hlen
        go_wp2_with fail
        go_loopw [12, 13] (fun c v wr => AB w wr f t g u ∧ Whole wr L 23 #[.string rf, .string rt] ∧ Hid (CellsR wr gl 0 ps) ∧ ∃ j q : Nat, j ≤ n ∧ v = .int .i64 j ∧ c = .int .i64 q ∧ q ≤ j ∧ Hid (((ps.take j).filter fun p => hasR p.1 p.2 k).length = q)) (fun _ v _ => n - (intOf v).toNat)
        case atStart => exact ⟨a, R, hc, 0, 0, Nat.zero_le _, rfl, rfl, Nat.le_refl _, Lib.hid rfl⟩
        case round =>
          clear a R hc x0 x1 x2 x3
          obtain ⟨a, R, hc, j, q, hj, rfl, rfl, hqj, hcq⟩ := hrel
          by_cases hlt : j < n
          · have hlt' : j < ps.length := by rw [HN2.out]; exact hlt
            have hg : ps[j]? = some ps[j] := List.getElem?_eq_getElem hlt'
            obtain ⟨c0, c1⟩ := hc.out j _ hg
            have f0 := HFIT.out _ (List.getElem_mem hlt')
            have ok0 := HALL.out _ (List.getElem_mem hlt')
            have hsn := Lib.hid (List.take_succ_eq_append_getElem hlt')
            generalize ps[j] = p at c0 c1 f0 ok0 hsn
            obtain ⟨px, py⟩ := p
            have CP := fun W => check_any px py W f0.1 f0.2
            rw [show okR px py = true from ok0] at CP
            simp only [ckI] at CP
            have HP := fun W => has_any px py k W f0.1 f0.2 HKS.out
            simp only [Nat.zero_add] at c0 c1
            go_wp2_with fail
            refine (CP _).mono ?_
            rintro e w5 ⟨rfl, hb⟩
            replace a := a.below hb
            replace R := R.below hb R.lt
            replace hc := Lib.hid (hc.out.below hb (Nat.le_refl _))
            have d0 := (hb.cell (lt_of_cellR c0)).trans c0
            have d1 := (hb.cell (lt_of_cellR c1)).trans c1
            clear c0 c1 hb hg CP
            go_wp2_with fail
            refine (HP _).mono ?_
            rintro e w6 ⟨rfl, hb⟩
            replace a := a.below hb
            replace R := R.below hb R.lt
            replace hc := Lib.hid (hc.out.below hb (Nat.le_refl _))
            clear d0 d1 hb HP
            cases hh : hasR px py k with
            | true =>
              have hq' := Lib.hid (show ((ps.take (j + 1)).filter fun p => hasR p.1 p.2 k).length = q + 1 by rw [hsn.out, List.filter_append, List.length_append, hcq.out]; simp [hh])
              go_wp2_with fail
              go_roundw
              case rel => exact ⟨a, R, hc, j + 1, q + 1, by omega, by go_num, by go_num, by omega, hq'⟩
              case measure => simp [intOf]; omega
            | false =>
              have hq' := Lib.hid (show ((ps.take (j + 1)).filter fun p => hasR p.1 p.2 k).length = q by rw [hsn.out, List.filter_append, List.length_append, hcq.out]; simp [hh])
              go_wp2_with fail
              go_roundw
              case rel => exact ⟨a, R, hc, j + 1, q, by omega, by go_num, rfl, by omega, hq'⟩
              case measure => simp [intOf]; omega
          · have x0 := a.c0
            have x1 := a.c1
            have x2 := a.c2
            have x3 := a.c3
            have HCN := Lib.hid (show q = if (i && !o) = true then 1 else 0 from (by have h1 := hcq.out; rw [List.take_of_length_le (by rw [HN2.out]; omega), HCNT.out] at h1; exact h1.symm))
            clear hcq HALL HCNT HFIT hc
            go_wp2_with fail
            refine (HM _).mono ?_
            rintro e w6 ⟨rfl, hb⟩
            replace R := R.below hb R.lt
            replace a := a.below hb
            clear x0 x1 x2 x3 hb
            have x0 := a.c0
            have x1 := a.c1
            have x2 := a.c2
            have x3 := a.c3
            go_wp2_with fail
            refine (HN _).mono ?_
            rintro e w6 ⟨rfl, hb⟩
            replace R := R.below hb R.lt
            replace a := a.below hb
            clear x0 x1 x2 x3 hb
            have x0 := a.c0
            have x1 := a.c1
            have x2 := a.c2
            have x3 := a.c3
            have r0 := R.cell 0
            have r1 := R.cell 1
            simp only [List.getElem?_toArray, List.getElem?_cons_succ, List.getElem?_cons_zero] at r0 r1
            cases m with
            | true =>
              obtain ⟨rfl, rfl⟩ := HRM.out rfl
              cases i <;> cases o <;> cases r
              all_goals
                first
                | exact absurd HK0.out (by decide)
                | (first
                   | (obtain rfl : q = 0 := HCN.out)
                   | (obtain rfl : q = 1 := HCN.out)
                   skip
                   go_wp2_with (first
                     | (go_at_call 16; refine (HR'.out _).mono ?_; rintro e w1 ⟨rfl, hb⟩; replace a := a.below hb)
                     | (go_at_call 12; refine (works_any _ (a.shaped HS.out)).mono ?_; rintro e w2 ⟨rfl, hb2⟩; have bF := a.last hb2))
                   go_ret
                   exact ⟨rfl, bF⟩)
            | false =>
              cases i <;> cases o <;> cases r
              all_goals
                first
                | exact absurd HK0.out (by decide)
                | (first
                   | (obtain rfl : q = 0 := HCN.out)
                   | (obtain rfl : q = 1 := HCN.out)
                   skip
                   go_wp2_with (first
                     | (go_at_call 16; refine (HR'.out _).mono ?_; rintro e w1 ⟨rfl, hb⟩; replace a := a.below hb)
                     | (go_at_call 12; refine (works_any _ (a.shaped HS.out)).mono ?_; rintro e w2 ⟨rfl, hb2⟩; have bF := a.last hb2))
                   go_ret
                   exact ⟨rfl, bF⟩)
  · have x0 := a.c0
    have x1 := a.c1
    have x2 := a.c2
    have x3 := a.c3
    go_enter Tryd.func3, Tryd.ntmps3
    go_wp2_with (first
      | (go_at_call 11; refine (short_any _ _ _).mono ?_; rintro e w1 ⟨rfl, hb⟩; replace a := a.below hb; have x0 := a.c0; have x1 := a.c1; have x2 := a.c2; have x3 := a.c3)
      | (go_at_call 12; refine (works_any _ (a.shaped HS.out)).mono ?_; rintro e w2 ⟨rfl, hb2⟩; have bF := a.last hb2))
    go_ret
    exact ⟨rfl, bF⟩
end Go.Proofs.YthngliafkhalfaaDoor
