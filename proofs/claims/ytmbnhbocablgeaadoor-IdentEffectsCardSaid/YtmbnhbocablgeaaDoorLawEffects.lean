/- IdentEffects returns true; memory that lay stays. Condition: the table of powers of ten lies as its initialiser lays it. -/
import Derived.Test.YtmbnhbocablgeaaDoorRefParse
import Derived.Test.YtmbnhbocablgeaaDoorTextAll
import Derived.Test.YtmbnhbocablgeaaDoorWorks
namespace Go.Proofs.YtmbnhbocablgeaaDoor
open Go.RowKit

section
variable {w wc w2 : World} {n p q r : Nat} {a b c xa xb xc : Int}
theorem effects_keep (hH : wc.cell? ⟨p, 0, none⟩ = some (.int .i64 a) ∧ wc.cell? ⟨p, 1, none⟩ = some (.int .i64 b) ∧ wc.cell? ⟨p, 2, none⟩ = some (.int .i64 c) ∧ wc.cell? ⟨q, 0, none⟩ = some (.int .i64 xa) ∧ wc.cell? ⟨q, 1, none⟩ = some (.int .i64 xb) ∧ wc.cell? ⟨q, 2, none⟩ = some (.int .i64 xc) ∧ wc.cell? ⟨r, 0, none⟩ = some (.int .i64 xa) ∧ wc.cell? ⟨r, 1, none⟩ = some (.int .i64 xb) ∧ wc.cell? ⟨r, 2, none⟩ = some (.int .i64 xc) ∧ Pow wc ∧ Below n w wc ∧ p < wc.heap.size ∧ q < wc.heap.size ∧ r < wc.heap.size ∧ n ≤ wc.heap.size)
    (hb : Below wc.heap.size wc w2) : w2.cell? ⟨p, 0, none⟩ = some (.int .i64 a) ∧ w2.cell? ⟨p, 1, none⟩ = some (.int .i64 b) ∧ w2.cell? ⟨p, 2, none⟩ = some (.int .i64 c) ∧ w2.cell? ⟨q, 0, none⟩ = some (.int .i64 xa) ∧ w2.cell? ⟨q, 1, none⟩ = some (.int .i64 xb) ∧ w2.cell? ⟨q, 2, none⟩ = some (.int .i64 xc) ∧ w2.cell? ⟨r, 0, none⟩ = some (.int .i64 xa) ∧ w2.cell? ⟨r, 1, none⟩ = some (.int .i64 xb) ∧ w2.cell? ⟨r, 2, none⟩ = some (.int .i64 xc) ∧ Pow w2 ∧ Below n w w2 ∧ p < w2.heap.size ∧ q < w2.heap.size ∧ r < w2.heap.size ∧ n ≤ w2.heap.size := by
  obtain ⟨h0, h1, h2, h3, h4, h5, h6, h7, h8, hp, hw, l1, l2, l3, l5⟩ := hH
  exact ⟨(hb.cell l1).trans h0, (hb.cell l1).trans h1, (hb.cell l1).trans h2, (hb.cell l2).trans h3, (hb.cell l2).trans h4, (hb.cell l2).trans h5, (hb.cell l3).trans h6, (hb.cell l3).trans h7, (hb.cell l3).trans h8, hp.below hb, hw.trans (hb.mono l5), Nat.lt_of_lt_of_le l1 hb.size, Nat.lt_of_lt_of_le l2 hb.size, Nat.lt_of_lt_of_le l3 hb.size, Nat.le_trans l5 hb.size⟩
theorem effects_pow (hH : wc.cell? ⟨p, 0, none⟩ = some (.int .i64 a) ∧ wc.cell? ⟨p, 1, none⟩ = some (.int .i64 b) ∧ wc.cell? ⟨p, 2, none⟩ = some (.int .i64 c) ∧ wc.cell? ⟨q, 0, none⟩ = some (.int .i64 xa) ∧ wc.cell? ⟨q, 1, none⟩ = some (.int .i64 xb) ∧ wc.cell? ⟨q, 2, none⟩ = some (.int .i64 xc) ∧ wc.cell? ⟨r, 0, none⟩ = some (.int .i64 xa) ∧ wc.cell? ⟨r, 1, none⟩ = some (.int .i64 xb) ∧ wc.cell? ⟨r, 2, none⟩ = some (.int .i64 xc) ∧ Pow wc ∧ Below n w wc ∧ p < wc.heap.size ∧ q < wc.heap.size ∧ r < wc.heap.size ∧ n ≤ wc.heap.size) : Pow wc := hH.2.2.2.2.2.2.2.2.2.1
theorem effects_below (hH : wc.cell? ⟨p, 0, none⟩ = some (.int .i64 a) ∧ wc.cell? ⟨p, 1, none⟩ = some (.int .i64 b) ∧ wc.cell? ⟨p, 2, none⟩ = some (.int .i64 c) ∧ wc.cell? ⟨q, 0, none⟩ = some (.int .i64 xa) ∧ wc.cell? ⟨q, 1, none⟩ = some (.int .i64 xb) ∧ wc.cell? ⟨q, 2, none⟩ = some (.int .i64 xc) ∧ wc.cell? ⟨r, 0, none⟩ = some (.int .i64 xa) ∧ wc.cell? ⟨r, 1, none⟩ = some (.int .i64 xb) ∧ wc.cell? ⟨r, 2, none⟩ = some (.int .i64 xc) ∧ Pow wc ∧ Below n w wc ∧ p < wc.heap.size ∧ q < wc.heap.size ∧ r < wc.heap.size ∧ n ≤ wc.heap.size) : Below n w wc := hH.2.2.2.2.2.2.2.2.2.2.1
end

set_option maxHeartbeats 4000000 in
theorem effects_law (a b c : Int) (s : ByteArray) (w : World) (hp : Pow w) :
    Calls Tryd.prog 3 #[.agg #[.int .i64 a, .int .i64 b, .int .i64 c], .string s] w fun e w' => e = .returned (.bool true) ∧ Below w.heap.size w w' := by
  have b0 : Below w.heap.size w (w.alloc (.cells #[.int .i64 a, .int .i64 b, .int .i64 c] 23)) := by go_grown
  have B0 := Whole.new w 23 #[.int .i64 a, .int .i64 b, .int .i64 c]
  have hp0 := hp.below b0
  by_cases h300 : s.size ≤ 300
  · have hE := Lib.hid (fun W hp => effect_all a b c W hp)
    have hF := Lib.hid (fun W => refEffect_all a b c W)
    generalize effR a b c = u at hE hF
    obtain ⟨t, e1⟩ := u
    dsimp only at hE hF
    generalize (⟨t.toArray⟩ : ByteArray) = t at hE hF
    have hP := Lib.hid (fun W => parseEffect_any s W (by omega))
    have hQ := Lib.hid (fun W => refParseEffect_any s W (by omega))
    generalize pEffR s.data.toList = u at hP hQ
    obtain ⟨⟨xa, xb, xc⟩, e2⟩ := u
    have hC := Lib.hid (fun W => checkEffect_any a b c W)
    have hD := Lib.hid (fun W => refCheckEffect_any a b c W)
    generalize ckEff a b c = k at hC hD
    go_enter Tryd.func3, Tryd.ntmps3
    go_wp2_with fail
    refine (hE.out _ hp0).mono ?_
    rintro e w1 ⟨rfl, hb1⟩
    have b1 := b0.trans (hb1.mono b0.size)
    have B1 := B0.below hb1 B0.lt
    have x0 := B1.cell 0
    have x1 := B1.cell 1
    have x2 := B1.cell 2
    simp only [List.getElem?_toArray, List.getElem?_cons_succ, List.getElem?_cons_zero] at x0 x1 x2
    clear hp0 hb1 b0 B0
    go_wp2_with fail
    refine (hF.out _).mono ?_
    rintro e w2 ⟨rfl, hb2⟩
    have b2 := b1.trans (hb2.mono b1.size)
    have B2 := B1.below hb2 B1.lt
    clear hb2 b1 B1 x0 x1 x2
    go_wp2_with fail
    refine (hP.out _).mono ?_
    rintro e w3 ⟨rfl, hb3⟩
    have b3 := (b2.trans (hb3.mono b2.size)).alloc (Nat.le_trans b2.size hb3.size) (.cells #[.int .i64 xa, .int .i64 xb, .int .i64 xc] 23)
    have B3 := (B2.below hb3 B2.lt).alloc (.cells #[.int .i64 xa, .int .i64 xb, .int .i64 xc] 23)
    have C3 := Whole.new w3 23 #[.int .i64 xa, .int .i64 xb, .int .i64 xc]
    clear hb3 b2 B2
    go_wp2_with fail
    refine (hQ.out _).mono ?_
    rintro e w4 ⟨rfl, hb4⟩
    have b4 := (b3.trans (hb4.mono b3.size)).alloc (Nat.le_trans b3.size hb4.size) (.cells #[.int .i64 xa, .int .i64 xb, .int .i64 xc] 23)
    have B4 := (B3.below hb4 B3.lt).alloc (.cells #[.int .i64 xa, .int .i64 xb, .int .i64 xc] 23)
    have C4 := (C3.below hb4 C3.lt).alloc (.cells #[.int .i64 xa, .int .i64 xb, .int .i64 xc] 23)
    have D4 := Whole.new w4 23 #[.int .i64 xa, .int .i64 xb, .int .i64 xc]
    have hp4 := hp.below b4
    have hS : (w4.alloc (.cells #[.int .i64 xa, .int .i64 xb, .int .i64 xc] 23)).drew.cell? ⟨w.heap.size, 0, none⟩ = some (.int .i64 a) ∧ (w4.alloc (.cells #[.int .i64 xa, .int .i64 xb, .int .i64 xc] 23)).drew.cell? ⟨w.heap.size, 1, none⟩ = some (.int .i64 b) ∧ (w4.alloc (.cells #[.int .i64 xa, .int .i64 xb, .int .i64 xc] 23)).drew.cell? ⟨w.heap.size, 2, none⟩ = some (.int .i64 c) ∧ (w4.alloc (.cells #[.int .i64 xa, .int .i64 xb, .int .i64 xc] 23)).drew.cell? ⟨w3.heap.size, 0, none⟩ = some (.int .i64 xa) ∧ (w4.alloc (.cells #[.int .i64 xa, .int .i64 xb, .int .i64 xc] 23)).drew.cell? ⟨w3.heap.size, 1, none⟩ = some (.int .i64 xb) ∧ (w4.alloc (.cells #[.int .i64 xa, .int .i64 xb, .int .i64 xc] 23)).drew.cell? ⟨w3.heap.size, 2, none⟩ = some (.int .i64 xc) ∧ (w4.alloc (.cells #[.int .i64 xa, .int .i64 xb, .int .i64 xc] 23)).drew.cell? ⟨w4.heap.size, 0, none⟩ = some (.int .i64 xa) ∧ (w4.alloc (.cells #[.int .i64 xa, .int .i64 xb, .int .i64 xc] 23)).drew.cell? ⟨w4.heap.size, 1, none⟩ = some (.int .i64 xb) ∧ (w4.alloc (.cells #[.int .i64 xa, .int .i64 xb, .int .i64 xc] 23)).drew.cell? ⟨w4.heap.size, 2, none⟩ = some (.int .i64 xc) ∧ Pow (w4.alloc (.cells #[.int .i64 xa, .int .i64 xb, .int .i64 xc] 23)).drew ∧ Below w.heap.size w (w4.alloc (.cells #[.int .i64 xa, .int .i64 xb, .int .i64 xc] 23)).drew ∧ w.heap.size < (w4.alloc (.cells #[.int .i64 xa, .int .i64 xb, .int .i64 xc] 23)).drew.heap.size ∧ w3.heap.size < (w4.alloc (.cells #[.int .i64 xa, .int .i64 xb, .int .i64 xc] 23)).drew.heap.size ∧ w4.heap.size < (w4.alloc (.cells #[.int .i64 xa, .int .i64 xb, .int .i64 xc] 23)).drew.heap.size ∧ w.heap.size ≤ (w4.alloc (.cells #[.int .i64 xa, .int .i64 xb, .int .i64 xc] 23)).drew.heap.size := ⟨B4.cell 0, B4.cell 1, B4.cell 2, C4.cell 0, C4.cell 1, C4.cell 2, D4.cell 0, D4.cell 1, D4.cell 2, hp4.drew, b4.drew, B4.lt, C4.lt, D4.lt, b4.size⟩
    clear hb4 b3 B3 C3 b4 B4 C4 D4 hp4
    go_wp2_with fail
    go_region_held3 (fun w' => w'.cell? ⟨w.heap.size, 0, none⟩ = some (.int .i64 a) ∧ w'.cell? ⟨w.heap.size, 1, none⟩ = some (.int .i64 b) ∧ w'.cell? ⟨w.heap.size, 2, none⟩ = some (.int .i64 c) ∧ w'.cell? ⟨w3.heap.size, 0, none⟩ = some (.int .i64 xa) ∧ w'.cell? ⟨w3.heap.size, 1, none⟩ = some (.int .i64 xb) ∧ w'.cell? ⟨w3.heap.size, 2, none⟩ = some (.int .i64 xc) ∧ w'.cell? ⟨w4.heap.size, 0, none⟩ = some (.int .i64 xa) ∧ w'.cell? ⟨w4.heap.size, 1, none⟩ = some (.int .i64 xb) ∧ w'.cell? ⟨w4.heap.size, 2, none⟩ = some (.int .i64 xc) ∧ Pow w' ∧ Below w.heap.size w w' ∧ w.heap.size < w'.heap.size ∧ w3.heap.size < w'.heap.size ∧ w4.heap.size < w'.heap.size ∧ w.heap.size ≤ w'.heap.size)
      (first | exact hS | (refine effects_keep ?_ hb2; assumption) | assumption)
      (first | (go_at_call 18; refine (hC.out _).mono ?_; rintro e w2 ⟨rfl, hb2⟩) | (go_at_call 19; refine (hD.out _).mono ?_; rintro e w2 ⟨rfl, hb2⟩) | (go_at_call 13; refine (works_any _ ?_).mono ?_; (apply effects_pow; assumption); rintro e w2 ⟨rfl, hb2⟩))
    go_wp2
    go_ret
    exact ⟨rfl, effects_below (by assumption)⟩
  · go_enter Tryd.func3, Tryd.ntmps3
    go_wp2_with fail
    refine (works_any _ hp0).mono ?_
    rintro e w2 ⟨rfl, hb2⟩
    go_wp2
    go_ret
    exact ⟨rfl, b0.trans (hb2.mono b0.size)⟩
end Go.Proofs.YtmbnhbocablgeaaDoor
