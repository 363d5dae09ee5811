/- IdentItems returns true; memory that lay stays. Condition: the table of powers of ten lies as its initialiser lays it. -/
import Derived.Test.YtmbnhbocablgeaaDoorRefParseI
import Derived.Test.YtmbnhbocablgeaaDoorTextAll
import Derived.Test.YtmbnhbocablgeaaDoorWorks
namespace Go.Proofs.YtmbnhbocablgeaaDoor
open Go.RowKit

section
variable {w wc w2 : World} {n p q r : Nat} {a b c m g xa xb xc xm xg : Int} {i xi : Bool}
theorem items_keep (hH : wc.cell? ⟨p, 0, none⟩ = some (.int .i64 a) ∧ wc.cell? ⟨p, 1, none⟩ = some (.int .i64 b) ∧ wc.cell? ⟨p, 2, none⟩ = some (.int .i64 c) ∧ wc.cell? ⟨p, 3, none⟩ = some (.int .i64 m) ∧ wc.cell? ⟨p, 4, none⟩ = some (.bool i) ∧ wc.cell? ⟨p, 5, none⟩ = some (.int .i64 g) ∧ wc.cell? ⟨q, 0, none⟩ = some (.int .i64 xa) ∧ wc.cell? ⟨q, 1, none⟩ = some (.int .i64 xb) ∧ wc.cell? ⟨q, 2, none⟩ = some (.int .i64 xc) ∧ wc.cell? ⟨q, 3, none⟩ = some (.int .i64 xm) ∧ wc.cell? ⟨q, 4, none⟩ = some (.bool xi) ∧ wc.cell? ⟨q, 5, none⟩ = some (.int .i64 xg) ∧ wc.cell? ⟨r, 0, none⟩ = some (.int .i64 xa) ∧ wc.cell? ⟨r, 1, none⟩ = some (.int .i64 xb) ∧ wc.cell? ⟨r, 2, none⟩ = some (.int .i64 xc) ∧ wc.cell? ⟨r, 3, none⟩ = some (.int .i64 xm) ∧ wc.cell? ⟨r, 4, none⟩ = some (.bool xi) ∧ wc.cell? ⟨r, 5, none⟩ = some (.int .i64 xg) ∧ Pow wc ∧ Below n w wc ∧ p < wc.heap.size ∧ q < wc.heap.size ∧ r < wc.heap.size ∧ n ≤ wc.heap.size)
    (hb : Below wc.heap.size wc w2) : w2.cell? ⟨p, 0, none⟩ = some (.int .i64 a) ∧ w2.cell? ⟨p, 1, none⟩ = some (.int .i64 b) ∧ w2.cell? ⟨p, 2, none⟩ = some (.int .i64 c) ∧ w2.cell? ⟨p, 3, none⟩ = some (.int .i64 m) ∧ w2.cell? ⟨p, 4, none⟩ = some (.bool i) ∧ w2.cell? ⟨p, 5, none⟩ = some (.int .i64 g) ∧ w2.cell? ⟨q, 0, none⟩ = some (.int .i64 xa) ∧ w2.cell? ⟨q, 1, none⟩ = some (.int .i64 xb) ∧ w2.cell? ⟨q, 2, none⟩ = some (.int .i64 xc) ∧ w2.cell? ⟨q, 3, none⟩ = some (.int .i64 xm) ∧ w2.cell? ⟨q, 4, none⟩ = some (.bool xi) ∧ w2.cell? ⟨q, 5, none⟩ = some (.int .i64 xg) ∧ w2.cell? ⟨r, 0, none⟩ = some (.int .i64 xa) ∧ w2.cell? ⟨r, 1, none⟩ = some (.int .i64 xb) ∧ w2.cell? ⟨r, 2, none⟩ = some (.int .i64 xc) ∧ w2.cell? ⟨r, 3, none⟩ = some (.int .i64 xm) ∧ w2.cell? ⟨r, 4, none⟩ = some (.bool xi) ∧ w2.cell? ⟨r, 5, none⟩ = some (.int .i64 xg) ∧ Pow w2 ∧ Below n w w2 ∧ p < w2.heap.size ∧ q < w2.heap.size ∧ r < w2.heap.size ∧ n ≤ w2.heap.size := by
  obtain ⟨h0, h1, h2, h3, h4, h5, h6, h7, h8, h9, h10, h11, h12, h13, h14, h15, h16, h17, hp, hw, l1, l2, l3, l5⟩ := hH
  exact ⟨(hb.cell l1).trans h0, (hb.cell l1).trans h1, (hb.cell l1).trans h2, (hb.cell l1).trans h3, (hb.cell l1).trans h4, (hb.cell l1).trans h5, (hb.cell l2).trans h6, (hb.cell l2).trans h7, (hb.cell l2).trans h8, (hb.cell l2).trans h9, (hb.cell l2).trans h10, (hb.cell l2).trans h11, (hb.cell l3).trans h12, (hb.cell l3).trans h13, (hb.cell l3).trans h14, (hb.cell l3).trans h15, (hb.cell l3).trans h16, (hb.cell l3).trans h17, hp.below hb, hw.trans (hb.mono l5), Nat.lt_of_lt_of_le l1 hb.size, Nat.lt_of_lt_of_le l2 hb.size, Nat.lt_of_lt_of_le l3 hb.size, Nat.le_trans l5 hb.size⟩
theorem items_pow (hH : wc.cell? ⟨p, 0, none⟩ = some (.int .i64 a) ∧ wc.cell? ⟨p, 1, none⟩ = some (.int .i64 b) ∧ wc.cell? ⟨p, 2, none⟩ = some (.int .i64 c) ∧ wc.cell? ⟨p, 3, none⟩ = some (.int .i64 m) ∧ wc.cell? ⟨p, 4, none⟩ = some (.bool i) ∧ wc.cell? ⟨p, 5, none⟩ = some (.int .i64 g) ∧ wc.cell? ⟨q, 0, none⟩ = some (.int .i64 xa) ∧ wc.cell? ⟨q, 1, none⟩ = some (.int .i64 xb) ∧ wc.cell? ⟨q, 2, none⟩ = some (.int .i64 xc) ∧ wc.cell? ⟨q, 3, none⟩ = some (.int .i64 xm) ∧ wc.cell? ⟨q, 4, none⟩ = some (.bool xi) ∧ wc.cell? ⟨q, 5, none⟩ = some (.int .i64 xg) ∧ wc.cell? ⟨r, 0, none⟩ = some (.int .i64 xa) ∧ wc.cell? ⟨r, 1, none⟩ = some (.int .i64 xb) ∧ wc.cell? ⟨r, 2, none⟩ = some (.int .i64 xc) ∧ wc.cell? ⟨r, 3, none⟩ = some (.int .i64 xm) ∧ wc.cell? ⟨r, 4, none⟩ = some (.bool xi) ∧ wc.cell? ⟨r, 5, none⟩ = some (.int .i64 xg) ∧ Pow wc ∧ Below n w wc ∧ p < wc.heap.size ∧ q < wc.heap.size ∧ r < wc.heap.size ∧ n ≤ wc.heap.size) : Pow wc := hH.2.2.2.2.2.2.2.2.2.2.2.2.2.2.2.2.2.2.1
theorem items_below (hH : wc.cell? ⟨p, 0, none⟩ = some (.int .i64 a) ∧ wc.cell? ⟨p, 1, none⟩ = some (.int .i64 b) ∧ wc.cell? ⟨p, 2, none⟩ = some (.int .i64 c) ∧ wc.cell? ⟨p, 3, none⟩ = some (.int .i64 m) ∧ wc.cell? ⟨p, 4, none⟩ = some (.bool i) ∧ wc.cell? ⟨p, 5, none⟩ = some (.int .i64 g) ∧ wc.cell? ⟨q, 0, none⟩ = some (.int .i64 xa) ∧ wc.cell? ⟨q, 1, none⟩ = some (.int .i64 xb) ∧ wc.cell? ⟨q, 2, none⟩ = some (.int .i64 xc) ∧ wc.cell? ⟨q, 3, none⟩ = some (.int .i64 xm) ∧ wc.cell? ⟨q, 4, none⟩ = some (.bool xi) ∧ wc.cell? ⟨q, 5, none⟩ = some (.int .i64 xg) ∧ wc.cell? ⟨r, 0, none⟩ = some (.int .i64 xa) ∧ wc.cell? ⟨r, 1, none⟩ = some (.int .i64 xb) ∧ wc.cell? ⟨r, 2, none⟩ = some (.int .i64 xc) ∧ wc.cell? ⟨r, 3, none⟩ = some (.int .i64 xm) ∧ wc.cell? ⟨r, 4, none⟩ = some (.bool xi) ∧ wc.cell? ⟨r, 5, none⟩ = some (.int .i64 xg) ∧ Pow wc ∧ Below n w wc ∧ p < wc.heap.size ∧ q < wc.heap.size ∧ r < wc.heap.size ∧ n ≤ wc.heap.size) : Below n w wc := hH.2.2.2.2.2.2.2.2.2.2.2.2.2.2.2.2.2.2.2.1
end

set_option maxHeartbeats 4000000 in
theorem items_law (a b c m : Int) (i : Bool) (g : Int) (s : ByteArray) (w : World) (hp : Pow w) :
    Calls Tryd.prog 4 #[.agg #[.int .i64 a, .int .i64 b, .int .i64 c, .int .i64 m, .bool i, .int .i64 g], .string s] w fun e w' => e = .returned (.bool true) ∧ Below w.heap.size w w' := by
  have b0 : Below w.heap.size w (w.alloc (.cells #[.int .i64 a, .int .i64 b, .int .i64 c, .int .i64 m, .bool i, .int .i64 g] 33)) := by go_grown
  have B0 := Whole.new w 33 #[.int .i64 a, .int .i64 b, .int .i64 c, .int .i64 m, .bool i, .int .i64 g]
  have hp0 := hp.below b0
  by_cases h300 : s.size ≤ 300
  · have hE := Lib.hid (fun W hp => item_all a b c m i g W hp)
    have hF := Lib.hid (fun W => refItem_all a b c m i g W)
    generalize itemW a b c m i g = u at hE hF
    obtain ⟨t, e1⟩ := u
    dsimp only at hE hF
    generalize (⟨t.toArray⟩ : ByteArray) = t at hE hF
    have hP := Lib.hid (fun W => parseItem_any s W (by omega))
    have hQ := Lib.hid (fun W => refParseItem_any s W (by omega))
    generalize pItemR s.data.toList = u at hP hQ
    obtain ⟨⟨xa, xb, xc, xm, xi, xg⟩, e2⟩ := u
    have hC := Lib.hid (fun W => checkItem_any a b c m i g W)
    have hD := Lib.hid (fun W => refCheckItem_any a b c m i g W)
    generalize ckItem a b c m i g = k at hC hD
    go_enter Tryd.func4, Tryd.ntmps4
    go_wp2_with fail
    refine (hE.out _ hp0).mono ?_
    rintro e w1 ⟨rfl, hb1⟩
    have b1 := b0.trans (hb1.mono b0.size)
    have B1 := B0.below hb1 B0.lt
    have x0 := B1.cell 0
    have x1 := B1.cell 1
    have x2 := B1.cell 2
    have x3 := B1.cell 3
    have x4 := B1.cell 4
    have x5 := B1.cell 5
    simp only [List.getElem?_toArray, List.getElem?_cons_succ, List.getElem?_cons_zero] at x0 x1 x2 x3 x4 x5
    clear hp0 hb1 b0 B0
    go_wp2_with fail
    refine (hF.out _).mono ?_
    rintro e w2 ⟨rfl, hb2⟩
    have b2 := b1.trans (hb2.mono b1.size)
    have B2 := B1.below hb2 B1.lt
    clear hb2 b1 B1 x0 x1 x2 x3 x4 x5
    go_wp2_with fail
    refine (hP.out _).mono ?_
    rintro e w3 ⟨rfl, hb3⟩
    have b3 := (b2.trans (hb3.mono b2.size)).alloc (Nat.le_trans b2.size hb3.size) (.cells #[.int .i64 xa, .int .i64 xb, .int .i64 xc, .int .i64 xm, .bool xi, .int .i64 xg] 33)
    have B3 := (B2.below hb3 B2.lt).alloc (.cells #[.int .i64 xa, .int .i64 xb, .int .i64 xc, .int .i64 xm, .bool xi, .int .i64 xg] 33)
    have C3 := Whole.new w3 33 #[.int .i64 xa, .int .i64 xb, .int .i64 xc, .int .i64 xm, .bool xi, .int .i64 xg]
    clear hb3 b2 B2
    go_wp2_with fail
    refine (hQ.out _).mono ?_
    rintro e w4 ⟨rfl, hb4⟩
    have b4 := (b3.trans (hb4.mono b3.size)).alloc (Nat.le_trans b3.size hb4.size) (.cells #[.int .i64 xa, .int .i64 xb, .int .i64 xc, .int .i64 xm, .bool xi, .int .i64 xg] 33)
    have B4 := (B3.below hb4 B3.lt).alloc (.cells #[.int .i64 xa, .int .i64 xb, .int .i64 xc, .int .i64 xm, .bool xi, .int .i64 xg] 33)
    have C4 := (C3.below hb4 C3.lt).alloc (.cells #[.int .i64 xa, .int .i64 xb, .int .i64 xc, .int .i64 xm, .bool xi, .int .i64 xg] 33)
    have D4 := Whole.new w4 33 #[.int .i64 xa, .int .i64 xb, .int .i64 xc, .int .i64 xm, .bool xi, .int .i64 xg]
    have hp4 := hp.below b4
    have hS : (w4.alloc (.cells #[.int .i64 xa, .int .i64 xb, .int .i64 xc, .int .i64 xm, .bool xi, .int .i64 xg] 33)).drew.cell? ⟨w.heap.size, 0, none⟩ = some (.int .i64 a) ∧ (w4.alloc (.cells #[.int .i64 xa, .int .i64 xb, .int .i64 xc, .int .i64 xm, .bool xi, .int .i64 xg] 33)).drew.cell? ⟨w.heap.size, 1, none⟩ = some (.int .i64 b) ∧ (w4.alloc (.cells #[.int .i64 xa, .int .i64 xb, .int .i64 xc, .int .i64 xm, .bool xi, .int .i64 xg] 33)).drew.cell? ⟨w.heap.size, 2, none⟩ = some (.int .i64 c) ∧ (w4.alloc (.cells #[.int .i64 xa, .int .i64 xb, .int .i64 xc, .int .i64 xm, .bool xi, .int .i64 xg] 33)).drew.cell? ⟨w.heap.size, 3, none⟩ = some (.int .i64 m) ∧ (w4.alloc (.cells #[.int .i64 xa, .int .i64 xb, .int .i64 xc, .int .i64 xm, .bool xi, .int .i64 xg] 33)).drew.cell? ⟨w.heap.size, 4, none⟩ = some (.bool i) ∧ (w4.alloc (.cells #[.int .i64 xa, .int .i64 xb, .int .i64 xc, .int .i64 xm, .bool xi, .int .i64 xg] 33)).drew.cell? ⟨w.heap.size, 5, none⟩ = some (.int .i64 g) ∧ (w4.alloc (.cells #[.int .i64 xa, .int .i64 xb, .int .i64 xc, .int .i64 xm, .bool xi, .int .i64 xg] 33)).drew.cell? ⟨w3.heap.size, 0, none⟩ = some (.int .i64 xa) ∧ (w4.alloc (.cells #[.int .i64 xa, .int .i64 xb, .int .i64 xc, .int .i64 xm, .bool xi, .int .i64 xg] 33)).drew.cell? ⟨w3.heap.size, 1, none⟩ = some (.int .i64 xb) ∧ (w4.alloc (.cells #[.int .i64 xa, .int .i64 xb, .int .i64 xc, .int .i64 xm, .bool xi, .int .i64 xg] 33)).drew.cell? ⟨w3.heap.size, 2, none⟩ = some (.int .i64 xc) ∧ (w4.alloc (.cells #[.int .i64 xa, .int .i64 xb, .int .i64 xc, .int .i64 xm, .bool xi, .int .i64 xg] 33)).drew.cell? ⟨w3.heap.size, 3, none⟩ = some (.int .i64 xm) ∧ (w4.alloc (.cells #[.int .i64 xa, .int .i64 xb, .int .i64 xc, .int .i64 xm, .bool xi, .int .i64 xg] 33)).drew.cell? ⟨w3.heap.size, 4, none⟩ = some (.bool xi) ∧ (w4.alloc (.cells #[.int .i64 xa, .int .i64 xb, .int .i64 xc, .int .i64 xm, .bool xi, .int .i64 xg] 33)).drew.cell? ⟨w3.heap.size, 5, none⟩ = some (.int .i64 xg) ∧ (w4.alloc (.cells #[.int .i64 xa, .int .i64 xb, .int .i64 xc, .int .i64 xm, .bool xi, .int .i64 xg] 33)).drew.cell? ⟨w4.heap.size, 0, none⟩ = some (.int .i64 xa) ∧ (w4.alloc (.cells #[.int .i64 xa, .int .i64 xb, .int .i64 xc, .int .i64 xm, .bool xi, .int .i64 xg] 33)).drew.cell? ⟨w4.heap.size, 1, none⟩ = some (.int .i64 xb) ∧ (w4.alloc (.cells #[.int .i64 xa, .int .i64 xb, .int .i64 xc, .int .i64 xm, .bool xi, .int .i64 xg] 33)).drew.cell? ⟨w4.heap.size, 2, none⟩ = some (.int .i64 xc) ∧ (w4.alloc (.cells #[.int .i64 xa, .int .i64 xb, .int .i64 xc, .int .i64 xm, .bool xi, .int .i64 xg] 33)).drew.cell? ⟨w4.heap.size, 3, none⟩ = some (.int .i64 xm) ∧ (w4.alloc (.cells #[.int .i64 xa, .int .i64 xb, .int .i64 xc, .int .i64 xm, .bool xi, .int .i64 xg] 33)).drew.cell? ⟨w4.heap.size, 4, none⟩ = some (.bool xi) ∧ (w4.alloc (.cells #[.int .i64 xa, .int .i64 xb, .int .i64 xc, .int .i64 xm, .bool xi, .int .i64 xg] 33)).drew.cell? ⟨w4.heap.size, 5, none⟩ = some (.int .i64 xg) ∧ Pow (w4.alloc (.cells #[.int .i64 xa, .int .i64 xb, .int .i64 xc, .int .i64 xm, .bool xi, .int .i64 xg] 33)).drew ∧ Below w.heap.size w (w4.alloc (.cells #[.int .i64 xa, .int .i64 xb, .int .i64 xc, .int .i64 xm, .bool xi, .int .i64 xg] 33)).drew ∧ w.heap.size < (w4.alloc (.cells #[.int .i64 xa, .int .i64 xb, .int .i64 xc, .int .i64 xm, .bool xi, .int .i64 xg] 33)).drew.heap.size ∧ w3.heap.size < (w4.alloc (.cells #[.int .i64 xa, .int .i64 xb, .int .i64 xc, .int .i64 xm, .bool xi, .int .i64 xg] 33)).drew.heap.size ∧ w4.heap.size < (w4.alloc (.cells #[.int .i64 xa, .int .i64 xb, .int .i64 xc, .int .i64 xm, .bool xi, .int .i64 xg] 33)).drew.heap.size ∧ w.heap.size ≤ (w4.alloc (.cells #[.int .i64 xa, .int .i64 xb, .int .i64 xc, .int .i64 xm, .bool xi, .int .i64 xg] 33)).drew.heap.size := ⟨B4.cell 0, B4.cell 1, B4.cell 2, B4.cell 3, B4.cell 4, B4.cell 5, C4.cell 0, C4.cell 1, C4.cell 2, C4.cell 3, C4.cell 4, C4.cell 5, D4.cell 0, D4.cell 1, D4.cell 2, D4.cell 3, D4.cell 4, D4.cell 5, hp4.drew, b4.drew, B4.lt, C4.lt, D4.lt, b4.size⟩
    clear hb4 b3 B3 C3 b4 B4 C4 D4 hp4
    go_wp2_with fail
    go_region_held3 (fun w' => w'.cell? ⟨w.heap.size, 0, none⟩ = some (.int .i64 a) ∧ w'.cell? ⟨w.heap.size, 1, none⟩ = some (.int .i64 b) ∧ w'.cell? ⟨w.heap.size, 2, none⟩ = some (.int .i64 c) ∧ w'.cell? ⟨w.heap.size, 3, none⟩ = some (.int .i64 m) ∧ w'.cell? ⟨w.heap.size, 4, none⟩ = some (.bool i) ∧ w'.cell? ⟨w.heap.size, 5, none⟩ = some (.int .i64 g) ∧ w'.cell? ⟨w3.heap.size, 0, none⟩ = some (.int .i64 xa) ∧ w'.cell? ⟨w3.heap.size, 1, none⟩ = some (.int .i64 xb) ∧ w'.cell? ⟨w3.heap.size, 2, none⟩ = some (.int .i64 xc) ∧ w'.cell? ⟨w3.heap.size, 3, none⟩ = some (.int .i64 xm) ∧ w'.cell? ⟨w3.heap.size, 4, none⟩ = some (.bool xi) ∧ w'.cell? ⟨w3.heap.size, 5, none⟩ = some (.int .i64 xg) ∧ w'.cell? ⟨w4.heap.size, 0, none⟩ = some (.int .i64 xa) ∧ w'.cell? ⟨w4.heap.size, 1, none⟩ = some (.int .i64 xb) ∧ w'.cell? ⟨w4.heap.size, 2, none⟩ = some (.int .i64 xc) ∧ w'.cell? ⟨w4.heap.size, 3, none⟩ = some (.int .i64 xm) ∧ w'.cell? ⟨w4.heap.size, 4, none⟩ = some (.bool xi) ∧ w'.cell? ⟨w4.heap.size, 5, none⟩ = some (.int .i64 xg) ∧ Pow w' ∧ Below w.heap.size w w' ∧ w.heap.size < w'.heap.size ∧ w3.heap.size < w'.heap.size ∧ w4.heap.size < w'.heap.size ∧ w.heap.size ≤ w'.heap.size)
      (first | exact hS | (refine items_keep ?_ hb2; assumption) | assumption)
      (first | (go_at_call 24; refine (hC.out _).mono ?_; rintro e w2 ⟨rfl, hb2⟩) | (go_at_call 25; refine (hD.out _).mono ?_; rintro e w2 ⟨rfl, hb2⟩) | (go_at_call 13; refine (works_any _ ?_).mono ?_; (apply items_pow; assumption); rintro e w2 ⟨rfl, hb2⟩))
    go_wp2
    go_ret
    exact ⟨rfl, items_below (by assumption)⟩
  · go_enter Tryd.func4, Tryd.ntmps4
    go_wp2_with fail
    refine (works_any _ hp0).mono ?_
    rintro e w2 ⟨rfl, hb2⟩
    go_wp2
    go_ret
    exact ⟨rfl, b0.trans (hb2.mono b0.size)⟩
end Go.Proofs.YtmbnhbocablgeaaDoor
