/- IdentNumbers returns true; memory that lay stays. Condition: the table of powers of ten lies as its initialiser lays it. -/
import Derived.Test.YtmbnhbocablgeaaDoorNumAny
import Derived.Test.YtmbnhbocablgeaaDoorWorks
namespace Go.Proofs.YtmbnhbocablgeaaDoor
open Go.RowKit

set_option maxHeartbeats 2000000 in
theorem numbers_law (a b c m : Int) (i : Bool) (g n : Int) (w : World) (hp : Pow w) :
    Calls Tryd.prog 5 #[.agg #[.int .i64 a, .int .i64 b, .int .i64 c, .int .i64 m, .bool i, .int .i64 g], .int .i64 n] w fun e w' => e = .returned (.bool true) ∧ Below w.heap.size w w' := by
  have hN := Lib.hid (fun W => number_all a b c m i g W)
  have hR := Lib.hid (fun W => refNumber_all a b c m i g W)
  generalize numR a b c m i g = q at hN hR
  obtain ⟨k, e1⟩ := q
  have hF := Lib.hid (fun W => fromNumber_any n W)
  have hG := Lib.hid (fun W => refFromNumber_any n W)
  generalize fromR n = r at hF hG
  obtain ⟨⟨xa, xb, xc, xm, xi, xg⟩, e2⟩ := r
  have B1 := Whole.new w 33 #[.int .i64 a, .int .i64 b, .int .i64 c, .int .i64 m, .bool i, .int .i64 g]
  have b1 : Below w.heap.size w (w.alloc (.cells #[.int .i64 a, .int .i64 b, .int .i64 c, .int .i64 m, .bool i, .int .i64 g] 33)) := by go_grown
  go_enter Tryd.func5, Tryd.ntmps5
  go_wp2_with fail
  refine (hN.out _).mono ?_
  rintro e w1 ⟨rfl, hb1⟩
  have B2 := B1.below hb1 B1.lt
  have b2 := b1.trans (hb1.mono b1.size)
  have x0 := B2.cell 0
  have x1 := B2.cell 1
  have x2 := B2.cell 2
  have x3 := B2.cell 3
  have x4 := B2.cell 4
  have x5 := B2.cell 5
  simp only [List.getElem?_toArray, List.getElem?_cons_succ, List.getElem?_cons_zero] at x0 x1 x2 x3 x4 x5
  clear B1 b1 hb1
  go_wp2_with fail
  refine (hR.out _).mono ?_
  rintro e w2 ⟨rfl, hb2⟩
  have b3 := b2.trans (hb2.mono b2.size)
  clear B2 b2 hb2 x0 x1 x2 x3 x4 x5
  go_wp2_with fail
  refine (hF.out _).mono ?_
  rintro e w3 ⟨rfl, hb3⟩
  have b4 := (b3.trans (hb3.mono b3.size)).alloc (Nat.le_trans b3.size hb3.size) (.cells #[.int .i64 xa, .int .i64 xb, .int .i64 xc, .int .i64 xm, .bool xi, .int .i64 xg] 33)
  have B4 := Whole.new w3 33 #[.int .i64 xa, .int .i64 xb, .int .i64 xc, .int .i64 xm, .bool xi, .int .i64 xg]
  clear b3 hb3
  go_wp2_with fail
  refine (hG.out _).mono ?_
  rintro e w4 ⟨rfl, hb4⟩
  have b5 := (b4.trans (hb4.mono b4.size)).alloc (Nat.le_trans b4.size hb4.size) (.cells #[.int .i64 xa, .int .i64 xb, .int .i64 xc, .int .i64 xm, .bool xi, .int .i64 xg] 33)
  have B5 := (B4.below hb4 B4.lt).alloc (.cells #[.int .i64 xa, .int .i64 xb, .int .i64 xc, .int .i64 xm, .bool xi, .int .i64 xg] 33)
  have C5 := Whole.new w4 33 #[.int .i64 xa, .int .i64 xb, .int .i64 xc, .int .i64 xm, .bool xi, .int .i64 xg]
  have x0 := B5.cell 0
  have x1 := B5.cell 1
  have x2 := B5.cell 2
  have x3 := B5.cell 3
  have x4 := B5.cell 4
  have x5 := B5.cell 5
  have y0 := C5.cell 0
  have y1 := C5.cell 1
  have y2 := C5.cell 2
  have y3 := C5.cell 3
  have y4 := C5.cell 4
  have y5 := C5.cell 5
  simp only [List.getElem?_toArray, List.getElem?_cons_succ, List.getElem?_cons_zero] at x0 x1 x2 x3 x4 x5 y0 y1 y2 y3 y4 y5
  have hp5 := hp.below b5
  clear b4 hb4 B4 B5 C5
  go_wp2_with fail
  refine (works_any _ hp5).mono ?_
  rintro e w5 ⟨rfl, hb5⟩
  go_wp2
  go_ret
  exact ⟨rfl, b5.trans (hb5.mono b5.size)⟩
end Go.Proofs.YtmbnhbocablgeaaDoor
