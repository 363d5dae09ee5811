/- The examples of the chapter hold: works returns true; memory that lay stays. Condition: the table of powers of ten lies as its initialiser lays it. -/
import Derived.Test.YtmbnhbocablgeaaDoorParseAll
import Derived.Test.YtmbnhbocablgeaaDoorItemText
import Derived.Test.YtmbnhbocablgeaaDoorNum
import Derived.Test.YtmbnhbocablgeaaDoorOrder
import Derived.Test.YtmbnhbocablgeaaDoorName
namespace Go.Proofs.YtmbnhbocablgeaaDoor
open Go.RowKit

theorem w_effect (W : World) (hp : Pow W) : Calls Tryd.prog 14 #[.agg #[.int .i64 12, .int .i64 3, .int .i64 1]] W fun e w' => e = .returned (.tuple #[.string ⟨#[49, 50, 47, 51, 47, 102]⟩, .int .i64 0]) ∧ Below W.heap.size W w' := by
  have h := effect_yes 12 3 1 W hp (by decide)
  rw [show effText 12 3 1 = [49, 50, 47, 51, 47, 102] by decide +kernel] at h
  exact h
theorem w_parse (W : World) : Calls Tryd.prog 16 #[.string ⟨#[49, 50, 47, 51, 47, 102]⟩] W fun e w' => e = .returned (.tuple #[.agg #[.int .i64 12, .int .i64 3, .int .i64 1], .int .i64 0]) ∧ Below W.heap.size W w' := by
  have h := parseEffect_any ⟨#[49, 50, 47, 51, 47, 102]⟩ W (by decide)
  rw [show pEffR (ByteArray.mk #[49, 50, 47, 51, 47, 102]).data.toList = (⟨12, 3, 1⟩, 0) by decide +kernel] at h
  exact h
theorem w_item (W : World) (hp : Pow W) : Calls Tryd.prog 20 #[.agg #[.int .i64 0, .int .i64 0, .int .i64 0, .int .i64 5, .bool true, .int .i64 2]] W fun e w' => e = .returned (.tuple #[.string ⟨#[109, 53, 47, 105, 110, 64, 50]⟩, .int .i64 0]) ∧ Below W.heap.size W w' := by
  have h := item_move 5 true 2 W hp (by decide) (by decide) (by decide) (by decide)
  rw [show itemText 0 0 0 5 true 2 = [109, 53, 47, 105, 110, 64, 50] by decide +kernel] at h
  exact h
theorem w_parseItem (W : World) : Calls Tryd.prog 22 #[.string ⟨#[49, 50, 47, 51, 47, 102, 64, 50]⟩] W fun e w' => e = .returned (.tuple #[.agg #[.int .i64 12, .int .i64 3, .int .i64 1, .int .i64 0, .bool false, .int .i64 2], .int .i64 0]) ∧ Below W.heap.size W w' := by
  have h := parseItem_any ⟨#[49, 50, 47, 51, 47, 102, 64, 50]⟩ W (by decide)
  rw [show pItemR (ByteArray.mk #[49, 50, 47, 51, 47, 102, 64, 50]).data.toList = (⟨12, 3, 1, 0, false, 2⟩, 0) by decide +kernel] at h
  exact h
theorem w_number (W : World) : Calls Tryd.prog 26 #[.agg #[.int .i64 0, .int .i64 0, .int .i64 0, .int .i64 64, .bool true, .int .i64 7]] W fun e w' => e = .returned (.tuple #[.int .i64 1680728, .int .i64 0]) ∧ Below W.heap.size W w' :=
  number_move 64 true 7 W (by decide) (by decide) (by decide) (by decide)
theorem w_from (W : World) : Calls Tryd.prog 28 #[.int .i64 169] W fun e w' => e = .returned (.tuple #[.agg #[.int .i64 2, .int .i64 0, .int .i64 1, .int .i64 0, .bool false, .int .i64 1], .int .i64 0]) ∧ Below W.heap.size W w' :=
  fromNumber_eff 169 W (by decide) (by decide)
theorem w_name1 (W : World) : Calls Tryd.prog 30 #[.string ⟨#[97, 49]⟩] W fun e w' => e = .returned (.bool true) ∧ Below W.heap.size W w' :=
  name_any ⟨#[97, 49]⟩ W (by decide)
theorem w_name2 (W : World) : Calls Tryd.prog 30 #[.string ⟨#[65]⟩] W fun e w' => e = .returned (.bool false) ∧ Below W.heap.size W w' :=
  name_any ⟨#[65]⟩ W (by decide)
theorem w_order (W : World) : Calls Tryd.prog 32 #[.agg #[.int .i64 12, .int .i64 3, .int .i64 1], .agg #[.int .i64 12, .int .i64 3, .int .i64 1]] W fun e w' => e = .returned (.int .i64 0) ∧ Below W.heap.size W w' :=
  order_any 12 3 1 12 3 1 W

set_option maxHeartbeats 4000000 in
theorem works_any (w : World) (hp : Pow w) :
    Calls Tryd.prog 13 #[] w fun e w' => e = .returned (.bool true) ∧ Below w.heap.size w w' := by
  have k1 := hp.below (w' := w.alloc (.cells #[.int .i64 12, .int .i64 3, .int .i64 1] 23)) (by go_grown)
  have b1 : Below w.heap.size w (w.alloc (.cells #[.int .i64 12, .int .i64 3, .int .i64 1] 23)) := by go_grown
  have e1 := Whole.new w 23 #[.int .i64 12, .int .i64 3, .int .i64 1]
  go_enter Tryd.func13, Tryd.ntmps13
  go_wp2_with fail
  refine (w_effect _ k1).mono ?_
  rintro e w1 ⟨rfl, hb1⟩
  have k2 := k1.below hb1
  have e2 := e1.below hb1 (by simp)
  have b2 := b1.trans (hb1.mono (by simp))
  clear k1 e1 b1 hb1
  go_wp2_with fail
  refine (w_parse _).mono ?_
  rintro e w2 ⟨rfl, hb2⟩
  have k3 := (k2.below hb2).below (w' := w2.alloc (.cells #[.int .i64 12, .int .i64 3, .int .i64 1] 23)) (by go_grown)
  have e3 := (e2.below hb2 e2.lt).alloc (.cells #[.int .i64 12, .int .i64 3, .int .i64 1] 23)
  have f3 := Whole.new w2 23 #[.int .i64 12, .int .i64 3, .int .i64 1]
  have b3 := (b2.trans (hb2.mono b2.size)).alloc (Nat.le_trans b2.size hb2.size) (.cells #[.int .i64 12, .int .i64 3, .int .i64 1] 23)
  clear k2 e2 b2 hb2
  go_wp2_with fail
  refine (w_item _ k3).mono ?_
  rintro e w3 ⟨rfl, hb3⟩
  have e4 := e3.below hb3 e3.lt
  have f4 := f3.below hb3 f3.lt
  have b4 := b3.trans (hb3.mono b3.size)
  clear e3 f3 b3 hb3 k3
  go_wp2_with fail
  refine (w_parseItem _).mono ?_
  rintro e w4 ⟨rfl, hb4⟩
  have e5 := (e4.below hb4 e4.lt).alloc (.cells #[.int .i64 12, .int .i64 3, .int .i64 1, .int .i64 0, .bool false, .int .i64 2] 33)
  have f5 := (f4.below hb4 f4.lt).alloc (.cells #[.int .i64 12, .int .i64 3, .int .i64 1, .int .i64 0, .bool false, .int .i64 2] 33)
  have g5 := Whole.new w4 33 #[.int .i64 12, .int .i64 3, .int .i64 1, .int .i64 0, .bool false, .int .i64 2]
  have b5 := (b4.trans (hb4.mono b4.size)).alloc (Nat.le_trans b4.size hb4.size) (.cells #[.int .i64 12, .int .i64 3, .int .i64 1, .int .i64 0, .bool false, .int .i64 2] 33)
  clear e4 f4 b4 hb4
  go_wp2_with fail
  refine (w_number _).mono ?_
  rintro e w5 ⟨rfl, hb5⟩
  have e6 := e5.below hb5 e5.lt
  have f6 := f5.below hb5 f5.lt
  have g6 := g5.below hb5 g5.lt
  have b6 := b5.trans (hb5.mono b5.size)
  clear e5 f5 g5 b5 hb5
  go_wp2_with fail
  refine (w_from _).mono ?_
  rintro e w6 ⟨rfl, hb6⟩
  have e7 := (e6.below hb6 e6.lt).alloc (.cells #[.int .i64 2, .int .i64 0, .int .i64 1, .int .i64 0, .bool false, .int .i64 1] 33)
  have f7 := (f6.below hb6 f6.lt).alloc (.cells #[.int .i64 2, .int .i64 0, .int .i64 1, .int .i64 0, .bool false, .int .i64 1] 33)
  have g7 := (g6.below hb6 g6.lt).alloc (.cells #[.int .i64 2, .int .i64 0, .int .i64 1, .int .i64 0, .bool false, .int .i64 1] 33)
  have h7 := Whole.new w6 33 #[.int .i64 2, .int .i64 0, .int .i64 1, .int .i64 0, .bool false, .int .i64 1]
  have b7 := (b6.trans (hb6.mono b6.size)).alloc (Nat.le_trans b6.size hb6.size) (.cells #[.int .i64 2, .int .i64 0, .int .i64 1, .int .i64 0, .bool false, .int .i64 1] 33)
  have x0 := e7.cell 0
  have x1 := e7.cell 1
  have x2 := e7.cell 2
  have y0 := f7.cell 0
  have y1 := f7.cell 1
  have y2 := f7.cell 2
  have z0 := g7.cell 0
  have z1 := g7.cell 1
  have z2 := g7.cell 2
  have z3 := g7.cell 3
  have z4 := g7.cell 4
  have z5 := g7.cell 5
  have u0 := h7.cell 0
  have u1 := h7.cell 1
  have u2 := h7.cell 2
  have u3 := h7.cell 3
  have u4 := h7.cell 4
  have u5 := h7.cell 5
  simp only [List.getElem?_toArray, List.getElem?_cons_succ, List.getElem?_cons_zero] at x0 x1 x2 y0 y1 y2 z0 z1 z2 z3 z4 z5 u0 u1 u2 u3 u4 u5
  clear e6 f6 g6 b6 hb6 g7 h7
  go_wp2_with fail
  refine (w_name1 _).mono ?_
  rintro e w7 ⟨rfl, hb7⟩
  have e8 := e7.below hb7 e7.lt
  have f8 := f7.below hb7 f7.lt
  have b8 := b7.trans (hb7.mono b7.size)
  clear x0 x1 x2 y0 y1 y2 z0 z1 z2 z3 z4 z5 u0 u1 u2 u3 u4 u5 e7 f7 b7 hb7
  go_wp2_with fail
  refine (w_name2 _).mono ?_
  rintro e w8 ⟨rfl, hb8⟩
  have e9 := e8.below hb8 e8.lt
  have f9 := f8.below hb8 f8.lt
  have b9 := b8.trans (hb8.mono b8.size)
  clear e8 f8 b8 hb8
  have x0 := e9.cell 0
  have x1 := e9.cell 1
  have x2 := e9.cell 2
  have y0 := f9.cell 0
  have y1 := f9.cell 1
  have y2 := f9.cell 2
  simp only [List.getElem?_toArray, List.getElem?_cons_succ, List.getElem?_cons_zero] at x0 x1 x2 y0 y1 y2
  go_wp2_with fail
  refine (w_order _).mono ?_
  rintro e w9 ⟨rfl, hb9⟩
  go_wp2_with fail
  go_ret
  exact ⟨rfl, b9.trans (hb9.mono b9.size)⟩
end Go.Proofs.YtmbnhbocablgeaaDoor
