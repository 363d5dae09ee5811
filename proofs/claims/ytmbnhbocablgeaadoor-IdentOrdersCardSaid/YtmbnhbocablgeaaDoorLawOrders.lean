/- IdentOrders returns true; memory that lay stays. Condition: the table of powers of ten lies as its initialiser lays it. -/
import Derived.Test.YtmbnhbocablgeaaDoorRefName
import Derived.Test.YtmbnhbocablgeaaDoorWorks
namespace Go.Proofs.YtmbnhbocablgeaaDoor
open Go.RowKit

section
variable {w wc w2 : World} {n p q : Nat} {a b c x y z : Int}
theorem okeep (hH : wc.cell? ⟨p, 0, none⟩ = some (.int .i64 a) ∧ wc.cell? ⟨p, 1, none⟩ = some (.int .i64 b) ∧ wc.cell? ⟨p, 2, none⟩ = some (.int .i64 c) ∧ wc.cell? ⟨q, 0, none⟩ = some (.int .i64 x) ∧ wc.cell? ⟨q, 1, none⟩ = some (.int .i64 y) ∧ wc.cell? ⟨q, 2, none⟩ = some (.int .i64 z) ∧ Pow wc ∧ Below n w wc ∧ p < wc.heap.size ∧ q < wc.heap.size ∧ n ≤ wc.heap.size)
    (hb : Below wc.heap.size wc w2) : w2.cell? ⟨p, 0, none⟩ = some (.int .i64 a) ∧ w2.cell? ⟨p, 1, none⟩ = some (.int .i64 b) ∧ w2.cell? ⟨p, 2, none⟩ = some (.int .i64 c) ∧ w2.cell? ⟨q, 0, none⟩ = some (.int .i64 x) ∧ w2.cell? ⟨q, 1, none⟩ = some (.int .i64 y) ∧ w2.cell? ⟨q, 2, none⟩ = some (.int .i64 z) ∧ Pow w2 ∧ Below n w w2 ∧ p < w2.heap.size ∧ q < w2.heap.size ∧ n ≤ w2.heap.size := by
  obtain ⟨h0, h1, h2, h3, h4, h5, hp, hw, l1, l2, l5⟩ := hH
  exact ⟨(hb.cell l1).trans h0, (hb.cell l1).trans h1, (hb.cell l1).trans h2, (hb.cell l2).trans h3, (hb.cell l2).trans h4, (hb.cell l2).trans h5, hp.below hb, hw.trans (hb.mono l5), Nat.lt_of_lt_of_le l1 hb.size, Nat.lt_of_lt_of_le l2 hb.size, Nat.le_trans l5 hb.size⟩
theorem opow (hH : wc.cell? ⟨p, 0, none⟩ = some (.int .i64 a) ∧ wc.cell? ⟨p, 1, none⟩ = some (.int .i64 b) ∧ wc.cell? ⟨p, 2, none⟩ = some (.int .i64 c) ∧ wc.cell? ⟨q, 0, none⟩ = some (.int .i64 x) ∧ wc.cell? ⟨q, 1, none⟩ = some (.int .i64 y) ∧ wc.cell? ⟨q, 2, none⟩ = some (.int .i64 z) ∧ Pow wc ∧ Below n w wc ∧ p < wc.heap.size ∧ q < wc.heap.size ∧ n ≤ wc.heap.size) : Pow wc := hH.2.2.2.2.2.2.1
theorem obelow (hH : wc.cell? ⟨p, 0, none⟩ = some (.int .i64 a) ∧ wc.cell? ⟨p, 1, none⟩ = some (.int .i64 b) ∧ wc.cell? ⟨p, 2, none⟩ = some (.int .i64 c) ∧ wc.cell? ⟨q, 0, none⟩ = some (.int .i64 x) ∧ wc.cell? ⟨q, 1, none⟩ = some (.int .i64 y) ∧ wc.cell? ⟨q, 2, none⟩ = some (.int .i64 z) ∧ Pow wc ∧ Below n w wc ∧ p < wc.heap.size ∧ q < wc.heap.size ∧ n ≤ wc.heap.size) : Below n w wc := hH.2.2.2.2.2.2.2.1
end

set_option maxHeartbeats 4000000 in
theorem orders_law (s : ByteArray) (a b c x y z : Int) (w : World) (hs : s.size ≤ 9223372036854775807) (hp : Pow w) :
    Calls Tryd.prog 6 #[.string s, .agg #[.int .i64 a, .int .i64 b, .int .i64 c], .agg #[.int .i64 x, .int .i64 y, .int .i64 z]] w fun e w' => e = .returned (.bool true) ∧ Below w.heap.size w w' := by
  have b0 : Below w.heap.size w ((w.alloc (.cells #[.int .i64 a, .int .i64 b, .int .i64 c] 23)).alloc (.cells #[.int .i64 x, .int .i64 y, .int .i64 z] 23)) := by go_grown
  have hp0 := hp.below b0
  by_cases h300 : s.size ≤ 300
  · have hN := Lib.hid (fun W => name_any s W hs)
    have hR := Lib.hid (fun W => (refName_any s W hs).mono fun _ W' h => (⟨h.1, h.2 ▸ Below.refl _ _⟩ : _ ∧ Below W.heap.size W W'))
    generalize isName s.data.toList = k at hN hR
    have hO := Lib.hid (fun W => order_any a b c x y z W)
    have hQ := Lib.hid (fun W => refOrder_any a b c x y z W)
    generalize ordEff a b c x y z = o at hO hQ
    have B := (Whole.new w 23 #[.int .i64 a, .int .i64 b, .int .i64 c]).alloc (.cells #[.int .i64 x, .int .i64 y, .int .i64 z] 23)
    have C := Whole.new (w.alloc (.cells #[.int .i64 a, .int .i64 b, .int .i64 c] 23)) 23 #[.int .i64 x, .int .i64 y, .int .i64 z]
    rw [World.size_alloc] at C
    have hS : ((w.alloc (.cells #[.int .i64 a, .int .i64 b, .int .i64 c] 23)).alloc (.cells #[.int .i64 x, .int .i64 y, .int .i64 z] 23)).drew.cell? ⟨w.heap.size, 0, none⟩ = some (.int .i64 a) ∧ ((w.alloc (.cells #[.int .i64 a, .int .i64 b, .int .i64 c] 23)).alloc (.cells #[.int .i64 x, .int .i64 y, .int .i64 z] 23)).drew.cell? ⟨w.heap.size, 1, none⟩ = some (.int .i64 b) ∧ ((w.alloc (.cells #[.int .i64 a, .int .i64 b, .int .i64 c] 23)).alloc (.cells #[.int .i64 x, .int .i64 y, .int .i64 z] 23)).drew.cell? ⟨w.heap.size, 2, none⟩ = some (.int .i64 c) ∧ ((w.alloc (.cells #[.int .i64 a, .int .i64 b, .int .i64 c] 23)).alloc (.cells #[.int .i64 x, .int .i64 y, .int .i64 z] 23)).drew.cell? ⟨w.heap.size + 1, 0, none⟩ = some (.int .i64 x) ∧ ((w.alloc (.cells #[.int .i64 a, .int .i64 b, .int .i64 c] 23)).alloc (.cells #[.int .i64 x, .int .i64 y, .int .i64 z] 23)).drew.cell? ⟨w.heap.size + 1, 1, none⟩ = some (.int .i64 y) ∧ ((w.alloc (.cells #[.int .i64 a, .int .i64 b, .int .i64 c] 23)).alloc (.cells #[.int .i64 x, .int .i64 y, .int .i64 z] 23)).drew.cell? ⟨w.heap.size + 1, 2, none⟩ = some (.int .i64 z) ∧ Pow ((w.alloc (.cells #[.int .i64 a, .int .i64 b, .int .i64 c] 23)).alloc (.cells #[.int .i64 x, .int .i64 y, .int .i64 z] 23)).drew ∧ Below w.heap.size w ((w.alloc (.cells #[.int .i64 a, .int .i64 b, .int .i64 c] 23)).alloc (.cells #[.int .i64 x, .int .i64 y, .int .i64 z] 23)).drew ∧ w.heap.size < ((w.alloc (.cells #[.int .i64 a, .int .i64 b, .int .i64 c] 23)).alloc (.cells #[.int .i64 x, .int .i64 y, .int .i64 z] 23)).drew.heap.size ∧ w.heap.size + 1 < ((w.alloc (.cells #[.int .i64 a, .int .i64 b, .int .i64 c] 23)).alloc (.cells #[.int .i64 x, .int .i64 y, .int .i64 z] 23)).drew.heap.size ∧ w.heap.size ≤ ((w.alloc (.cells #[.int .i64 a, .int .i64 b, .int .i64 c] 23)).alloc (.cells #[.int .i64 x, .int .i64 y, .int .i64 z] 23)).drew.heap.size := ⟨B.cell 0, B.cell 1, B.cell 2, C.cell 0, C.cell 1, C.cell 2, hp0.drew, b0.drew, B.lt, C.lt, b0.size⟩
    clear B C b0 hp0
    go_enter Tryd.func6, Tryd.ntmps6
    go_wp2_with fail
    go_region_held3 (fun w' => w'.cell? ⟨w.heap.size, 0, none⟩ = some (.int .i64 a) ∧ w'.cell? ⟨w.heap.size, 1, none⟩ = some (.int .i64 b) ∧ w'.cell? ⟨w.heap.size, 2, none⟩ = some (.int .i64 c) ∧ w'.cell? ⟨w.heap.size + 1, 0, none⟩ = some (.int .i64 x) ∧ w'.cell? ⟨w.heap.size + 1, 1, none⟩ = some (.int .i64 y) ∧ w'.cell? ⟨w.heap.size + 1, 2, none⟩ = some (.int .i64 z) ∧ Pow w' ∧ Below w.heap.size w w' ∧ w.heap.size < w'.heap.size ∧ w.heap.size + 1 < w'.heap.size ∧ w.heap.size ≤ w'.heap.size)
      (first | exact hS | (refine okeep ?_ hb2; assumption) | assumption)
      (first | (go_at_call 30; refine (hN.out _).mono ?_; rintro e w2 ⟨rfl, hb2⟩) | (go_at_call 31; refine (hR.out _).mono ?_; rintro e w2 ⟨rfl, hb2⟩) | (go_at_call 32; refine (hO.out _).mono ?_; rintro e w2 ⟨rfl, hb2⟩) | (go_at_call 33; refine (hQ.out _).mono ?_; rintro e w2 ⟨rfl, hb2⟩) | (go_at_call 13; refine (works_any _ ?_).mono ?_; (apply opow; assumption); rintro e w2 ⟨rfl, hb2⟩))
    go_wp2
    go_ret
    exact ⟨rfl, obelow (by assumption)⟩
  · go_enter Tryd.func6, Tryd.ntmps6
    go_wp2_with fail
    refine (works_any _ hp0).mono ?_
    rintro e w2 ⟨rfl, hb2⟩
    go_wp2
    go_ret
    exact ⟨rfl, b0.trans (hb2.mono b0.size)⟩
end Go.Proofs.YtmbnhbocablgeaaDoor
