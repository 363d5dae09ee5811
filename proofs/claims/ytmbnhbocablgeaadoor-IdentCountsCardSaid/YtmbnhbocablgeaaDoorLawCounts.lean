/- IdentCounts returns true; memory that lay stays. Condition: the table of powers of ten lies as its initialiser lays it. -/
import Derived.Test.YtmbnhbocablgeaaDoorPlNum
import Derived.Test.YtmbnhbocablgeaaDoorWorks
namespace Go.Proofs.YtmbnhbocablgeaaDoor
open Go.RowKit

theorem fromR_yes {k : Int} (h1 : 1 ≤ k) (h2 : k ≤ 1680728) : fromR k = (fromV k, 0) := by unfold fromR; rw [if_pos ⟨h1, h2⟩]
theorem fromR_no {k : Int} (h : ¬ (1 ≤ k ∧ k ≤ 1680728)) : fromR k = (⟨0, 0, 0, 0, false, 0⟩, 3) := by unfold fromR; rw [if_neg h]

set_option maxHeartbeats 2000000 in
theorem counts_law (n y : Int) (w : World) (hp : Pow w) (hn1 : 0 ≤ n) (hn2 : n ≤ 4294967295) (hy1 : 0 ≤ y) (hy2 : y ≤ 4294967295) :
    Calls Tryd.prog 7 #[.int .u32 n, .int .u32 y] w fun e w' => e = .returned (.bool true) ∧ Below w.heap.size w w' := by
  have hm1 : 0 ≤ n % 1680728 := by omega
  have hm2 : n % 1680728 < 1680728 := by omega
  have hF := Lib.hid (fun W => fromNumber_any (1 + n % 1680728) W)
  rw [fromR_yes (by omega) (by omega)] at hF
  obtain ⟨h1, h2⟩ := fromV_num (k := 1 + n % 1680728) (by omega) (by omega)
  have h3 : decide (0 < (fromV (1 + n % 1680728)).m) = decide (1679832 < 1 + n % 1680728) := by
    by_cases h : 1 + n % 1680728 ≤ 1679832
    · rw [(fromV_low (by omega) h).1]
      simp; omega
    · have := (fromV_high (k := 1 + n % 1680728) (by omega) (by omega)).2.2.2.1
      rw [decide_eq_true (show 0 < (fromV (1 + n % 1680728)).m by omega), decide_eq_true (by omega)]
  have hG := Lib.hid (fun W => fromNumber_any (1680729 + y) W)
  have hK := Lib.hid (fun W => fromNumber_any (-y) W)
  rw [fromR_no (by omega)] at hG hK
  generalize hk : 1 + n % 1680728 = k at hF h1 h2 h3
  generalize fromV k = v at hF h1 h2 h3
  obtain ⟨a, b, c, m, i, g⟩ := v
  dsimp only at h1 h2 h3
  have hN := Lib.hid (fun W => number_all a b c m i g W)
  have hC := Lib.hid (fun W => checkItem_any a b c m i g W)
  rw [h2] at hN
  rw [ckItem_yes h1] at hC
  clear h1 h2
  go_enter Tryd.func7, Tryd.ntmps7
  go_wp2_with fail
  refine (hF.out _).mono ?_
  rintro e w1 ⟨rfl, hb1⟩
  have b1 := hb1.alloc hb1.size (.cells #[.int .i64 a, .int .i64 b, .int .i64 c, .int .i64 m, .bool i, .int .i64 g] 33)
  have B1 := Whole.new w1 33 #[.int .i64 a, .int .i64 b, .int .i64 c, .int .i64 m, .bool i, .int .i64 g]
  clear hb1
  go_wp2_with fail
  refine (hN.out _).mono ?_
  rintro e w2 ⟨rfl, hb2⟩
  have b2 := b1.trans (hb2.mono b1.size)
  have B2 := B1.below hb2 B1.lt
  have x0 := B2.cell 0
  have x1 := B2.cell 1
  have x2 := B2.cell 2
  have x3 := B2.cell 3
  have x4 := B2.cell 4
  have x5 := B2.cell 5
  simp only [List.getElem?_toArray, List.getElem?_cons_succ, List.getElem?_cons_zero] at x0 x1 x2 x3 x4 x5
  clear b1 B1 hb2
  go_wp2_with fail
  refine (hC.out _).mono ?_
  rintro e w3 ⟨rfl, hb3⟩
  have b3 := b2.trans (hb3.mono b2.size)
  have B3 := B2.below hb3 B2.lt
  clear b2 B2 hb3 x0 x1 x2 x3 x4 x5
  have x3 := B3.cell 3
  simp only [List.getElem?_toArray, List.getElem?_cons_succ, List.getElem?_cons_zero] at x3
  go_wp2_with fail
  refine (hG.out _).mono ?_
  rintro e w4 ⟨rfl, hb4⟩
  have b4 := (b3.trans (hb4.mono b3.size)).alloc (Nat.le_trans b3.size hb4.size) (.cells #[.int .i64 0, .int .i64 0, .int .i64 0, .int .i64 0, .bool false, .int .i64 0] 33)
  have B4 := Whole.new w4 33 #[.int .i64 0, .int .i64 0, .int .i64 0, .int .i64 0, .bool false, .int .i64 0]
  clear b3 hb4 x3 B3
  go_wp2_with fail
  refine (hK.out _).mono ?_
  rintro e w5 ⟨rfl, hb5⟩
  have b5 := (b4.trans (hb5.mono b4.size)).alloc (Nat.le_trans b4.size hb5.size) (.cells #[.int .i64 0, .int .i64 0, .int .i64 0, .int .i64 0, .bool false, .int .i64 0] 33)
  have B5 := (B4.below hb5 B4.lt).alloc (.cells #[.int .i64 0, .int .i64 0, .int .i64 0, .int .i64 0, .bool false, .int .i64 0] 33)
  have C5 := Whole.new w5 33 #[.int .i64 0, .int .i64 0, .int .i64 0, .int .i64 0, .bool false, .int .i64 0]
  have x0 := B5.cell 0
  have x1 := B5.cell 1
  have x2 := B5.cell 2
  have x3 := B5.cell 3
  have x4 := B5.cell 4
  have x5 := B5.cell 5
  have y0 := C5.cell 0
  have y1 := C5.cell 1
  have y2 := C5.cell 2
  have y3 := C5.cell 3
  have y4 := C5.cell 4
  have y5 := C5.cell 5
  simp only [List.getElem?_toArray, List.getElem?_cons_succ, List.getElem?_cons_zero] at x0 x1 x2 x3 x4 x5 y0 y1 y2 y3 y4 y5
  have hp5 := hp.below b5
  clear b4 hb5 B4 B5 C5
  go_wp2_with fail
  refine (works_any _ hp5).mono ?_
  rintro e w6 ⟨rfl, hb6⟩
  go_wp2
  go_ret
  exact ⟨rfl, b5.trans (hb6.mono b5.size)⟩
end Go.Proofs.YtmbnhbocablgeaaDoor
