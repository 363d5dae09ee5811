/- IdentSorts returns true; memory that lay stays. Condition: the table of powers of ten lies as its initialiser lays it. -/
import Derived.Test.YtmbnhbocablgeaaDoorLawBack
import Derived.Test.YtmbnhbocablgeaaDoorPlNum
namespace Go.Proofs.YtmbnhbocablgeaaDoor
open Go.RowKit

theorem ord_cases (a b c x y z : Int) : ordEff x y z a b c = -ordEff a b c x y z ∧ -1 ≤ ordEff a b c x y z ∧ ordEff a b c x y z ≤ 1 ∧ (ordEff a b c x y z = 0 ↔ a = x ∧ b = y ∧ c = z) := by
  unfold ordEff cmpI
  repeat' split
  all_goals omega
theorem ord_num {a b c x y z : Int} (h : effOk a b c) (k : effOk x y z) : ordEff a b c x y z = cmpI (numEff a b c 3) (numEff x y z 3) := by
  unfold effOk at h k
  unfold ordEff cmpI numEff
  repeat' split
  all_goals omega
theorem cmp1 (x y : Int) : (x < y ∧ decide (x < y) = true ∧ cmpI x y = -1) ∨ (x = y ∧ decide (x < y) = false ∧ cmpI x y = 0) ∨ (y < x ∧ decide (x < y) = false ∧ cmpI x y = 1) := by
  simp only [decide_eq_true_eq, decide_eq_false_iff_not]
  unfold cmpI
  repeat' split
  all_goals omega
theorem eff_eq (a b c d e f : Int) (W : World) : (binOp .eql 23 (.agg #[.int .i64 a, .int .i64 b, .int .i64 c]) (.agg #[.int .i64 d, .int .i64 e, .int .i64 f])).run Tryd.prog W = .ok (.bool (decide (a = d ∧ b = e ∧ c = f))) W := by
  by_cases h1 : a = d
  · by_cases h2 : b = e
    · by_cases h3 : c = f
      · go_simp
      · go_simp
    · go_simp
  · go_simp

theorem wrap16 (v : Int) : 0 ≤ IntKind.u16.wrap v ∧ IntKind.u16.wrap v ≤ 65535 := by
  have h : IntKind.u16.wrap v = v % 65536 := by simp [IntKind.wrap, IntKind.signed, IntKind.bits]
  rw [h]
  omega
/-- What an effect from a number is, whatever it is: valid; it has a number. -/
theorem made_num (x : Int) :
    ∃ a b c n : Int, effOk a b c ∧ n = numEff a b c 3 ∧ (∀ W : World, Calls Tryd.prog 34 #[.int .u16 (IntKind.u16.wrap (x / 256)), .int .u8 (x / 16 % 16), .int .u8 (x % 16)] W fun e w' => e = .returned (.agg #[.int .i64 a, .int .i64 b, .int .i64 c]) ∧ Below W.heap.size W w') ∧
      (∀ W : World, Calls Tryd.prog 26 #[.agg #[.int .i64 a, .int .i64 b, .int .i64 c, .int .i64 0, .bool false, .int .i64 3]] W fun e w' => e = .returned (.tuple #[.int .i64 n, .int .i64 0]) ∧ Below W.heap.size W w') := by
  have hw := wrap16 (x / 256)
  have hv : effOk (1 + IntKind.u16.wrap (x / 256) % 9999) (x / 16 % 16 % 8) (1 + x % 16 % 3) := by unfold effOk; omega
  exact ⟨_, _, _, _, hv, rfl, fun W => made_any _ _ _ W hw.1 hw.2 (by omega) (by omega) (by omega) (by omega), fun W => number_eff _ _ _ 3 W (by omega) (by omega) hv⟩

theorem skeep {w wc w2 : World} {n L : Nat} {pa0 pb0 pc0 pa1 pb1 pc1 pa2 pb2 pc2 nn0 nn1 nn2 : Int} (hH : wc.cell? ⟨L, 0, none⟩ = some (.int .i64 pa0) ∧ wc.cell? ⟨L, 1, none⟩ = some (.int .i64 pb0) ∧ wc.cell? ⟨L, 2, none⟩ = some (.int .i64 pc0) ∧ wc.cell? ⟨L, 3, none⟩ = some (.int .i64 pa1) ∧ wc.cell? ⟨L, 4, none⟩ = some (.int .i64 pb1) ∧ wc.cell? ⟨L, 5, none⟩ = some (.int .i64 pc1) ∧ wc.cell? ⟨L, 6, none⟩ = some (.int .i64 pa2) ∧ wc.cell? ⟨L, 7, none⟩ = some (.int .i64 pb2) ∧ wc.cell? ⟨L, 8, none⟩ = some (.int .i64 pc2) ∧ wc.cell? ⟨L + 1, 0, none⟩ = some (.int .i64 nn0) ∧ wc.cell? ⟨L + 1, 1, none⟩ = some (.int .i64 nn1) ∧ wc.cell? ⟨L + 1, 2, none⟩ = some (.int .i64 nn2) ∧ Below n w wc ∧ L + 1 < wc.heap.size ∧ n ≤ wc.heap.size) (hb : Below wc.heap.size wc w2) : w2.cell? ⟨L, 0, none⟩ = some (.int .i64 pa0) ∧ w2.cell? ⟨L, 1, none⟩ = some (.int .i64 pb0) ∧ w2.cell? ⟨L, 2, none⟩ = some (.int .i64 pc0) ∧ w2.cell? ⟨L, 3, none⟩ = some (.int .i64 pa1) ∧ w2.cell? ⟨L, 4, none⟩ = some (.int .i64 pb1) ∧ w2.cell? ⟨L, 5, none⟩ = some (.int .i64 pc1) ∧ w2.cell? ⟨L, 6, none⟩ = some (.int .i64 pa2) ∧ w2.cell? ⟨L, 7, none⟩ = some (.int .i64 pb2) ∧ w2.cell? ⟨L, 8, none⟩ = some (.int .i64 pc2) ∧ w2.cell? ⟨L + 1, 0, none⟩ = some (.int .i64 nn0) ∧ w2.cell? ⟨L + 1, 1, none⟩ = some (.int .i64 nn1) ∧ w2.cell? ⟨L + 1, 2, none⟩ = some (.int .i64 nn2) ∧ Below n w w2 ∧ L + 1 < w2.heap.size ∧ n ≤ w2.heap.size := by
  obtain ⟨h0, h1, h2, h3, h4, h5, h6, h7, h8, h9, h10, h11, hw, l1, l2⟩ := hH
  exact ⟨(hb.cell (show L < wc.heap.size by omega)).trans h0, (hb.cell (show L < wc.heap.size by omega)).trans h1, (hb.cell (show L < wc.heap.size by omega)).trans h2, (hb.cell (show L < wc.heap.size by omega)).trans h3, (hb.cell (show L < wc.heap.size by omega)).trans h4, (hb.cell (show L < wc.heap.size by omega)).trans h5, (hb.cell (show L < wc.heap.size by omega)).trans h6, (hb.cell (show L < wc.heap.size by omega)).trans h7, (hb.cell (show L < wc.heap.size by omega)).trans h8, (hb.cell l1).trans h9, (hb.cell l1).trans h10, (hb.cell l1).trans h11, hw.trans (hb.mono l2), Nat.lt_of_lt_of_le l1 hb.size, Nat.le_trans l2 hb.size⟩

set_option maxRecDepth 100000 in
set_option maxHeartbeats 16000000 in
theorem sorts_law (a b c d e f x y z : Int) (w : World) (hx0 : 0 ≤ x) (hx9 : x ≤ 4294967295) (hy0 : 0 ≤ y) (hy9 : y ≤ 4294967295) (hz0 : 0 ≤ z) (hz9 : z ≤ 4294967295) (hp : Pow w) :
    Calls Tryd.prog 8 #[.agg #[.int .i64 a, .int .i64 b, .int .i64 c], .agg #[.int .i64 d, .int .i64 e, .int .i64 f], .int .u32 x, .int .u32 y, .int .u32 z] w fun e w' => e = .returned (.bool true) ∧ Below w.heap.size w w' := by
  obtain ⟨pa0, pb0, pc0, nn0, hv0, hn0, hM0, hN0⟩ := made_num x
  replace hM0 := Lib.hid hM0
  replace hN0 := Lib.hid hN0
  obtain ⟨pa1, pb1, pc1, nn1, hv1, hn1, hM1, hN1⟩ := made_num y
  replace hM1 := Lib.hid hM1
  replace hN1 := Lib.hid hN1
  obtain ⟨pa2, pb2, pc2, nn2, hv2, hn2, hM2, hN2⟩ := made_num z
  replace hM2 := Lib.hid hM2
  replace hN2 := Lib.hid hN2
  obtain ⟨r01, hE01, hr01⟩ : ∃ r : Int, Hid (ordEff pa0 pb0 pc0 pa1 pb1 pc1 = r) ∧ Hid ((nn0 < nn1 ∧ decide (nn0 < nn1) = true ∧ r = -1) ∨ (nn0 = nn1 ∧ decide (nn0 < nn1) = false ∧ r = 0) ∨ (nn1 < nn0 ∧ decide (nn0 < nn1) = false ∧ r = 1)) := ⟨_, Lib.hid rfl, Lib.hid (by rw [ord_num hv0 hv1, ← hn0, ← hn1]; exact cmp1 nn0 nn1)⟩
  obtain ⟨r12, hE12, hr12⟩ : ∃ r : Int, Hid (ordEff pa1 pb1 pc1 pa2 pb2 pc2 = r) ∧ Hid ((nn1 < nn2 ∧ decide (nn1 < nn2) = true ∧ r = -1) ∨ (nn1 = nn2 ∧ decide (nn1 < nn2) = false ∧ r = 0) ∨ (nn2 < nn1 ∧ decide (nn1 < nn2) = false ∧ r = 1)) := ⟨_, Lib.hid rfl, Lib.hid (by rw [ord_num hv1 hv2, ← hn1, ← hn2]; exact cmp1 nn1 nn2)⟩
  obtain ⟨r02, hE02, hr02⟩ : ∃ r : Int, Hid (ordEff pa0 pb0 pc0 pa2 pb2 pc2 = r) ∧ Hid ((nn0 < nn2 ∧ decide (nn0 < nn2) = true ∧ r = -1) ∨ (nn0 = nn2 ∧ decide (nn0 < nn2) = false ∧ r = 0) ∨ (nn2 < nn0 ∧ decide (nn0 < nn2) = false ∧ r = 1)) := ⟨_, Lib.hid rfl, Lib.hid (by rw [ord_num hv0 hv2, ← hn0, ← hn2]; exact cmp1 nn0 nn2)⟩
  clear hv0 hv1 hv2 hn0 hn1 hn2
  have hO := Lib.hid (fun W => order_any a b c d e f W)
  have hQ := Lib.hid (fun W => order_any d e f a b c W)
  obtain ⟨q1, q2, q3, q4⟩ := ord_cases a b c d e f
  have hcmp := eff_eq a b c d e f
  rw [q1] at hQ
  rw [show decide (a = d ∧ b = e ∧ c = f) = (ordEff a b c d e f == 0) by
    rw [Bool.eq_iff_iff]; simp [q4]] at hcmp
  clear q1 q4
  generalize ordEff a b c d e f = o1 at hO hQ q2 q3 hcmp
  have B0 := (Whole.new w 23 #[.int .i64 a, .int .i64 b, .int .i64 c]).alloc (.cells #[.int .i64 d, .int .i64 e, .int .i64 f] 23)
  have C0 := Whole.new (w.alloc (.cells #[.int .i64 a, .int .i64 b, .int .i64 c] 23)) 23 #[.int .i64 d, .int .i64 e, .int .i64 f]
  rw [World.size_alloc] at C0
  have b0 : Below w.heap.size w ((w.alloc (.cells #[.int .i64 a, .int .i64 b, .int .i64 c] 23)).alloc (.cells #[.int .i64 d, .int .i64 e, .int .i64 f] 23)) := by go_grown
  have hd1 : decide (o1 < -1) = false := by simp; omega
  have hd2 : decide (1 < o1) = false := by simp; omega
  go_enter Tryd.func8, Tryd.ntmps8
  go_wp2_with fail
  refine (hO.out _).mono ?_
  rintro e w1 ⟨rfl, hb1⟩
  have B1 := B0.below hb1 B0.lt
  have C1 := C0.below hb1 C0.lt
  have b1 := b0.trans (hb1.mono b0.size)
  have u0 := B1.cell 0
  have u1 := B1.cell 1
  have u2 := B1.cell 2
  simp only [List.getElem?_toArray, List.getElem?_cons_succ, List.getElem?_cons_zero] at u0 u1 u2
  have v0 := C1.cell 0
  have v1 := C1.cell 1
  have v2 := C1.cell 2
  simp only [List.getElem?_toArray, List.getElem?_cons_succ, List.getElem?_cons_zero] at v0 v1 v2
  clear B0 C0 b0 hb1
  go_wp2_with fail
  refine (hQ.out _).mono ?_
  rintro e w2 ⟨rfl, hb2⟩
  have B2 := B1.below hb2 B1.lt
  have C2 := C1.below hb2 C1.lt
  have b2 := b1.trans (hb2.mono b1.size)
  clear u0 u1 u2 v0 v1 v2
  have u0 := B2.cell 0
  have u1 := B2.cell 1
  have u2 := B2.cell 2
  simp only [List.getElem?_toArray, List.getElem?_cons_succ, List.getElem?_cons_zero] at u0 u1 u2
  have v0 := C2.cell 0
  have v1 := C2.cell 1
  have v2 := C2.cell 2
  simp only [List.getElem?_toArray, List.getElem?_cons_succ, List.getElem?_cons_zero] at v0 v1 v2
  clear B1 C1 b1 hb2 B2 C2
  go_wp2_with fail
  have hL := b2.size
  have BL := ((Whole.new w2 48 #[.int .i64 0, .int .i64 0, .int .i64 0, .int .i64 0, .int .i64 0, .int .i64 0, .int .i64 0, .int .i64 0, .int .i64 0]).alloc (.cells #[.int .i64 0, .int .i64 0, .int .i64 0] 49)).alloc (.cells #[.int .u32 x, .int .u32 y, .int .u32 z] 46)
  have BN := (Whole.new (w2.alloc (.cells #[.int .i64 0, .int .i64 0, .int .i64 0, .int .i64 0, .int .i64 0, .int .i64 0, .int .i64 0, .int .i64 0, .int .i64 0] 48)) 49 #[.int .i64 0, .int .i64 0, .int .i64 0]).alloc (.cells #[.int .u32 x, .int .u32 y, .int .u32 z] 46)
  have BS := Whole.new ((w2.alloc (.cells #[.int .i64 0, .int .i64 0, .int .i64 0, .int .i64 0, .int .i64 0, .int .i64 0, .int .i64 0, .int .i64 0, .int .i64 0] 48)).alloc (.cells #[.int .i64 0, .int .i64 0, .int .i64 0] 49)) 46 #[.int .u32 x, .int .u32 y, .int .u32 z]
  rw [World.size_alloc] at BN
  rw [World.size_alloc, World.size_alloc] at BS
  have bW : Below w.heap.size w (((w2.alloc (.cells #[.int .i64 0, .int .i64 0, .int .i64 0, .int .i64 0, .int .i64 0, .int .i64 0, .int .i64 0, .int .i64 0, .int .i64 0] 48)).alloc (.cells #[.int .i64 0, .int .i64 0, .int .i64 0] 49)).alloc (.cells #[.int .u32 x, .int .u32 y, .int .u32 z] 46)) := b2.trans (by go_grown)
  clear b2 hO hQ hcmp
  go_loopw [51] (fun v wr => Below w.heap.size w wr ∧ Whole wr (w2.heap.size + 2) 46 #[.int .u32 x, .int .u32 y, .int .u32 z] ∧ ((v = .int .i64 0 ∧ Whole wr w2.heap.size 48 #[.int .i64 0, .int .i64 0, .int .i64 0, .int .i64 0, .int .i64 0, .int .i64 0, .int .i64 0, .int .i64 0, .int .i64 0] ∧ Whole wr (w2.heap.size + 1) 49 #[.int .i64 0, .int .i64 0, .int .i64 0]) ∨ (v = .int .i64 1 ∧ Whole wr w2.heap.size 48 #[.int .i64 pa0, .int .i64 pb0, .int .i64 pc0, .int .i64 0, .int .i64 0, .int .i64 0, .int .i64 0, .int .i64 0, .int .i64 0] ∧ Whole wr (w2.heap.size + 1) 49 #[.int .i64 nn0, .int .i64 0, .int .i64 0]) ∨ (v = .int .i64 2 ∧ Whole wr w2.heap.size 48 #[.int .i64 pa0, .int .i64 pb0, .int .i64 pc0, .int .i64 pa1, .int .i64 pb1, .int .i64 pc1, .int .i64 0, .int .i64 0, .int .i64 0] ∧ Whole wr (w2.heap.size + 1) 49 #[.int .i64 nn0, .int .i64 nn1, .int .i64 0]) ∨ (v = .int .i64 3 ∧ Whole wr w2.heap.size 48 #[.int .i64 pa0, .int .i64 pb0, .int .i64 pc0, .int .i64 pa1, .int .i64 pb1, .int .i64 pc1, .int .i64 pa2, .int .i64 pb2, .int .i64 pc2] ∧ Whole wr (w2.heap.size + 1) 49 #[.int .i64 nn0, .int .i64 nn1, .int .i64 nn2]))) (fun v _ => (3 - intOf v).toNat)
  case atStart => exact ⟨bW, BS, .inl ⟨rfl, BL, BN⟩⟩
  case round =>
  clear bW BS BL BN
  obtain ⟨bW, BS, ⟨rfl, BL, BN⟩ | ⟨rfl, BL, BN⟩ | ⟨rfl, BL, BN⟩ | ⟨rfl, BL, BN⟩⟩ := hrel
  · have x0 := BS.cell 0
    have x1 := BS.cell 1
    have x2 := BS.cell 2
    simp only [List.getElem?_toArray, List.getElem?_cons_succ, List.getElem?_cons_zero] at x0 x1 x2
    go_wp2_with fail
    refine (hM0.out _).mono ?_
    rintro e w3 ⟨rfl, hb3⟩
    have BL3 := BL.below hb3 BL.lt
    have BN3 := BN.below hb3 BN.lt
    have BS3 := BS.below hb3 BS.lt
    have b3 := bW.trans (hb3.mono bW.size)
    clear x0 x1 x2 hb3 BL BN BS bW
    have x0 := BL3.cell 0
    have x1 := BL3.cell 1
    have x2 := BL3.cell 2
    have x3 := BL3.cell 3
    have x4 := BL3.cell 4
    have x5 := BL3.cell 5
    have x6 := BL3.cell 6
    have x7 := BL3.cell 7
    have x8 := BL3.cell 8
    simp only [List.getElem?_toArray, List.getElem?_cons_succ, List.getElem?_cons_zero] at x0 x1 x2 x3 x4 x5 x6 x7 x8
    have f0 := BL3.fr 0
    have f1 := BL3.fr 1
    have f2 := BL3.fr 2
    have f3 := BL3.fr 3
    have f4 := BL3.fr 4
    have f5 := BL3.fr 5
    have f6 := BL3.fr 6
    have f7 := BL3.fr 7
    have f8 := BL3.fr 8
    have g0 := BN3.fr 0
    go_wp2_with fail
    refine (hN0.out _).mono ?_
    rintro e w4 ⟨rfl, hb4⟩
    have BL4 := ((((BL3.put 0 (.int .i64 pa0)).put 1 (.int .i64 pb0)).put 2 (.int .i64 pc0)).below hb4 (((BL3.put 0 (.int .i64 pa0)).put 1 (.int .i64 pb0)).put 2 (.int .i64 pc0)).lt).far (p := ⟨w2.heap.size + 1, 0, none⟩) (by simp) (.int .i64 nn0)
    have BN4 := (((((BN3.far (p := ⟨w2.heap.size, 0, none⟩) (by simp) (.int .i64 pa0)).far (p := ⟨w2.heap.size, 1, none⟩) (by simp) (.int .i64 pb0)).far (p := ⟨w2.heap.size, 2, none⟩) (by simp) (.int .i64 pc0)).below hb4 (by have := BN3.lt; simpa using this))).put 0 (.int .i64 nn0)
    have BS4 := (((((BS3.far (p := ⟨w2.heap.size, 0, none⟩) (by simp) (.int .i64 pa0)).far (p := ⟨w2.heap.size, 1, none⟩) (by simp) (.int .i64 pb0)).far (p := ⟨w2.heap.size, 2, none⟩) (by simp) (.int .i64 pc0)).below hb4 (by have := BS3.lt; simpa using this))).far (p := ⟨w2.heap.size + 1, 0, none⟩) (by simp) (.int .i64 nn0)
    have b3' := ((b3.setCell (p := ⟨w2.heap.size, 0, none⟩) hL (.int .i64 pa0)).setCell (p := ⟨w2.heap.size, 1, none⟩) hL (.int .i64 pb0)).setCell (p := ⟨w2.heap.size, 2, none⟩) hL (.int .i64 pc0)
    have b4 := (b3'.trans (hb4.mono b3'.size)).setCell (p := ⟨w2.heap.size + 1, 0, none⟩) (Nat.le_trans hL (Nat.le_succ _)) (.int .i64 nn0)
    have g4 := ((((BN3.far (p := ⟨w2.heap.size, 0, none⟩) (by simp) (.int .i64 pa0)).far (p := ⟨w2.heap.size, 1, none⟩) (by simp) (.int .i64 pb0)).far (p := ⟨w2.heap.size, 2, none⟩) (by simp) (.int .i64 pc0)).below hb4 (by have := BN3.lt; simpa using this))
    have k0 := g4.cell 0
    have k1 := g4.fr 0
    simp only [List.getElem?_toArray, List.getElem?_cons_zero] at k0
    clear x0 x1 x2 x3 x4 x5 x6 x7 x8 f0 f1 f2 f3 f4 f5 f6 f7 f8 g0 g4 BL3 BN3 BS3 hb4 b3 b3'
    go_wp2
    go_roundw
    case rel => exact ⟨b4, BS4, .inr (.inl ⟨rfl, BL4, BN4⟩)⟩
    case measure => simp [intOf]
  · have x0 := BS.cell 0
    have x1 := BS.cell 1
    have x2 := BS.cell 2
    simp only [List.getElem?_toArray, List.getElem?_cons_succ, List.getElem?_cons_zero] at x0 x1 x2
    go_wp2_with fail
    refine (hM1.out _).mono ?_
    rintro e w3 ⟨rfl, hb3⟩
    have BL3 := BL.below hb3 BL.lt
    have BN3 := BN.below hb3 BN.lt
    have BS3 := BS.below hb3 BS.lt
    have b3 := bW.trans (hb3.mono bW.size)
    clear x0 x1 x2 hb3 BL BN BS bW
    have x0 := BL3.cell 0
    have x1 := BL3.cell 1
    have x2 := BL3.cell 2
    have x3 := BL3.cell 3
    have x4 := BL3.cell 4
    have x5 := BL3.cell 5
    have x6 := BL3.cell 6
    have x7 := BL3.cell 7
    have x8 := BL3.cell 8
    simp only [List.getElem?_toArray, List.getElem?_cons_succ, List.getElem?_cons_zero] at x0 x1 x2 x3 x4 x5 x6 x7 x8
    have f0 := BL3.fr 0
    have f1 := BL3.fr 1
    have f2 := BL3.fr 2
    have f3 := BL3.fr 3
    have f4 := BL3.fr 4
    have f5 := BL3.fr 5
    have f6 := BL3.fr 6
    have f7 := BL3.fr 7
    have f8 := BL3.fr 8
    have g0 := BN3.fr 1
    go_wp2_with fail
    refine (hN1.out _).mono ?_
    rintro e w4 ⟨rfl, hb4⟩
    have BL4 := ((((BL3.put 3 (.int .i64 pa1)).put 4 (.int .i64 pb1)).put 5 (.int .i64 pc1)).below hb4 (((BL3.put 3 (.int .i64 pa1)).put 4 (.int .i64 pb1)).put 5 (.int .i64 pc1)).lt).far (p := ⟨w2.heap.size + 1, 1, none⟩) (by simp) (.int .i64 nn1)
    have BN4 := (((((BN3.far (p := ⟨w2.heap.size, 3, none⟩) (by simp) (.int .i64 pa1)).far (p := ⟨w2.heap.size, 4, none⟩) (by simp) (.int .i64 pb1)).far (p := ⟨w2.heap.size, 5, none⟩) (by simp) (.int .i64 pc1)).below hb4 (by have := BN3.lt; simpa using this))).put 1 (.int .i64 nn1)
    have BS4 := (((((BS3.far (p := ⟨w2.heap.size, 3, none⟩) (by simp) (.int .i64 pa1)).far (p := ⟨w2.heap.size, 4, none⟩) (by simp) (.int .i64 pb1)).far (p := ⟨w2.heap.size, 5, none⟩) (by simp) (.int .i64 pc1)).below hb4 (by have := BS3.lt; simpa using this))).far (p := ⟨w2.heap.size + 1, 1, none⟩) (by simp) (.int .i64 nn1)
    have b3' := ((b3.setCell (p := ⟨w2.heap.size, 3, none⟩) hL (.int .i64 pa1)).setCell (p := ⟨w2.heap.size, 4, none⟩) hL (.int .i64 pb1)).setCell (p := ⟨w2.heap.size, 5, none⟩) hL (.int .i64 pc1)
    have b4 := (b3'.trans (hb4.mono b3'.size)).setCell (p := ⟨w2.heap.size + 1, 1, none⟩) (Nat.le_trans hL (Nat.le_succ _)) (.int .i64 nn1)
    have g4 := ((((BN3.far (p := ⟨w2.heap.size, 3, none⟩) (by simp) (.int .i64 pa1)).far (p := ⟨w2.heap.size, 4, none⟩) (by simp) (.int .i64 pb1)).far (p := ⟨w2.heap.size, 5, none⟩) (by simp) (.int .i64 pc1)).below hb4 (by have := BN3.lt; simpa using this))
    have k0 := g4.cell 1
    have k1 := g4.fr 1
    simp only [List.getElem?_toArray, List.getElem?_cons_succ, List.getElem?_cons_zero] at k0
    clear x0 x1 x2 x3 x4 x5 x6 x7 x8 f0 f1 f2 f3 f4 f5 f6 f7 f8 g0 g4 BL3 BN3 BS3 hb4 b3 b3'
    go_wp2
    go_roundw
    case rel => exact ⟨b4, BS4, .inr (.inr (.inl ⟨rfl, BL4, BN4⟩))⟩
    case measure => simp [intOf]
  · have x0 := BS.cell 0
    have x1 := BS.cell 1
    have x2 := BS.cell 2
    simp only [List.getElem?_toArray, List.getElem?_cons_succ, List.getElem?_cons_zero] at x0 x1 x2
    go_wp2_with fail
    refine (hM2.out _).mono ?_
    rintro e w3 ⟨rfl, hb3⟩
    have BL3 := BL.below hb3 BL.lt
    have BN3 := BN.below hb3 BN.lt
    have BS3 := BS.below hb3 BS.lt
    have b3 := bW.trans (hb3.mono bW.size)
    clear x0 x1 x2 hb3 BL BN BS bW
    have x0 := BL3.cell 0
    have x1 := BL3.cell 1
    have x2 := BL3.cell 2
    have x3 := BL3.cell 3
    have x4 := BL3.cell 4
    have x5 := BL3.cell 5
    have x6 := BL3.cell 6
    have x7 := BL3.cell 7
    have x8 := BL3.cell 8
    simp only [List.getElem?_toArray, List.getElem?_cons_succ, List.getElem?_cons_zero] at x0 x1 x2 x3 x4 x5 x6 x7 x8
    have f0 := BL3.fr 0
    have f1 := BL3.fr 1
    have f2 := BL3.fr 2
    have f3 := BL3.fr 3
    have f4 := BL3.fr 4
    have f5 := BL3.fr 5
    have f6 := BL3.fr 6
    have f7 := BL3.fr 7
    have f8 := BL3.fr 8
    have g0 := BN3.fr 2
    go_wp2_with fail
    refine (hN2.out _).mono ?_
    rintro e w4 ⟨rfl, hb4⟩
    have BL4 := ((((BL3.put 6 (.int .i64 pa2)).put 7 (.int .i64 pb2)).put 8 (.int .i64 pc2)).below hb4 (((BL3.put 6 (.int .i64 pa2)).put 7 (.int .i64 pb2)).put 8 (.int .i64 pc2)).lt).far (p := ⟨w2.heap.size + 1, 2, none⟩) (by simp) (.int .i64 nn2)
    have BN4 := (((((BN3.far (p := ⟨w2.heap.size, 6, none⟩) (by simp) (.int .i64 pa2)).far (p := ⟨w2.heap.size, 7, none⟩) (by simp) (.int .i64 pb2)).far (p := ⟨w2.heap.size, 8, none⟩) (by simp) (.int .i64 pc2)).below hb4 (by have := BN3.lt; simpa using this))).put 2 (.int .i64 nn2)
    have BS4 := (((((BS3.far (p := ⟨w2.heap.size, 6, none⟩) (by simp) (.int .i64 pa2)).far (p := ⟨w2.heap.size, 7, none⟩) (by simp) (.int .i64 pb2)).far (p := ⟨w2.heap.size, 8, none⟩) (by simp) (.int .i64 pc2)).below hb4 (by have := BS3.lt; simpa using this))).far (p := ⟨w2.heap.size + 1, 2, none⟩) (by simp) (.int .i64 nn2)
    have b3' := ((b3.setCell (p := ⟨w2.heap.size, 6, none⟩) hL (.int .i64 pa2)).setCell (p := ⟨w2.heap.size, 7, none⟩) hL (.int .i64 pb2)).setCell (p := ⟨w2.heap.size, 8, none⟩) hL (.int .i64 pc2)
    have b4 := (b3'.trans (hb4.mono b3'.size)).setCell (p := ⟨w2.heap.size + 1, 2, none⟩) (Nat.le_trans hL (Nat.le_succ _)) (.int .i64 nn2)
    have g4 := ((((BN3.far (p := ⟨w2.heap.size, 6, none⟩) (by simp) (.int .i64 pa2)).far (p := ⟨w2.heap.size, 7, none⟩) (by simp) (.int .i64 pb2)).far (p := ⟨w2.heap.size, 8, none⟩) (by simp) (.int .i64 pc2)).below hb4 (by have := BN3.lt; simpa using this))
    have k0 := g4.cell 2
    have k1 := g4.fr 2
    simp only [List.getElem?_toArray, List.getElem?_cons_succ, List.getElem?_cons_zero] at k0
    clear x0 x1 x2 x3 x4 x5 x6 x7 x8 f0 f1 f2 f3 f4 f5 f6 f7 f8 g0 g4 BL3 BN3 BS3 hb4 b3 b3'
    go_wp2
    go_roundw
    case rel => exact ⟨b4, BS4, .inr (.inr (.inr (⟨rfl, BL4, BN4⟩)))⟩
    case measure => simp [intOf]
  · have hS : wr.drew.cell? ⟨w2.heap.size, 0, none⟩ = some (.int .i64 pa0) ∧ wr.drew.cell? ⟨w2.heap.size, 1, none⟩ = some (.int .i64 pb0) ∧ wr.drew.cell? ⟨w2.heap.size, 2, none⟩ = some (.int .i64 pc0) ∧ wr.drew.cell? ⟨w2.heap.size, 3, none⟩ = some (.int .i64 pa1) ∧ wr.drew.cell? ⟨w2.heap.size, 4, none⟩ = some (.int .i64 pb1) ∧ wr.drew.cell? ⟨w2.heap.size, 5, none⟩ = some (.int .i64 pc1) ∧ wr.drew.cell? ⟨w2.heap.size, 6, none⟩ = some (.int .i64 pa2) ∧ wr.drew.cell? ⟨w2.heap.size, 7, none⟩ = some (.int .i64 pb2) ∧ wr.drew.cell? ⟨w2.heap.size, 8, none⟩ = some (.int .i64 pc2) ∧ wr.drew.cell? ⟨w2.heap.size + 1, 0, none⟩ = some (.int .i64 nn0) ∧ wr.drew.cell? ⟨w2.heap.size + 1, 1, none⟩ = some (.int .i64 nn1) ∧ wr.drew.cell? ⟨w2.heap.size + 1, 2, none⟩ = some (.int .i64 nn2) ∧ Below w.heap.size w wr.drew ∧ w2.heap.size + 1 < wr.drew.heap.size ∧ w.heap.size ≤ wr.drew.heap.size := ⟨BL.cell 0, BL.cell 1, BL.cell 2, BL.cell 3, BL.cell 4, BL.cell 5, BL.cell 6, BL.cell 7, BL.cell 8, BN.cell 0, BN.cell 1, BN.cell 2, bW.drew, BN.lt, bW.size⟩
    clear hM0 hM1 hM2 hN0 hN1 hN2 BL BN BS bW
    go_wp2_with fail
    go_region_held3 (fun w' => w'.cell? ⟨w2.heap.size, 0, none⟩ = some (.int .i64 pa0) ∧ w'.cell? ⟨w2.heap.size, 1, none⟩ = some (.int .i64 pb0) ∧ w'.cell? ⟨w2.heap.size, 2, none⟩ = some (.int .i64 pc0) ∧ w'.cell? ⟨w2.heap.size, 3, none⟩ = some (.int .i64 pa1) ∧ w'.cell? ⟨w2.heap.size, 4, none⟩ = some (.int .i64 pb1) ∧ w'.cell? ⟨w2.heap.size, 5, none⟩ = some (.int .i64 pc1) ∧ w'.cell? ⟨w2.heap.size, 6, none⟩ = some (.int .i64 pa2) ∧ w'.cell? ⟨w2.heap.size, 7, none⟩ = some (.int .i64 pb2) ∧ w'.cell? ⟨w2.heap.size, 8, none⟩ = some (.int .i64 pc2) ∧ w'.cell? ⟨w2.heap.size + 1, 0, none⟩ = some (.int .i64 nn0) ∧ w'.cell? ⟨w2.heap.size + 1, 1, none⟩ = some (.int .i64 nn1) ∧ w'.cell? ⟨w2.heap.size + 1, 2, none⟩ = some (.int .i64 nn2) ∧ Below w.heap.size w w' ∧ w2.heap.size + 1 < w'.heap.size ∧ w.heap.size ≤ w'.heap.size)
      (first | exact hS | (refine skeep ?_ hb2; assumption) | assumption)
      (first | (go_at_call 32; refine (order_any _ _ _ _ _ _ _).mono ?_; rintro e w5 ⟨rfl, hb2⟩))
    have hF : w5.cell? ⟨w2.heap.size, 0, none⟩ = some (.int .i64 pa0) ∧ w5.cell? ⟨w2.heap.size, 1, none⟩ = some (.int .i64 pb0) ∧ w5.cell? ⟨w2.heap.size, 2, none⟩ = some (.int .i64 pc0) ∧ w5.cell? ⟨w2.heap.size, 3, none⟩ = some (.int .i64 pa1) ∧ w5.cell? ⟨w2.heap.size, 4, none⟩ = some (.int .i64 pb1) ∧ w5.cell? ⟨w2.heap.size, 5, none⟩ = some (.int .i64 pc1) ∧ w5.cell? ⟨w2.heap.size, 6, none⟩ = some (.int .i64 pa2) ∧ w5.cell? ⟨w2.heap.size, 7, none⟩ = some (.int .i64 pb2) ∧ w5.cell? ⟨w2.heap.size, 8, none⟩ = some (.int .i64 pc2) ∧ w5.cell? ⟨w2.heap.size + 1, 0, none⟩ = some (.int .i64 nn0) ∧ w5.cell? ⟨w2.heap.size + 1, 1, none⟩ = some (.int .i64 nn1) ∧ w5.cell? ⟨w2.heap.size + 1, 2, none⟩ = some (.int .i64 nn2) ∧ Below w.heap.size w w5 ∧ w2.heap.size + 1 < w5.heap.size ∧ w.heap.size ≤ w5.heap.size := by assumption
    obtain ⟨_, _, _, _, _, _, _, _, _, m0, m1, m2, bF, _, _⟩ := hF
    have hpF := hp.below bF
    rw [hE01.out, hE12.out, hE02.out]
    clear hS hE01 hE12 hE02
    have k01 := hr01.out
    have k12 := hr12.out
    have k02 := hr02.out
    clear hr01 hr12 hr02
    rcases k01 with ⟨k01, d01, rfl⟩ | ⟨k01, d01, rfl⟩ | ⟨k01, d01, rfl⟩
    all_goals rcases k12 with ⟨k12, d12, rfl⟩ | ⟨k12, d12, rfl⟩ | ⟨k12, d12, rfl⟩
    all_goals rcases k02 with ⟨k02, d02, rfl⟩ | ⟨k02, d02, rfl⟩ | ⟨k02, d02, rfl⟩
    all_goals first
      | (exfalso; omega)
      | (clear k01 k12 k02 d02
         go_wp2_with fail
         refine (works_any _ hpF).mono ?_
         rintro e w6 ⟨rfl, hb6⟩
         go_wp2
         go_ret
         exact ⟨rfl, bF.trans (hb6.mono bF.size)⟩)
end Go.Proofs.YtmbnhbocablgeaaDoor
