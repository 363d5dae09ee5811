/- IdentRefuses returns true; memory that lay stays. Condition: the table of powers of ten lies as its initialiser lays it. -/
import Derived.Test.YtmbnhbocablgeaaDoorLawBack
import Derived.Test.YtmbnhbocablgeaaDoorPlNum
import Derived.Test.YtmbnhbocablgeaaDoorTextAll
import Derived.Deep.DeepCutAuto
import Derived.Deep.CutBlock
namespace Go.Proofs.YtmbnhbocablgeaaDoor
open Go.RowKit

set_option maxRecDepth 100000 in
set_option maxHeartbeats 16000000 in
theorem refuses_law (n p r : Int) (w : World) (hn1 : 0 ≤ n) (hn2 : n ≤ 4294967295) (hp1 : 0 ≤ p) (hp2 : p ≤ 255) (hr1 : 0 ≤ r) (hr2 : r ≤ 65535) (hp : Pow w) :
    Calls Tryd.prog 9 #[.int .u32 n, .int .u8 p, .int .u16 r] w fun e w' => e = .returned (.bool true) ∧ Below w.heap.size w w' := by
  have hm1 : 0 ≤ n % 1680728 := by omega
  have hm2 : n % 1680728 < 1680728 := by omega
  have hX := Lib.hid (fun W => fromNumber_any (1 + n % 1680728) W)
  rw [show fromR (1 + n % 1680728) = (fromV (1 + n % 1680728), 0) by unfold fromR; rw [if_pos (by omega)]] at hX
  obtain ⟨hv, _⟩ := fromV_num (k := 1 + n % 1680728) (by omega) (by omega)
  generalize fromV (1 + n % 1680728) = v at hX hv
  obtain ⟨a, b, c, m, i, g⟩ := v
  dsimp only at hv
  have HV := Lib.hid hv
  clear hv
  go_enter Tryd.func9, Tryd.ntmps9
  go_wp2_with fail
  refine (hX.out _).mono ?_
  rintro e w1 ⟨rfl, hb1⟩
  have hL := hb1.size
  have b1 := hb1.alloc hb1.size (.cells #[.int .i64 a, .int .i64 b, .int .i64 c, .int .i64 m, .bool i, .int .i64 g] 33)
  have B1 := Whole.new w1 33 #[.int .i64 a, .int .i64 b, .int .i64 c, .int .i64 m, .bool i, .int .i64 g]
  clear hX
  go_upto_block 0 with fail
  generalize ht : p % 8 = t
  have h8 : t = 0 ∨ t = 1 ∨ t = 2 ∨ t = 3 ∨ t = 4 ∨ t = 5 ∨ t = 6 ∨ t = 7 := by omega
  clear ht
  go_cut [] (fun wx => ∃ (a b c m : Int) (i : Bool) (g : Int), Whole wx w1.heap.size 33 #[.int .i64 a, .int .i64 b, .int .i64 c, .int .i64 m, .bool i, .int .i64 g] ∧ Hid (¬ itemOk a b c m i g) ∧ Below w.heap.size w wx)
  case first =>
    have x0 := B1.cell 0
    have x1 := B1.cell 1
    have x2 := B1.cell 2
    have x3 := B1.cell 3
    have x4 := B1.cell 4
    have x5 := B1.cell 5
    simp only [List.getElem?_toArray, List.getElem?_cons_succ, List.getElem?_cons_zero] at x0 x1 x2 x3 x4 x5
    have f0 := B1.fr 0
    have f1 := B1.fr 1
    have f2 := B1.fr 2
    have f3 := B1.fr 3
    have f4 := B1.fr 4
    have f5 := B1.fr 5
    rcases h8 with rfl | rfl | rfl | rfl | rfl | rfl | rfl | rfl
    · go_wp2
      go_meet
      exact ⟨(a), (b), (c), (m), (i), (8 + r), Whole.new w1 _ _, Lib.hid (fun h => by obtain ⟨⟨h1, h2⟩, _⟩ := h; omega), hb1.alloc hb1.size _⟩
    · go_wp2
      go_meet
      exact ⟨(a), (b), (c), (m), (i), (-r), Whole.new w1 _ _, Lib.hid (fun h => by obtain ⟨⟨h1, h2⟩, _⟩ := h; omega), hb1.alloc hb1.size _⟩
    · go_wp2
      go_meet
      exact ⟨(a), (b), (c), (65 + r), (i), (g), Whole.new w1 _ _, Lib.hid (fun h => by rcases h.2 with ⟨h1, _⟩ | ⟨h1, h2, _⟩ <;> omega), hb1.alloc hb1.size _⟩
    · go_wp2
      go_meet
      exact ⟨(a), (b), (c), (-1 - r), (i), (g), Whole.new w1 _ _, Lib.hid (fun h => by rcases h.2 with ⟨h1, _⟩ | ⟨h1, h2, _⟩ <;> omega), hb1.alloc hb1.size _⟩
    all_goals
      obtain ⟨⟨g1, g2⟩, ⟨rfl, rfl, hv⟩ | ⟨m1, m2, rfl, rfl, rfl⟩⟩ := HV.out
      clear HV
    · go_wp2
      go_meet
      exact ⟨(a), (b), (c), (0), (true), (g), Whole.new w1 _ _, Lib.hid (fun h => by
          rcases h.2 with ⟨_, h1, _⟩ | ⟨h1, _⟩
          · cases h1
          · omega), hb1.alloc hb1.size _⟩
    · have hmz : ((m : Int) == 0) = false := by simp; omega
      go_wp2
      go_meet
      exact ⟨(1), (0), (0), (m), (i), (g), Whole.new w1 _ _, Lib.hid (fun h => by rcases h.2 with ⟨h1, _⟩ | ⟨_, _, h1, h2, h3⟩ <;> omega), hb1.alloc hb1.size _⟩
    · go_wp2
      go_meet
      exact ⟨(a), (8 + r), (c), (0), (false), (g), Whole.new w1 _ _, Lib.hid (fun h => by
          rcases h.2 with ⟨_, _, h1⟩ | ⟨h1, _⟩
          · unfold effOk at h1; omega
          · omega), hb1.alloc hb1.size _⟩
    · have hmz : ((m : Int) == 0) = false := by simp; omega
      go_wp2
      go_meet
      exact ⟨(0), (1 + r), (0), (m), (i), (g), Whole.new w1 _ _, Lib.hid (fun h => by rcases h.2 with ⟨h1, _⟩ | ⟨_, _, h1, h2, h3⟩ <;> omega), hb1.alloc hb1.size _⟩
    · go_wp2
      go_meet
      exact ⟨(a), (b), (4 + r), (0), (false), (g), Whole.new w1 _ _, Lib.hid (fun h => by
          rcases h.2 with ⟨_, _, h1⟩ | ⟨h1, _⟩
          · unfold effOk at h1; omega
          · omega), hb1.alloc hb1.size _⟩
    · have hmz : ((m : Int) == 0) = false := by simp; omega
      go_wp2
      go_meet
      exact ⟨(0), (0), (1), (m), (i), (g), Whole.new w1 _ _, Lib.hid (fun h => by rcases h.2 with ⟨h1, _⟩ | ⟨_, _, h1, h2, h3⟩ <;> omega), hb1.alloc hb1.size _⟩
    · go_wp2
      go_meet
      exact ⟨(10000 + r), (b), (c), (0), (false), (g), Whole.new w1 _ _, Lib.hid (fun h => by
          rcases h.2 with ⟨_, _, h1⟩ | ⟨h1, _⟩
          · unfold effOk at h1; omega
          · omega), hb1.alloc hb1.size _⟩
    · have hmz : ((m : Int) == 0) = false := by simp; omega
      go_wp2_with fail
      refine (made_any r p p _ hr1 hr2 hp1 hp2 hp1 hp2).mono ?_
      rintro e w3 ⟨rfl, hb3⟩
      have B3 := B1.below hb3 B1.lt
      have b3 := b1.trans (hb3.mono b1.size)
      clear x0 x1 x2 x3 x4 x5 f0 f1 f2 f3 f4 f5
      have f0 := B3.fr 0
      have f1 := B3.fr 1
      have f2 := B3.fr 2
      have x0 := B3.cell 0
      have x1 := B3.cell 1
      have x2 := B3.cell 2
      have x3 := B3.cell 3
      have x4 := B3.cell 4
      have x5 := B3.cell 5
      simp only [List.getElem?_toArray, List.getElem?_cons_succ, List.getElem?_cons_zero] at x0 x1 x2 x3 x4 x5
      go_wp2
      go_meet
      exact ⟨1 + r % 9999, p % 8, 1 + p % 3, m, i, g, ((B3.put 0 (.int .i64 (1 + r % 9999))).put 1 (.int .i64 (p % 8))).put 2 (.int .i64 (1 + p % 3)), Lib.hid (fun h => by rcases h.2 with ⟨h1, _⟩ | ⟨_, _, h1, h2, h3⟩ <;> omega),
        ((b3.setCell (p := ⟨w1.heap.size, 0, none⟩) hL _).setCell (p := ⟨w1.heap.size, 1, none⟩) hL _).setCell (p := ⟨w1.heap.size, 2, none⟩) hL _⟩
  case rest =>
    clear HV B1 b1 hb1
    obtain ⟨a, b, c, m, i, g, B2, hbad, b2⟩ := hcut
    have hE := Lib.hid (fun W => item_no a b c m i g W hbad.out)
    have hN := Lib.hid (fun W => number_no a b c m i g W hbad.out)
    have hC := Lib.hid (fun W => checkItem_any a b c m i g W)
    rw [ckItem_no hbad.out] at hC
    clear hbad
    have x0 := B2.cell 0
    have x1 := B2.cell 1
    have x2 := B2.cell 2
    have x3 := B2.cell 3
    have x4 := B2.cell 4
    have x5 := B2.cell 5
    simp only [List.getElem?_toArray, List.getElem?_cons_succ, List.getElem?_cons_zero] at x0 x1 x2 x3 x4 x5
    go_wp2_with fail
    refine (hE.out _).mono ?_
    rintro e w3 ⟨rfl, hb3⟩
    have B3 := B2.below hb3 B2.lt
    have b3 := b2.trans (hb3.mono b2.size)
    clear B2 b2 hb3 x0 x1 x2 x3 x4 x5
    have x0 := B3.cell 0
    have x1 := B3.cell 1
    have x2 := B3.cell 2
    have x3 := B3.cell 3
    have x4 := B3.cell 4
    have x5 := B3.cell 5
    simp only [List.getElem?_toArray, List.getElem?_cons_succ, List.getElem?_cons_zero] at x0 x1 x2 x3 x4 x5
    go_wp2_with fail
    refine (hN.out _).mono ?_
    rintro e w4 ⟨rfl, hb4⟩
    have B4 := B3.below hb4 B3.lt
    have b4 := b3.trans (hb4.mono b3.size)
    clear B3 b3 hb4 x0 x1 x2 x3 x4 x5
    have x0 := B4.cell 0
    have x1 := B4.cell 1
    have x2 := B4.cell 2
    have x3 := B4.cell 3
    have x4 := B4.cell 4
    have x5 := B4.cell 5
    simp only [List.getElem?_toArray, List.getElem?_cons_succ, List.getElem?_cons_zero] at x0 x1 x2 x3 x4 x5
    go_wp2_with fail
    refine (hC.out _).mono ?_
    rintro e w5 ⟨rfl, hb5⟩
    have b5 := b4.trans (hb5.mono b4.size)
    clear B4 b4 hb5 x0 x1 x2 x3 x4 x5 hE hN hC
    have b6 := b5.alloc b5.size (.cells #[.int .i64 (0), .int .i64 (0), .int .i64 (1), .int .i64 (-r), .int .i64 (0), .int .i64 (1), .int .i64 (10000 + r), .int .i64 (0), .int .i64 (1), .int .i64 (1), .int .i64 (8 + r), .int .i64 (1), .int .i64 (1), .int .i64 (-1 - r), .int .i64 (1), .int .i64 (1), .int .i64 (0), .int .i64 (0), .int .i64 (1), .int .i64 (0), .int .i64 (4 + r)] 23)
    have BS := Whole.new w5 23 #[.int .i64 (0), .int .i64 (0), .int .i64 (1), .int .i64 (-r), .int .i64 (0), .int .i64 (1), .int .i64 (10000 + r), .int .i64 (0), .int .i64 (1), .int .i64 (1), .int .i64 (8 + r), .int .i64 (1), .int .i64 (1), .int .i64 (-1 - r), .int .i64 (1), .int .i64 (1), .int .i64 (0), .int .i64 (0), .int .i64 (1), .int .i64 (0), .int .i64 (4 + r)]
    clear b5
    go_wp2_with fail
    go_loopw [144] (fun v wr => Below w.heap.size w wr ∧ Whole wr w5.heap.size 23 #[.int .i64 (0), .int .i64 (0), .int .i64 (1), .int .i64 (-r), .int .i64 (0), .int .i64 (1), .int .i64 (10000 + r), .int .i64 (0), .int .i64 (1), .int .i64 (1), .int .i64 (8 + r), .int .i64 (1), .int .i64 (1), .int .i64 (-1 - r), .int .i64 (1), .int .i64 (1), .int .i64 (0), .int .i64 (0), .int .i64 (1), .int .i64 (0), .int .i64 (4 + r)] ∧ (v = .int .i64 0 ∨ v = .int .i64 1 ∨ v = .int .i64 2 ∨ v = .int .i64 3 ∨ v = .int .i64 4 ∨ v = .int .i64 5 ∨ v = .int .i64 6 ∨ v = .int .i64 7)) (fun v _ => (7 - intOf v).toNat)
    case atStart => exact ⟨b6, BS, .inl rfl⟩
    case round =>
    clear b6 BS
    obtain ⟨bW, BW, rfl | rfl | rfl | rfl | rfl | rfl | rfl | rfl⟩ := hrel
    · have x0 := BW.cell 0
      have x1 := BW.cell 1
      have x2 := BW.cell 2
      simp only [List.getElem?_toArray, List.getElem?_cons_succ, List.getElem?_cons_zero] at x0 x1 x2
      have hb : ¬ effOk (0) (0) (1) := by unfold effOk; omega
      have hE := Lib.hid (fun W => effect_no (0) (0) (1) W hb)
      have hC := Lib.hid (fun W => checkEffect_any (0) (0) (1) W)
      rw [ckEff_no hb] at hC
      clear hb
      have e1 := Whole.new wr 23 #[.int .i64 (0), .int .i64 (0), .int .i64 (1)]
      have BW1 := BW.alloc (.cells #[.int .i64 (0), .int .i64 (0), .int .i64 (1)] 23)
      have bW1 := bW.alloc bW.size (.cells #[.int .i64 (0), .int .i64 (0), .int .i64 (1)] 23)
      clear BW bW
      go_wp2_with fail
      refine (hE.out _).mono ?_
      rintro e w6 ⟨rfl, hb6⟩
      have e2 := e1.below hb6 e1.lt
      have BW2 := BW1.below hb6 BW1.lt
      have bW2 := bW1.trans (hb6.mono bW1.size)
      clear BW1 bW1 e1 hb6 x0 x1 x2
      have x0 := e2.cell 0
      have x1 := e2.cell 1
      have x2 := e2.cell 2
      simp only [List.getElem?_toArray, List.getElem?_cons_succ, List.getElem?_cons_zero] at x0 x1 x2
      go_wp2_with fail
      refine (hC.out _).mono ?_
      rintro e w7 ⟨rfl, hb7⟩
      have BW3 := BW2.below hb7 BW2.lt
      have bW3 := bW2.trans (hb7.mono bW2.size)
      clear BW2 bW2 e2 hb7 x0 x1 x2
      go_wp2
      go_roundw
      case rel => exact ⟨bW3, BW3, .inr (.inl rfl)⟩
      case measure => simp [intOf]
    · have x0 := BW.cell 3
      have x1 := BW.cell 4
      have x2 := BW.cell 5
      simp only [List.getElem?_toArray, List.getElem?_cons_succ, List.getElem?_cons_zero] at x0 x1 x2
      have hb : ¬ effOk (-r) (0) (1) := by unfold effOk; omega
      have hE := Lib.hid (fun W => effect_no (-r) (0) (1) W hb)
      have hC := Lib.hid (fun W => checkEffect_any (-r) (0) (1) W)
      rw [ckEff_no hb] at hC
      clear hb
      have e1 := Whole.new wr 23 #[.int .i64 (-r), .int .i64 (0), .int .i64 (1)]
      have BW1 := BW.alloc (.cells #[.int .i64 (-r), .int .i64 (0), .int .i64 (1)] 23)
      have bW1 := bW.alloc bW.size (.cells #[.int .i64 (-r), .int .i64 (0), .int .i64 (1)] 23)
      clear BW bW
      go_wp2_with fail
      refine (hE.out _).mono ?_
      rintro e w6 ⟨rfl, hb6⟩
      have e2 := e1.below hb6 e1.lt
      have BW2 := BW1.below hb6 BW1.lt
      have bW2 := bW1.trans (hb6.mono bW1.size)
      clear BW1 bW1 e1 hb6 x0 x1 x2
      have x0 := e2.cell 0
      have x1 := e2.cell 1
      have x2 := e2.cell 2
      simp only [List.getElem?_toArray, List.getElem?_cons_succ, List.getElem?_cons_zero] at x0 x1 x2
      go_wp2_with fail
      refine (hC.out _).mono ?_
      rintro e w7 ⟨rfl, hb7⟩
      have BW3 := BW2.below hb7 BW2.lt
      have bW3 := bW2.trans (hb7.mono bW2.size)
      clear BW2 bW2 e2 hb7 x0 x1 x2
      go_wp2
      go_roundw
      case rel => exact ⟨bW3, BW3, .inr (.inr (.inl rfl))⟩
      case measure => simp [intOf]
    · have x0 := BW.cell 6
      have x1 := BW.cell 7
      have x2 := BW.cell 8
      simp only [List.getElem?_toArray, List.getElem?_cons_succ, List.getElem?_cons_zero] at x0 x1 x2
      have hb : ¬ effOk (10000 + r) (0) (1) := by unfold effOk; omega
      have hE := Lib.hid (fun W => effect_no (10000 + r) (0) (1) W hb)
      have hC := Lib.hid (fun W => checkEffect_any (10000 + r) (0) (1) W)
      rw [ckEff_no hb] at hC
      clear hb
      have e1 := Whole.new wr 23 #[.int .i64 (10000 + r), .int .i64 (0), .int .i64 (1)]
      have BW1 := BW.alloc (.cells #[.int .i64 (10000 + r), .int .i64 (0), .int .i64 (1)] 23)
      have bW1 := bW.alloc bW.size (.cells #[.int .i64 (10000 + r), .int .i64 (0), .int .i64 (1)] 23)
      clear BW bW
      go_wp2_with fail
      refine (hE.out _).mono ?_
      rintro e w6 ⟨rfl, hb6⟩
      have e2 := e1.below hb6 e1.lt
      have BW2 := BW1.below hb6 BW1.lt
      have bW2 := bW1.trans (hb6.mono bW1.size)
      clear BW1 bW1 e1 hb6 x0 x1 x2
      have x0 := e2.cell 0
      have x1 := e2.cell 1
      have x2 := e2.cell 2
      simp only [List.getElem?_toArray, List.getElem?_cons_succ, List.getElem?_cons_zero] at x0 x1 x2
      go_wp2_with fail
      refine (hC.out _).mono ?_
      rintro e w7 ⟨rfl, hb7⟩
      have BW3 := BW2.below hb7 BW2.lt
      have bW3 := bW2.trans (hb7.mono bW2.size)
      clear BW2 bW2 e2 hb7 x0 x1 x2
      go_wp2
      go_roundw
      case rel => exact ⟨bW3, BW3, .inr (.inr (.inr (.inl rfl)))⟩
      case measure => simp [intOf]
    · have x0 := BW.cell 9
      have x1 := BW.cell 10
      have x2 := BW.cell 11
      simp only [List.getElem?_toArray, List.getElem?_cons_succ, List.getElem?_cons_zero] at x0 x1 x2
      have hb : ¬ effOk (1) (8 + r) (1) := by unfold effOk; omega
      have hE := Lib.hid (fun W => effect_no (1) (8 + r) (1) W hb)
      have hC := Lib.hid (fun W => checkEffect_any (1) (8 + r) (1) W)
      rw [ckEff_no hb] at hC
      clear hb
      have e1 := Whole.new wr 23 #[.int .i64 (1), .int .i64 (8 + r), .int .i64 (1)]
      have BW1 := BW.alloc (.cells #[.int .i64 (1), .int .i64 (8 + r), .int .i64 (1)] 23)
      have bW1 := bW.alloc bW.size (.cells #[.int .i64 (1), .int .i64 (8 + r), .int .i64 (1)] 23)
      clear BW bW
      go_wp2_with fail
      refine (hE.out _).mono ?_
      rintro e w6 ⟨rfl, hb6⟩
      have e2 := e1.below hb6 e1.lt
      have BW2 := BW1.below hb6 BW1.lt
      have bW2 := bW1.trans (hb6.mono bW1.size)
      clear BW1 bW1 e1 hb6 x0 x1 x2
      have x0 := e2.cell 0
      have x1 := e2.cell 1
      have x2 := e2.cell 2
      simp only [List.getElem?_toArray, List.getElem?_cons_succ, List.getElem?_cons_zero] at x0 x1 x2
      go_wp2_with fail
      refine (hC.out _).mono ?_
      rintro e w7 ⟨rfl, hb7⟩
      have BW3 := BW2.below hb7 BW2.lt
      have bW3 := bW2.trans (hb7.mono bW2.size)
      clear BW2 bW2 e2 hb7 x0 x1 x2
      go_wp2
      go_roundw
      case rel => exact ⟨bW3, BW3, .inr (.inr (.inr (.inr (.inl rfl))))⟩
      case measure => simp [intOf]
    · have x0 := BW.cell 12
      have x1 := BW.cell 13
      have x2 := BW.cell 14
      simp only [List.getElem?_toArray, List.getElem?_cons_succ, List.getElem?_cons_zero] at x0 x1 x2
      have hb : ¬ effOk (1) (-1 - r) (1) := by unfold effOk; omega
      have hE := Lib.hid (fun W => effect_no (1) (-1 - r) (1) W hb)
      have hC := Lib.hid (fun W => checkEffect_any (1) (-1 - r) (1) W)
      rw [ckEff_no hb] at hC
      clear hb
      have e1 := Whole.new wr 23 #[.int .i64 (1), .int .i64 (-1 - r), .int .i64 (1)]
      have BW1 := BW.alloc (.cells #[.int .i64 (1), .int .i64 (-1 - r), .int .i64 (1)] 23)
      have bW1 := bW.alloc bW.size (.cells #[.int .i64 (1), .int .i64 (-1 - r), .int .i64 (1)] 23)
      clear BW bW
      go_wp2_with fail
      refine (hE.out _).mono ?_
      rintro e w6 ⟨rfl, hb6⟩
      have e2 := e1.below hb6 e1.lt
      have BW2 := BW1.below hb6 BW1.lt
      have bW2 := bW1.trans (hb6.mono bW1.size)
      clear BW1 bW1 e1 hb6 x0 x1 x2
      have x0 := e2.cell 0
      have x1 := e2.cell 1
      have x2 := e2.cell 2
      simp only [List.getElem?_toArray, List.getElem?_cons_succ, List.getElem?_cons_zero] at x0 x1 x2
      go_wp2_with fail
      refine (hC.out _).mono ?_
      rintro e w7 ⟨rfl, hb7⟩
      have BW3 := BW2.below hb7 BW2.lt
      have bW3 := bW2.trans (hb7.mono bW2.size)
      clear BW2 bW2 e2 hb7 x0 x1 x2
      go_wp2
      go_roundw
      case rel => exact ⟨bW3, BW3, .inr (.inr (.inr (.inr (.inr (.inl rfl)))))⟩
      case measure => simp [intOf]
    · have x0 := BW.cell 15
      have x1 := BW.cell 16
      have x2 := BW.cell 17
      simp only [List.getElem?_toArray, List.getElem?_cons_succ, List.getElem?_cons_zero] at x0 x1 x2
      have hb : ¬ effOk (1) (0) (0) := by unfold effOk; omega
      have hE := Lib.hid (fun W => effect_no (1) (0) (0) W hb)
      have hC := Lib.hid (fun W => checkEffect_any (1) (0) (0) W)
      rw [ckEff_no hb] at hC
      clear hb
      have e1 := Whole.new wr 23 #[.int .i64 (1), .int .i64 (0), .int .i64 (0)]
      have BW1 := BW.alloc (.cells #[.int .i64 (1), .int .i64 (0), .int .i64 (0)] 23)
      have bW1 := bW.alloc bW.size (.cells #[.int .i64 (1), .int .i64 (0), .int .i64 (0)] 23)
      clear BW bW
      go_wp2_with fail
      refine (hE.out _).mono ?_
      rintro e w6 ⟨rfl, hb6⟩
      have e2 := e1.below hb6 e1.lt
      have BW2 := BW1.below hb6 BW1.lt
      have bW2 := bW1.trans (hb6.mono bW1.size)
      clear BW1 bW1 e1 hb6 x0 x1 x2
      have x0 := e2.cell 0
      have x1 := e2.cell 1
      have x2 := e2.cell 2
      simp only [List.getElem?_toArray, List.getElem?_cons_succ, List.getElem?_cons_zero] at x0 x1 x2
      go_wp2_with fail
      refine (hC.out _).mono ?_
      rintro e w7 ⟨rfl, hb7⟩
      have BW3 := BW2.below hb7 BW2.lt
      have bW3 := bW2.trans (hb7.mono bW2.size)
      clear BW2 bW2 e2 hb7 x0 x1 x2
      go_wp2
      go_roundw
      case rel => exact ⟨bW3, BW3, .inr (.inr (.inr (.inr (.inr (.inr (.inl rfl))))))⟩
      case measure => simp [intOf]
    · have x0 := BW.cell 18
      have x1 := BW.cell 19
      have x2 := BW.cell 20
      simp only [List.getElem?_toArray, List.getElem?_cons_succ, List.getElem?_cons_zero] at x0 x1 x2
      have hb : ¬ effOk (1) (0) (4 + r) := by unfold effOk; omega
      have hE := Lib.hid (fun W => effect_no (1) (0) (4 + r) W hb)
      have hC := Lib.hid (fun W => checkEffect_any (1) (0) (4 + r) W)
      rw [ckEff_no hb] at hC
      clear hb
      have e1 := Whole.new wr 23 #[.int .i64 (1), .int .i64 (0), .int .i64 (4 + r)]
      have BW1 := BW.alloc (.cells #[.int .i64 (1), .int .i64 (0), .int .i64 (4 + r)] 23)
      have bW1 := bW.alloc bW.size (.cells #[.int .i64 (1), .int .i64 (0), .int .i64 (4 + r)] 23)
      clear BW bW
      go_wp2_with fail
      refine (hE.out _).mono ?_
      rintro e w6 ⟨rfl, hb6⟩
      have e2 := e1.below hb6 e1.lt
      have BW2 := BW1.below hb6 BW1.lt
      have bW2 := bW1.trans (hb6.mono bW1.size)
      clear BW1 bW1 e1 hb6 x0 x1 x2
      have x0 := e2.cell 0
      have x1 := e2.cell 1
      have x2 := e2.cell 2
      simp only [List.getElem?_toArray, List.getElem?_cons_succ, List.getElem?_cons_zero] at x0 x1 x2
      go_wp2_with fail
      refine (hC.out _).mono ?_
      rintro e w7 ⟨rfl, hb7⟩
      have BW3 := BW2.below hb7 BW2.lt
      have bW3 := bW2.trans (hb7.mono bW2.size)
      clear BW2 bW2 e2 hb7 x0 x1 x2
      go_wp2
      go_roundw
      case rel => exact ⟨bW3, BW3, .inr (.inr (.inr (.inr (.inr (.inr (.inr (rfl)))))))⟩
      case measure => simp [intOf]
    · have hpw := hp.below bW
      go_wp2_with fail
      refine (works_any _ hpw).mono ?_
      rintro e w6 ⟨rfl, hb6⟩
      go_wp2
      go_ret
      exact ⟨rfl, bW.trans (hb6.mono bW.size)⟩
end Go.Proofs.YtmbnhbocablgeaaDoor
