/- What the reference's ParseItem returns: the same as the program's; memory that lay stays. Condition: the text is no longer than 1,000,000 bytes. -/
import Derived.Test.YtmbnhbocablgeaaDoorRefParse
import Derived.Test.YtmbnhbocablgeaaDoorRefItem
import Derived.Test.YtmbnhbocablgeaaDoorParseAll
namespace Go.Proofs.YtmbnhbocablgeaaDoor
open Go.RowKit

theorem dgs_byte {c : UInt8} (h1 : 49 ≤ (c.toNat : Int)) (h2 : (c.toNat : Int) ≤ 55) : dgs ((c.toNat : Int) - 48) = [c] := by
  rw [dgs_one (by omega) (by omega)]
  congr 1
  apply UInt8.toNat_inj.1
  rw [UInt8.toNat_ofNat']
  omega
/-- The last two bytes of a text. -/
theorem split2 {s : ByteArray} {N : Nat} (hN : s.size = N + 2) : s.data.toList = s.data.toList.take N ++ [s[N]'(by omega), s[N + 1]'(by omega)] := by
  have hl : s.data.toList.length = N + 2 := by rw [← Lib.size_eq]; exact hN
  conv => lhs; rw [← List.take_append_drop N s.data.toList]
  congr 1
  rw [List.drop_eq_getElem_cons (by omega), List.drop_eq_getElem_cons (by omega), List.drop_eq_nil_of_le (by omega)]
  rfl
/-- What the text of an item ends in. -/
theorem item_tail {l : List UInt8} {x : Item6} (h : pItem l = some x) : ∃ d : UInt8, l = (if x.m = 0 then effText x.a x.b x.c else [109] ++ (dgs x.m ++ wayL x.i)) ++ [64, d] ∧ 49 ≤ (d.toNat : Int) ∧ (d.toNat : Int) ≤ 55 ∧ x.g = (d.toNat : Int) - 48 := by
  obtain ⟨⟨⟨g1, g2⟩, _⟩, ht⟩ := pItem_some h
  have e := dgs_one (a := x.g) (by omega) (by omega)
  have e2 : (UInt8.ofNat (48 + x.g.toNat)).toNat = 48 + x.g.toNat := by rw [UInt8.toNat_ofNat']; omega
  refine ⟨UInt8.ofNat (48 + x.g.toNat), ?_, by omega, by omega, by omega⟩
  rw [← ht]
  unfold itemText
  rw [e]
  rfl
theorem tail_bytes {s : ByteArray} {N : Nat} (hN : s.size = N + 2) {p : List UInt8} {d : UInt8} (h : s.data.toList = p ++ [64, d]) : s.data.toList.take N = p ∧ s[N]'(by omega) = 64 ∧ s[N + 1]'(by omega) = d := by
  have h2 := split2 hN
  rw [h] at h2
  have hl : p.length = N := by have := congrArg List.length h; rw [← Lib.size_eq] at this; simp at this; omega
  have h3 := List.append_inj h2 (by rw [← h, List.length_take, ← Lib.size_eq]; omega)
  have h4 := h3.2
  simp only [List.cons.injEq, and_true] at h4
  exact ⟨by rw [h, List.take_left' hl], h4.1.symm, h4.2.symm⟩
theorem pItem_short {l : List UInt8} (h : l.length < 2) : pItem l = none := by
  cases hx : pItem l with
  | none => rfl
  | some x =>
    obtain ⟨d, e, _⟩ := item_tail hx
    rw [e] at h
    simp at h
    omega
theorem pItem_bad {s : ByteArray} {N : Nat} (hN : s.size = N + 2) (h : ¬ ((s[N]'(by omega)).toNat : Int) = 64 ∨ ((s[N + 1]'(by omega)).toNat : Int) < 49 ∨ 55 < ((s[N + 1]'(by omega)).toNat : Int)) : pItem s.data.toList = none := by
  cases hx : pItem s.data.toList with
  | none => rfl
  | some x =>
    obtain ⟨d, e, d1, d2, _⟩ := item_tail hx
    obtain ⟨_, e1, e2⟩ := tail_bytes hN e
    rw [e1, e2] at h
    have : ((64 : UInt8).toNat : Int) = 64 := rfl
    omega
/-- The last two bytes are as they have to be. -/
structure Tail (s : ByteArray) (N : Nat) (g : Int) : Prop where
  sz : s.size = N + 2
  is : s.data.toList = s.data.toList.take N ++ ([64] ++ dgs g)
  g1 : 1 ≤ g
  g2 : g ≤ 7
  last : ∀ x, pItem s.data.toList = some x → x.g = g ∧ (x.m = 0 → x.i = false ∧ pEff (s.data.toList.take N) = some ⟨x.a, x.b, x.c⟩) ∧ (¬ x.m = 0 → x.a = 0 ∧ x.b = 0 ∧ x.c = 0 ∧ 1 ≤ x.m ∧ x.m ≤ 64 ∧ itemText 0 0 0 x.m x.i g = s.data.toList)
theorem tail_of {s : ByteArray} {N : Nat} (hN : s.size = N + 2) (h0 : ((s[N]'(by omega)).toNat : Int) = 64) (h1 : 49 ≤ ((s[N + 1]'(by omega)).toNat : Int)) (h2 : ((s[N + 1]'(by omega)).toNat : Int) ≤ 55) : Tail s N (((s[N + 1]'(by omega)).toNat : Int) - 48) := by
  have e0 : s[N]'(by omega) = 64 := UInt8.toNat_inj.1 (by have : (64 : UInt8).toNat = 64 := rfl; omega)
  refine ⟨hN, ?_, by omega, by omega, fun x hx => ?_⟩
  · rw [dgs_byte h1 h2]
    conv => lhs; rw [split2 hN, e0]
    rfl
  · obtain ⟨d, e, d1, d2, hg⟩ := item_tail hx
    obtain ⟨e1, _, e3⟩ := tail_bytes hN e
    obtain ⟨hok, ht⟩ := pItem_some hx
    have hg' : x.g = ((s[N + 1]'(by omega)).toNat : Int) - 48 := by rw [e3]; exact hg
    refine ⟨hg', fun hm => ?_, fun hm => ?_⟩
    · rcases hok.2 with ⟨_, hi, hv⟩ | ⟨hm1, _⟩
      · refine ⟨hi, ?_⟩
        rw [e1, if_pos hm]
        exact pEff_text hv
      · omega
    · rcases hok.2 with ⟨hm0, _⟩ | ⟨hm1, hm2, z1, z2, z3⟩
      · exact absurd hm0 hm
      · refine ⟨z1, z2, z3, hm1, hm2, ?_⟩
        rw [z1, z2, z3, hg'] at ht
        exact ht
theorem tail_eff {s : ByteArray} {N : Nat} {g : Int} (h : Tail s N g) {x : Eff3} (hx : pEff (s.data.toList.take N) = some x) : pItem s.data.toList = some ⟨x.a, x.b, x.c, 0, false, g⟩ := by
  obtain ⟨hv, ht⟩ := pEff_some hx
  have e : itemText x.a x.b x.c 0 false g = s.data.toList := by rw [h.is, ← ht]; simp [itemText]
  rw [← e]
  exact pItem_eff hv h.g1 h.g2
theorem tail_none {s : ByteArray} {N : Nat} {g : Int} (h : Tail s N g) (hx : pEff (s.data.toList.take N) = none) (ha : ∀ (m : Int) (i : Bool), 1 ≤ m → m < 65 → itemText 0 0 0 m i g ≠ s.data.toList) : pItem s.data.toList = none := by
  cases hp : pItem s.data.toList with
  | none => rfl
  | some x =>
    obtain ⟨_, h2, h3⟩ := h.last x hp
    by_cases hm : x.m = 0
    · rw [(h2 hm).2] at hx; cases hx
    · obtain ⟨_, _, _, m1, m2, ht⟩ := h3 hm
      exact absurd ht (ha x.m x.i m1 (by omega))

set_option maxHeartbeats 8000000 in
theorem refParseItem_any (s : ByteArray) (w : World) (hs : s.size ≤ 1000000) :
    Calls Tryd.prog 23 #[.string s] w (ItemOut (pItemR s.data.toList) w) := by
  generalize hq : pItemR s.data.toList = q
  have HQ := Lib.hid hq
  clear hq
  have b0 : Below w.heap.size w (w.alloc (.cells #[.int .i64 0, .int .i64 0, .int .i64 0, .int .i64 0, .bool false, .int .i64 0] 33)) := by go_grown
  have B0 := Whole.new w 33 #[.int .i64 0, .int .i64 0, .int .i64 0, .int .i64 0, .bool false, .int .i64 0]
  by_cases hsm : s.size < 2
  · obtain rfl : q = (⟨0, 0, 0, 0, false, 0⟩, 10) := by rw [← HQ.out]; exact pItemR_none (pItem_short (by rw [← Lib.size_eq]; exact hsm))
    go_enter Tryd.func23, Tryd.ntmps23
    go_wp2
    refine bodyPost_ret (v := .tuple #[.agg #[.int .i64 0, .int .i64 0, .int .i64 0, .int .i64 0, .bool false, .int .i64 0], .int .i64 10]) (by simp [results, Tryd.results23, go_sem]) rfl ⟨rfl, ?_⟩
    go_grown
  · obtain ⟨N, hN⟩ : ∃ N, s.size = N + 2 := ⟨s.size - 2, by omega⟩
    have hN0 : N < s.size := by omega
    have hN1 : N + 1 < s.size := by omega
    clear hsm
    by_cases hbad : ¬ ((s[N]'hN0).toNat : Int) = 64 ∨ (((s[N]'hN0).toNat : Int) = 64 ∧ ((s[N + 1]'hN1).toNat : Int) < 49) ∨ (((s[N]'hN0).toNat : Int) = 64 ∧ 49 ≤ ((s[N + 1]'hN1).toNat : Int) ∧ 55 < ((s[N + 1]'hN1).toNat : Int))
    · obtain rfl : q = (⟨0, 0, 0, 0, false, 0⟩, 10) := by rw [← HQ.out]; exact pItemR_none (pItem_bad hN (by omega))
      clear HQ
      rcases hbad with hz | ⟨hz, hz1⟩ | ⟨hz, hz1, hz2⟩
      all_goals
        go_enter Tryd.func23, Tryd.ntmps23
        go_wp2
        refine bodyPost_ret (v := .tuple #[.agg #[.int .i64 0, .int .i64 0, .int .i64 0, .int .i64 0, .bool false, .int .i64 0], .int .i64 10]) (by simp [results, Tryd.results23, go_sem]) rfl ⟨rfl, ?_⟩
        go_grown
    · have hz0 : ((s[N]'hN0).toNat : Int) = 64 := by omega
      have hz1 : 49 ≤ ((s[N + 1]'hN1).toNat : Int) := by omega
      have hz2 : ((s[N + 1]'hN1).toNat : Int) ≤ 55 := by omega
      have hT := Lib.hid (tail_of hN hz0 hz1 hz2)
      have hE := Lib.hid (fun W => refParseEffect_any (s.extract 0 N) W (by rw [Lib.size_eq, Lib.extract_data]; simp; have := Lib.size_eq s; omega))
      rw [show (s.extract 0 N).data.toList = s.data.toList.take N by rw [Lib.extract_data]; simp] at hE
      clear hbad
      go_enter Tryd.func23, Tryd.ntmps23
      go_wp2_with fail
      cases hp : pEff (s.data.toList.take N) with
      | some x =>
        obtain rfl : q = (⟨x.a, x.b, x.c, 0, false, ((s[N + 1]'hN1).toNat : Int) - 48⟩, 0) := by rw [← HQ.out]; exact pItemR_some (tail_eff hT.out hp)
        rw [pEffR_some hp] at hE
        obtain ⟨xa, xb, xc⟩ := x
        clear hp HQ hT
        refine (hE.out _).mono ?_
        rintro e w1 ⟨rfl, hb1⟩
        have E1 := Whole.new w1 23 #[.int .i64 xa, .int .i64 xb, .int .i64 xc]
        have B1 := (B0.below hb1 B0.lt).alloc (.cells #[.int .i64 xa, .int .i64 xb, .int .i64 xc] 23)
        have b1 := (b0.trans (hb1.mono b0.size)).alloc (Nat.le_trans b0.size hb1.size) (.cells #[.int .i64 xa, .int .i64 xb, .int .i64 xc] 23)
        have x0 := E1.cell 0
        have x1 := E1.cell 1
        have x2 := E1.cell 2
        simp only [List.getElem?_toArray, List.getElem?_cons_succ, List.getElem?_cons_zero] at x0 x1 x2
        have y0 := B1.cell 0
        have y1 := B1.cell 1
        have y2 := B1.cell 2
        have y3 := B1.cell 3
        have y4 := B1.cell 4
        have y5 := B1.cell 5
        simp only [List.getElem?_toArray, List.getElem?_cons_succ, List.getElem?_cons_zero] at y0 y1 y2 y3 y4 y5
        have f0 := B1.fr 0
        have f1 := B1.fr 1
        have f2 := B1.fr 2
        have f3 := B1.fr 3
        have f4 := B1.fr 4
        have f5 := B1.fr 5
        clear E1 B1 B0 b0 hb1 hE
        go_wp2
        refine bodyPost_ret (v := .tuple #[.agg #[.int .i64 xa, .int .i64 xb, .int .i64 xc, .int .i64 0, .bool false, .int .i64 (((s[N + 1]'hN1).toNat : Int) - 48)], .int .i64 0]) (by simp [results, Tryd.results23, go_sem, y0, y1, y2, y3, y4, y5]) rfl ⟨rfl, ?_⟩
        exact ((((((b1.setCell (Nat.le_refl _) _).setCell (Nat.le_refl _) _).setCell (Nat.le_refl _) _).setCell (Nat.le_refl _) _).setCell (Nat.le_refl _) _).setCell (Nat.le_refl _) _)
      | none =>
        rw [pEffR_none hp] at hE
        have HP := Lib.hid hp
        clear hp
        refine (hE.out _).mono ?_
        rintro e w1 ⟨rfl, hb1⟩
        have B1 := (B0.below hb1 B0.lt).alloc (.cells #[.int .i64 0, .int .i64 0, .int .i64 0] 23)
        have b1 := (b0.trans (hb1.mono b0.size)).alloc (Nat.le_trans b0.size hb1.size) (.cells #[.int .i64 0, .int .i64 0, .int .i64 0] 23)
        clear B0 b0 hb1 hE
        generalize ((s[N + 1]'hN1).toNat : Int) - 48 = g at hT ⊢
        clear hz0 hz1 hz2
        go_wp2
        go_loopw [8] (fun v wr => ∃ m : Int, 1 ≤ m ∧ m ≤ 65 ∧ v = .int .i64 m ∧ Whole wr w.heap.size 33 #[.int .i64 0, .int .i64 0, .int .i64 0, .int .i64 0, .bool false, .int .i64 0] ∧ Below w.heap.size w wr ∧ Hid (∀ (k : Int) (i : Bool), 1 ≤ k → k < m → itemText 0 0 0 k i g ≠ s.data.toList)) (fun v _ => (65 - intOf v).toNat)
        case atStart => exact ⟨1, by omega, by omega, rfl, B1, b1, Lib.hid (fun k i h1 h2 => by omega)⟩
        case round =>
          obtain ⟨m, hm1, hm2, rfl, BW, bW, hU⟩ := hrel
          clear B1 b1
          by_cases hm3 : m ≤ 64
          · go_wp2
            go_loopw [9] (fun v wr => ∃ k : Int, 0 ≤ k ∧ k ≤ 2 ∧ v = .int .i64 k ∧ Whole wr w.heap.size 33 #[.int .i64 0, .int .i64 0, .int .i64 0, .int .i64 0, .bool false, .int .i64 0] ∧ Below w.heap.size w wr ∧ Hid (∀ i : Bool, (if i = true then (1 : Int) else 0) < k → itemText 0 0 0 m i g ≠ s.data.toList)) (fun v _ => (2 - intOf v).toNat)
            case atStart => exact ⟨0, by omega, by omega, rfl, BW, bW, Lib.hid (fun i h1 => by cases i <;> simp at h1)⟩
            case round =>
            obtain ⟨k, hk1, hk2, rfl, BW2, bW2, hU2⟩ := hrel
            clear BW bW
            obtain rfl | rfl | rfl : k = 0 ∨ k = 1 ∨ k = 2 := by omega
            · have e1 := Whole.new wr 33 #[.int .i64 0, .int .i64 0, .int .i64 0, .int .i64 m, .bool false, .int .i64 g]
              have BW1 := BW2.alloc (.cells #[.int .i64 0, .int .i64 0, .int .i64 0, .int .i64 m, .bool false, .int .i64 g] 33)
              have bW1 := bW2.alloc bW2.size (.cells #[.int .i64 0, .int .i64 0, .int .i64 0, .int .i64 m, .bool false, .int .i64 g] 33)
              have hE := Lib.hid (fun W => refItem_move_no m g W hm1 (by omega) hT.out.g1 hT.out.g2)
              by_cases ht : itemText 0 0 0 m false g = s.data.toList
              · obtain rfl : q = (⟨0, 0, 0, m, false, g⟩, 0) := by rw [← HQ.out]; exact pItemR_some (by rw [← ht]; exact pItem_move hm1 (by omega) hT.out.g1 hT.out.g2)
                rw [list_str' ht] at hE
                clear ht HQ hU hU2 hT
                go_wp2_with fail
                refine (hE.out _).mono ?_
                rintro e w3 ⟨rfl, hb3⟩
                have e2 := e1.below hb3 e1.lt
                have B2 := BW1.below hb3 BW1.lt
                have b3 := bW1.trans (hb3.mono bW1.size)
                have x0 := e2.cell 0
                have x1 := e2.cell 1
                have x2 := e2.cell 2
                have x3 := e2.cell 3
                have x4 := e2.cell 4
                have x5 := e2.cell 5
                simp only [List.getElem?_toArray, List.getElem?_cons_succ, List.getElem?_cons_zero] at x0 x1 x2 x3 x4 x5
                have y0 := B2.cell 0
                have y1 := B2.cell 1
                have y2 := B2.cell 2
                have y3 := B2.cell 3
                have y4 := B2.cell 4
                have y5 := B2.cell 5
                simp only [List.getElem?_toArray, List.getElem?_cons_succ, List.getElem?_cons_zero] at y0 y1 y2 y3 y4 y5
                have f0 := B2.fr 0
                have f1 := B2.fr 1
                have f2 := B2.fr 2
                have f3 := B2.fr 3
                have f4 := B2.fr 4
                have f5 := B2.fr 5
                clear e1 e2 B2 BW2 BW1 bW1 hb3 hE
                go_wp2
                refine bodyPost_ret (v := .tuple #[.agg #[.int .i64 0, .int .i64 0, .int .i64 0, .int .i64 m, .bool false, .int .i64 g], .int .i64 0]) (by simp [results, Tryd.results23, go_sem, y0, y1, y2, y3, y4, y5]) rfl ⟨rfl, ?_⟩
                exact ((((((b3.setCell (Nat.le_refl _) _).setCell (Nat.le_refl _) _).setCell (Nat.le_refl _) _).setCell (Nat.le_refl _) _).setCell (Nat.le_refl _) _).setCell (Nat.le_refl _) _)
              · have hU3 : Hid (∀ i : Bool, (if i = true then (1 : Int) else 0) < 1 → itemText 0 0 0 m i g ≠ s.data.toList) := Lib.hid (fun i hi => by
                  by_cases e : i = false
                  · subst e; exact ht
                  · exact hU2.out i (by cases i <;> simp_all))
                have hne : ¬ (⟨(itemText 0 0 0 m false g).toArray⟩ : ByteArray) = s := fun h => ht (by rw [← h])
                generalize (⟨(itemText 0 0 0 m false g).toArray⟩ : ByteArray) = t at hE hne
                have hne2 := bytes_ne hne
                clear ht hU2 hne
                go_wp2_with fail
                refine (hE.out _).mono ?_
                rintro e w3 ⟨rfl, hb3⟩
                have B2 := BW1.below hb3 BW1.lt
                have b3 := bW1.trans (hb3.mono bW1.size)
                clear e1 BW2 BW1 bW1 hb3 hE
                go_wp2
                go_roundw
                case rel => exact ⟨1, by omega, by omega, rfl, B2, b3, hU3⟩
                case measure => simp [intOf]
            · have e1 := Whole.new wr 33 #[.int .i64 0, .int .i64 0, .int .i64 0, .int .i64 m, .bool true, .int .i64 g]
              have BW1 := BW2.alloc (.cells #[.int .i64 0, .int .i64 0, .int .i64 0, .int .i64 m, .bool true, .int .i64 g] 33)
              have bW1 := bW2.alloc bW2.size (.cells #[.int .i64 0, .int .i64 0, .int .i64 0, .int .i64 m, .bool true, .int .i64 g] 33)
              have hE := Lib.hid (fun W => refItem_move_yes m g W hm1 (by omega) hT.out.g1 hT.out.g2)
              by_cases ht : itemText 0 0 0 m true g = s.data.toList
              · obtain rfl : q = (⟨0, 0, 0, m, true, g⟩, 0) := by rw [← HQ.out]; exact pItemR_some (by rw [← ht]; exact pItem_move hm1 (by omega) hT.out.g1 hT.out.g2)
                rw [list_str' ht] at hE
                clear ht HQ hU hU2 hT
                go_wp2_with fail
                refine (hE.out _).mono ?_
                rintro e w3 ⟨rfl, hb3⟩
                have e2 := e1.below hb3 e1.lt
                have B2 := BW1.below hb3 BW1.lt
                have b3 := bW1.trans (hb3.mono bW1.size)
                have x0 := e2.cell 0
                have x1 := e2.cell 1
                have x2 := e2.cell 2
                have x3 := e2.cell 3
                have x4 := e2.cell 4
                have x5 := e2.cell 5
                simp only [List.getElem?_toArray, List.getElem?_cons_succ, List.getElem?_cons_zero] at x0 x1 x2 x3 x4 x5
                have y0 := B2.cell 0
                have y1 := B2.cell 1
                have y2 := B2.cell 2
                have y3 := B2.cell 3
                have y4 := B2.cell 4
                have y5 := B2.cell 5
                simp only [List.getElem?_toArray, List.getElem?_cons_succ, List.getElem?_cons_zero] at y0 y1 y2 y3 y4 y5
                have f0 := B2.fr 0
                have f1 := B2.fr 1
                have f2 := B2.fr 2
                have f3 := B2.fr 3
                have f4 := B2.fr 4
                have f5 := B2.fr 5
                clear e1 e2 B2 BW2 BW1 bW1 hb3 hE
                go_wp2
                refine bodyPost_ret (v := .tuple #[.agg #[.int .i64 0, .int .i64 0, .int .i64 0, .int .i64 m, .bool true, .int .i64 g], .int .i64 0]) (by simp [results, Tryd.results23, go_sem, y0, y1, y2, y3, y4, y5]) rfl ⟨rfl, ?_⟩
                exact ((((((b3.setCell (Nat.le_refl _) _).setCell (Nat.le_refl _) _).setCell (Nat.le_refl _) _).setCell (Nat.le_refl _) _).setCell (Nat.le_refl _) _).setCell (Nat.le_refl _) _)
              · have hU3 : Hid (∀ i : Bool, (if i = true then (1 : Int) else 0) < 2 → itemText 0 0 0 m i g ≠ s.data.toList) := Lib.hid (fun i hi => by
                  by_cases e : i = true
                  · subst e; exact ht
                  · exact hU2.out i (by cases i <;> simp_all))
                have hne : ¬ (⟨(itemText 0 0 0 m true g).toArray⟩ : ByteArray) = s := fun h => ht (by rw [← h])
                generalize (⟨(itemText 0 0 0 m true g).toArray⟩ : ByteArray) = t at hE hne
                have hne2 := bytes_ne hne
                clear ht hU2 hne
                go_wp2_with fail
                refine (hE.out _).mono ?_
                rintro e w3 ⟨rfl, hb3⟩
                have B2 := BW1.below hb3 BW1.lt
                have b3 := bW1.trans (hb3.mono bW1.size)
                clear e1 BW2 BW1 bW1 hb3 hE
                go_wp2
                go_roundw
                case rel => exact ⟨2, by omega, by omega, rfl, B2, b3, hU3⟩
                case measure => simp [intOf]
            · have hU4 : Hid (∀ (k : Int) (i : Bool), 1 ≤ k → k < m + 1 → itemText 0 0 0 k i g ≠ s.data.toList) := Lib.hid (fun k i h1 h2 => by
                by_cases e : k = m
                · subst e; exact hU2.out i (by cases i <;> simp)
                · exact hU.out k i h1 (by omega))
              clear hU hU2
              go_wp2
              go_roundw
              case rel => exact ⟨m + 1, by omega, by omega, rfl, BW2, bW2, hU4⟩
              case measure => simp [intOf]; omega
          · obtain rfl : q = (⟨0, 0, 0, 0, false, 0⟩, 10) := by
              rw [← HQ.out]
              exact pItemR_none (tail_none hT.out HP.out (fun k i h1 h2 => hU.out k i h1 (by omega)))
            clear HQ HP hT hU
            have y0 := BW.cell 0
            have y1 := BW.cell 1
            have y2 := BW.cell 2
            have y3 := BW.cell 3
            have y4 := BW.cell 4
            have y5 := BW.cell 5
            simp only [List.getElem?_toArray, List.getElem?_cons_succ, List.getElem?_cons_zero] at y0 y1 y2 y3 y4 y5
            have f0 := BW.fr 0
            have f1 := BW.fr 1
            have f2 := BW.fr 2
            have f3 := BW.fr 3
            have f4 := BW.fr 4
            have f5 := BW.fr 5
            go_wp2
            refine bodyPost_ret (v := .tuple #[.agg #[.int .i64 0, .int .i64 0, .int .i64 0, .int .i64 0, .bool false, .int .i64 0], .int .i64 10]) (by simp [results, Tryd.results23, go_sem, y0, y1, y2, y3, y4, y5]) rfl ⟨rfl, ?_⟩
            exact ((((((bW.setCell (Nat.le_refl _) _).setCell (Nat.le_refl _) _).setCell (Nat.le_refl _) _).setCell (Nat.le_refl _) _).setCell (Nat.le_refl _) _).setCell (Nat.le_refl _) _)
end Go.Proofs.YtmbnhbocablgeaaDoor
