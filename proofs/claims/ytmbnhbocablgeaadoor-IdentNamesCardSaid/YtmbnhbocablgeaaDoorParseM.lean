/- What ParseItem of ident returns at a text that begins with an m. Condition: the text is no longer than 1,000,000 bytes. -/
import Derived.Test.YtmbnhbocablgeaaDoorParseI
namespace Go.Proofs.YtmbnhbocablgeaaDoor
open Go.RowKit

theorem trimPrefix_len (l p : List UInt8) : (Lib.trimPrefix l p).length ≤ l.length := by
  unfold Lib.trimPrefix
  split
  · rw [List.length_drop]; omega
  · exact Nat.le_refl _

set_option maxHeartbeats 4000000 in
theorem parseItem_m_true_yes (s : ByteArray) (w : World) (m : Int) (l2 : List UInt8) (hs : s.size ≤ 1000000) (hp : Lib.hasPrefix s.data.toList [109] = true)
    (hm : rNumV (Lib.trimPrefix s.data.toList [109]) = m) (hi : Lib.hasPrefix (rNum (Lib.trimPrefix s.data.toList [109], true)).1 inL = true)
    (h2 : rWord inL (rNum (Lib.trimPrefix s.data.toList [109], true)) = (l2, true)) (hpos : 0 < m) :
    Calls Tryd.prog 22 #[.string s] w (ItemOut (pItemR s.data.toList) w) := by
  have hl : s.data.toList.length ≤ 1000000 := by rw [← Lib.size_eq]; exact hs
  have ht : (Lib.trimPrefix s.data.toList [109]).length ≤ 1000000 := by
    exact Nat.le_trans (trimPrefix_len _ _) hl
  have hH : rHeadS s.data.toList = (l2, true) := by
    unfold rHeadS; rw [hp, if_pos rfl]; unfold rMoveS; dsimp only; rw [hi, if_pos rfl, h2, hm]; simp; exact hpos
  have hV0 : rHeadV s.data.toList = ⟨0, 0, 0, m, true, 0⟩ := by unfold rHeadV rMoveI; rw [hp, if_pos rfl, hm, hi]
  have hh := rHead_len s.data.toList
  have hn := rNeed_len [64] (rHeadS s.data.toList)
  have C1 := Lib.hid (fun W hW => word_any (w.heap.size + 1) s.data.toList true ⟨#[109]⟩ W hW)
  have D1 := Lib.hid (fun W hW => number_any (w.heap.size + 1) (Lib.trimPrefix s.data.toList [109]) true W ht hW)
  have D2 := Lib.hid (fun W hW => word_any (w.heap.size + 1) (rNum (Lib.trimPrefix s.data.toList [109], true)).1 (rNum (Lib.trimPrefix s.data.toList [109], true)).2 ⟨(wayL true).toArray⟩ W hW)
  have C3 := Lib.hid (fun W hW => need_any (w.heap.size + 1) (rHeadS s.data.toList).1 (rHeadS s.data.toList).2 ⟨#[64]⟩ W hW)
  have C4 := Lib.hid (fun W hW => number_any (w.heap.size + 1) (rNeed [64] (rHeadS s.data.toList)).1 (rNeed [64] (rHeadS s.data.toList)).2 W (by omega) hW)
  have hP : pItem s.data.toList = if (rItemS s.data.toList).2 = true ∧ (rItemS s.data.toList).1 = [] ∧ itemOk (rItemV s.data.toList).a (rItemV s.data.toList).b (rItemV s.data.toList).c (rItemV s.data.toList).m (rItemV s.data.toList).i (rItemV s.data.toList).g then some (rItemV s.data.toList) else none := rfl
  have hV : rItemV s.data.toList = ⟨0, 0, 0, m, true, rNumV (rNeed [64] (rHeadS s.data.toList)).1⟩ := by unfold rItemV; rw [hV0]
  have hS : rItemS s.data.toList = rNum (rNeed [64] (rHeadS s.data.toList)) := rfl
  generalize hq : pItemR s.data.toList = q
  unfold pItemR at hq
  rw [hP, hS, hV] at hq
  clear hP hS hV hV0 hl hh hn ht
  rw [hH] at C3 C4 hq
  dsimp only at C3 C4
  change Hid (∀ W hW, Calls _ _ _ W fun e w' => e = .returned (.bool (Lib.hasPrefix s.data.toList [109])) ∧ Rd w' (w.heap.size + 1) (Lib.trimPrefix s.data.toList [109]) true ∧ _) at C1
  rw [hp] at C1
  generalize Lib.trimPrefix s.data.toList [109] = l1 at C1 D1 D2 hm hi h2
  change Hid (∀ W hW, Calls _ _ _ W fun e w' => e = _ ∧ Rd w' (w.heap.size + 1) (rNum (l1, true)).1 (rNum (l1, true)).2 ∧ _) at D1
  rw [hm] at D1
  generalize rNum (l1, true) = n1 at D1 D2 hi h2
  obtain ⟨n1a, n1b⟩ := n1
  dsimp only at D1 D2 hi
  change Hid (∀ W hW, Calls _ _ _ W fun e w' => e = .returned (.bool (Lib.hasPrefix n1a inL)) ∧ Rd w' (w.heap.size + 1) (Lib.trimPrefix n1a inL) n1b ∧ _) at D2
  rw [hi] at D2
  have h2a : Lib.trimPrefix n1a inL = l2 := congrArg Prod.fst h2
  have h2b : n1b = true := congrArg Prod.snd h2
  subst h2b
  rw [h2a] at D2
  clear h2 h2a hi hm hp hH
  generalize rNeed [64] (l2, true) = S2 at C3 C4 hq
  change Hid (∀ W hW, Calls _ _ _ W fun e w' => e = _ ∧ Rd w' (w.heap.size + 1) S2.1 S2.2 ∧ _) at C3
  change Hid (∀ W hW, Calls _ _ _ W fun e w' => e = _ ∧ Rd w' (w.heap.size + 1) (rNum S2).1 (rNum S2).2 ∧ _) at C4
  generalize rNum S2 = S3 at C4 hq
  generalize rNumV S2.1 = g at C4 hq
  obtain ⟨l3, k3⟩ := S3
  dsimp only at hq
  have HQ := Lib.hid hq
  clear hq
  have T0 := Lib.hid (St.start w s)
  go_enter Tryd.func22, Tryd.ntmps22
  go_wp2_with fail
  refine (C1.out _ T0.out.rd).mono ?_
  rintro e w1 ⟨rfl, hR, hO⟩
  have T1 := Lib.hid (T0.out.step hR hO)
  clear hR hO T0 C1
  go_wp2_with fail
  refine (D1.out _ T1.out.rd).mono ?_
  rintro e w2 ⟨rfl, hR, hO⟩
  have hT := T1.out.step hR hO
  have v3 := hT.x.cell 3
  have fv3 := hT.x.fr 3
  simp at v3
  have hlt0 := hT.lt
  have T2 := Lib.hid (hT.put 3 (.int .i64 m))
  clear hR hO hT T1 D1
  go_wp2_with fail
  refine (way_any _ _).mono ?_
  rintro e w3 ⟨rfl, rfl⟩
  go_wp2_with fail
  refine (D2.out _ T2.out.rd).mono ?_
  rintro e w4 ⟨rfl, hR, hO⟩
  have hT := T2.out.step hR hO
  clear v3 fv3 hlt0
  have v3 := hT.x.cell 3
  have v4 := hT.x.cell 4
  have fv4 := hT.x.fr 4
  have hr1 := hT.rd.c1
  have hfr1 := hT.rd.fr 1
  simp at v3 v4
  have hlt0 := hT.lt
  have T3 := Lib.hid (hT.put 4 (.bool true))
  clear hR hO hT T2 D2
  have TK := Lib.hid (T3.out.ok true)
  clear T3
  go_wp2_with fail
  refine (C3.out _ TK.out.rd).mono ?_
  rintro e u1 ⟨rfl, hR, hO⟩
  have U1 := Lib.hid (TK.out.step hR hO)
  clear hR hO TK C3
  go_wp2_with fail
  refine (C4.out _ U1.out.rd).mono ?_
  rintro e u2 ⟨rfl, hR, hO⟩
  have hU := U1.out.step hR hO
  clear hR hO U1 C4
  have x0 := hU.x.cell 0
  have x1 := hU.x.cell 1
  have x2 := hU.x.cell 2
  have x3 := hU.x.cell 3
  have x4 := hU.x.cell 4
  have x5 := hU.x.cell 5
  have fx5 := hU.x.fr 5
  have b0 := hU.res.cell 0
  have fb0 := hU.res.fr 0
  have b1 := hU.res.cell 1
  have fb1 := hU.res.fr 1
  have b2 := hU.res.cell 2
  have fb2 := hU.res.fr 2
  have b3 := hU.res.cell 3
  have fb3 := hU.res.fr 3
  have b4 := hU.res.cell 4
  have fb4 := hU.res.fr 4
  have b5 := hU.res.cell 5
  have fb5 := hU.res.fr 5
  simp at x0 x1 x2 x3 x4 x5 b0 b1 b2 b3 b4 b5
  have r0 := hU.rd.c0
  have r1 := hU.rd.c1
  have hlt := hU.lt
  have hbel := hU.bel
  have HU := Lib.hid (hU.put 5 (.int .i64 g))
  clear hU
  cases k3 with
  | false =>
    obtain rfl : q = (⟨0, 0, 0, 0, false, 0⟩, 10) := by rw [← HQ.out]; simp
    clear HQ HU
    go_wp2_with fail
    refine bodyPost_ret (v := .tuple #[.agg #[.int .i64 0, .int .i64 0, .int .i64 0, .int .i64 0, .bool false, .int .i64 0], .int .i64 10]) (by simp [results, Tryd.results22, go_sem, b0, b1, b2, b3, b4, b5]) rfl ⟨rfl, ?_⟩
    exact ((((((hbel.setCell (by simp; omega) _).setCell (Nat.le_refl _) _).setCell (Nat.le_refl _) _).setCell (Nat.le_refl _) _).setCell (Nat.le_refl _) _).setCell (Nat.le_refl _) _).setCell (Nat.le_refl _) _
  | true =>
    cases l3 with
    | cons x t =>
      obtain rfl : q = (⟨0, 0, 0, 0, false, 0⟩, 10) := by rw [← HQ.out]; simp
      clear HQ HU
      have hne : (x :: t).isEmpty = false := rfl
      generalize (x :: t) = l2 at r0 hne
      go_wp2_with fail
      refine bodyPost_ret (v := .tuple #[.agg #[.int .i64 0, .int .i64 0, .int .i64 0, .int .i64 0, .bool false, .int .i64 0], .int .i64 10]) (by simp [results, Tryd.results22, go_sem, b0, b1, b2, b3, b4, b5]) rfl ⟨rfl, ?_⟩
      exact ((((((hbel.setCell (by simp; omega) _).setCell (Nat.le_refl _) _).setCell (Nat.le_refl _) _).setCell (Nat.le_refl _) _).setCell (Nat.le_refl _) _).setCell (Nat.le_refl _) _).setCell (Nat.le_refl _) _
    | nil =>
      have hC := Lib.hid (fun W => checkItem_any 0 0 0 m true g W)
      go_wp2_with fail
      refine (hC.out _).mono ?_
      rintro e u3 ⟨rfl, hb3⟩
      have hU := HU.out.call hb3
      clear HU hb3 hC r0 r1 x0 x1 x2 x3 x4 x5 fx5 b0 fb0 b1 fb1 b2 fb2 b3 fb3 b4 fb4 b5 fb5 hbel
      have y0 := hU.x.cell 0
      have y1 := hU.x.cell 1
      have y2 := hU.x.cell 2
      have y3 := hU.x.cell 3
      have y4 := hU.x.cell 4
      have y5 := hU.x.cell 5
      have d0 := hU.res.cell 0
      have fd0 := hU.res.fr 0
      have d1 := hU.res.cell 1
      have fd1 := hU.res.fr 1
      have d2 := hU.res.cell 2
      have fd2 := hU.res.fr 2
      have d3 := hU.res.cell 3
      have fd3 := hU.res.fr 3
      have d4 := hU.res.cell 4
      have fd4 := hU.res.fr 4
      have d5 := hU.res.cell 5
      have fd5 := hU.res.fr 5
      simp at y0 y1 y2 y3 y4 y5 d0 d1 d2 d3 d4 d5
      have hbel := hU.bel
      clear hU
      by_cases hv : itemOk 0 0 0 m true g
      · obtain rfl : q = (⟨0, 0, 0, m, true, g⟩, 0) := by rw [← HQ.out]; simp [hv]
        have hz := ckItem_yes hv
        generalize ckItem 0 0 0 m true g = z at hz
        subst hz
        clear HQ hv
        go_wp2_with fail
        refine bodyPost_ret (v := .tuple #[.agg #[.int .i64 0, .int .i64 0, .int .i64 0, .int .i64 m, .bool true, .int .i64 g], .int .i64 0]) (by simp [results, Tryd.results22, go_sem, d0, d1, d2, d3, d4, d5]) rfl ⟨rfl, ?_⟩
        exact (((((hbel.setCell (Nat.le_refl _) _).setCell (Nat.le_refl _) _).setCell (Nat.le_refl _) _).setCell (Nat.le_refl _) _).setCell (Nat.le_refl _) _).setCell (Nat.le_refl _) _
      · obtain rfl : q = (⟨0, 0, 0, 0, false, 0⟩, 10) := by rw [← HQ.out]; simp [hv]
        have hz := ckItem_no hv
        generalize ckItem 0 0 0 m true g = z at hz
        subst hz
        clear HQ hv
        go_wp2_with fail
        refine bodyPost_ret (v := .tuple #[.agg #[.int .i64 0, .int .i64 0, .int .i64 0, .int .i64 0, .bool false, .int .i64 0], .int .i64 10]) (by simp [results, Tryd.results22, go_sem, d0, d1, d2, d3, d4, d5]) rfl ⟨rfl, ?_⟩
        exact (((((hbel.setCell (Nat.le_refl _) _).setCell (Nat.le_refl _) _).setCell (Nat.le_refl _) _).setCell (Nat.le_refl _) _).setCell (Nat.le_refl _) _).setCell (Nat.le_refl _) _

set_option maxHeartbeats 4000000 in
theorem parseItem_m_true_no (s : ByteArray) (w : World) (m : Int) (l2 : List UInt8) (hs : s.size ≤ 1000000) (hp : Lib.hasPrefix s.data.toList [109] = true)
    (hm : rNumV (Lib.trimPrefix s.data.toList [109]) = m) (hi : Lib.hasPrefix (rNum (Lib.trimPrefix s.data.toList [109], true)).1 inL = true)
    (h2 : rWord inL (rNum (Lib.trimPrefix s.data.toList [109], true)) = (l2, true)) (hpos : ¬ 0 < m) :
    Calls Tryd.prog 22 #[.string s] w (ItemOut (pItemR s.data.toList) w) := by
  have hl : s.data.toList.length ≤ 1000000 := by rw [← Lib.size_eq]; exact hs
  have ht : (Lib.trimPrefix s.data.toList [109]).length ≤ 1000000 := by
    exact Nat.le_trans (trimPrefix_len _ _) hl
  have hH : rHeadS s.data.toList = (l2, false) := by
    unfold rHeadS; rw [hp, if_pos rfl]; unfold rMoveS; dsimp only; rw [hi, if_pos rfl, h2, hm]; simp; omega
  have hV0 : rHeadV s.data.toList = ⟨0, 0, 0, m, true, 0⟩ := by unfold rHeadV rMoveI; rw [hp, if_pos rfl, hm, hi]
  have hh := rHead_len s.data.toList
  have hn := rNeed_len [64] (rHeadS s.data.toList)
  have C1 := Lib.hid (fun W hW => word_any (w.heap.size + 1) s.data.toList true ⟨#[109]⟩ W hW)
  have D1 := Lib.hid (fun W hW => number_any (w.heap.size + 1) (Lib.trimPrefix s.data.toList [109]) true W ht hW)
  have D2 := Lib.hid (fun W hW => word_any (w.heap.size + 1) (rNum (Lib.trimPrefix s.data.toList [109], true)).1 (rNum (Lib.trimPrefix s.data.toList [109], true)).2 ⟨(wayL true).toArray⟩ W hW)
  have C3 := Lib.hid (fun W hW => need_any (w.heap.size + 1) (rHeadS s.data.toList).1 (rHeadS s.data.toList).2 ⟨#[64]⟩ W hW)
  have C4 := Lib.hid (fun W hW => number_any (w.heap.size + 1) (rNeed [64] (rHeadS s.data.toList)).1 (rNeed [64] (rHeadS s.data.toList)).2 W (by omega) hW)
  have hP : pItem s.data.toList = if (rItemS s.data.toList).2 = true ∧ (rItemS s.data.toList).1 = [] ∧ itemOk (rItemV s.data.toList).a (rItemV s.data.toList).b (rItemV s.data.toList).c (rItemV s.data.toList).m (rItemV s.data.toList).i (rItemV s.data.toList).g then some (rItemV s.data.toList) else none := rfl
  have hV : rItemV s.data.toList = ⟨0, 0, 0, m, true, rNumV (rNeed [64] (rHeadS s.data.toList)).1⟩ := by unfold rItemV; rw [hV0]
  have hS : rItemS s.data.toList = rNum (rNeed [64] (rHeadS s.data.toList)) := rfl
  generalize hq : pItemR s.data.toList = q
  have hposb : decide (0 < m) = false := by simpa using hpos
  unfold pItemR at hq
  rw [hP, hS, hV] at hq
  clear hP hS hV hV0 hl hh hn ht
  rw [hH] at C3 C4 hq
  dsimp only at C3 C4
  change Hid (∀ W hW, Calls _ _ _ W fun e w' => e = .returned (.bool (Lib.hasPrefix s.data.toList [109])) ∧ Rd w' (w.heap.size + 1) (Lib.trimPrefix s.data.toList [109]) true ∧ _) at C1
  rw [hp] at C1
  generalize Lib.trimPrefix s.data.toList [109] = l1 at C1 D1 D2 hm hi h2
  change Hid (∀ W hW, Calls _ _ _ W fun e w' => e = _ ∧ Rd w' (w.heap.size + 1) (rNum (l1, true)).1 (rNum (l1, true)).2 ∧ _) at D1
  rw [hm] at D1
  generalize rNum (l1, true) = n1 at D1 D2 hi h2
  obtain ⟨n1a, n1b⟩ := n1
  dsimp only at D1 D2 hi
  change Hid (∀ W hW, Calls _ _ _ W fun e w' => e = .returned (.bool (Lib.hasPrefix n1a inL)) ∧ Rd w' (w.heap.size + 1) (Lib.trimPrefix n1a inL) n1b ∧ _) at D2
  rw [hi] at D2
  have h2a : Lib.trimPrefix n1a inL = l2 := congrArg Prod.fst h2
  have h2b : n1b = true := congrArg Prod.snd h2
  subst h2b
  rw [h2a] at D2
  clear h2 h2a hi hm hp hH
  generalize rNeed [64] (l2, false) = S2 at C3 C4 hq
  change Hid (∀ W hW, Calls _ _ _ W fun e w' => e = _ ∧ Rd w' (w.heap.size + 1) S2.1 S2.2 ∧ _) at C3
  change Hid (∀ W hW, Calls _ _ _ W fun e w' => e = _ ∧ Rd w' (w.heap.size + 1) (rNum S2).1 (rNum S2).2 ∧ _) at C4
  generalize rNum S2 = S3 at C4 hq
  generalize rNumV S2.1 = g at C4 hq
  obtain ⟨l3, k3⟩ := S3
  dsimp only at hq
  have HQ := Lib.hid hq
  clear hq
  have T0 := Lib.hid (St.start w s)
  go_enter Tryd.func22, Tryd.ntmps22
  go_wp2_with fail
  refine (C1.out _ T0.out.rd).mono ?_
  rintro e w1 ⟨rfl, hR, hO⟩
  have T1 := Lib.hid (T0.out.step hR hO)
  clear hR hO T0 C1
  go_wp2_with fail
  refine (D1.out _ T1.out.rd).mono ?_
  rintro e w2 ⟨rfl, hR, hO⟩
  have hT := T1.out.step hR hO
  have v3 := hT.x.cell 3
  have fv3 := hT.x.fr 3
  simp at v3
  have hlt0 := hT.lt
  have T2 := Lib.hid (hT.put 3 (.int .i64 m))
  clear hR hO hT T1 D1
  go_wp2_with fail
  refine (way_any _ _).mono ?_
  rintro e w3 ⟨rfl, rfl⟩
  go_wp2_with fail
  refine (D2.out _ T2.out.rd).mono ?_
  rintro e w4 ⟨rfl, hR, hO⟩
  have hT := T2.out.step hR hO
  clear v3 fv3 hlt0
  have v3 := hT.x.cell 3
  have v4 := hT.x.cell 4
  have fv4 := hT.x.fr 4
  have hr1 := hT.rd.c1
  have hfr1 := hT.rd.fr 1
  simp at v3 v4
  have hlt0 := hT.lt
  have T3 := Lib.hid (hT.put 4 (.bool true))
  clear hR hO hT T2 D2
  have TK := Lib.hid (T3.out.ok false)
  clear T3
  go_wp2_with fail
  refine (C3.out _ TK.out.rd).mono ?_
  rintro e u1 ⟨rfl, hR, hO⟩
  have U1 := Lib.hid (TK.out.step hR hO)
  clear hR hO TK C3
  go_wp2_with fail
  refine (C4.out _ U1.out.rd).mono ?_
  rintro e u2 ⟨rfl, hR, hO⟩
  have hU := U1.out.step hR hO
  clear hR hO U1 C4
  have x0 := hU.x.cell 0
  have x1 := hU.x.cell 1
  have x2 := hU.x.cell 2
  have x3 := hU.x.cell 3
  have x4 := hU.x.cell 4
  have x5 := hU.x.cell 5
  have fx5 := hU.x.fr 5
  have b0 := hU.res.cell 0
  have fb0 := hU.res.fr 0
  have b1 := hU.res.cell 1
  have fb1 := hU.res.fr 1
  have b2 := hU.res.cell 2
  have fb2 := hU.res.fr 2
  have b3 := hU.res.cell 3
  have fb3 := hU.res.fr 3
  have b4 := hU.res.cell 4
  have fb4 := hU.res.fr 4
  have b5 := hU.res.cell 5
  have fb5 := hU.res.fr 5
  simp at x0 x1 x2 x3 x4 x5 b0 b1 b2 b3 b4 b5
  have r0 := hU.rd.c0
  have r1 := hU.rd.c1
  have hlt := hU.lt
  have hbel := hU.bel
  have HU := Lib.hid (hU.put 5 (.int .i64 g))
  clear hU
  cases k3 with
  | false =>
    obtain rfl : q = (⟨0, 0, 0, 0, false, 0⟩, 10) := by rw [← HQ.out]; simp
    clear HQ HU
    go_wp2_with fail
    refine bodyPost_ret (v := .tuple #[.agg #[.int .i64 0, .int .i64 0, .int .i64 0, .int .i64 0, .bool false, .int .i64 0], .int .i64 10]) (by simp [results, Tryd.results22, go_sem, b0, b1, b2, b3, b4, b5]) rfl ⟨rfl, ?_⟩
    exact ((((((hbel.setCell (by simp; omega) _).setCell (Nat.le_refl _) _).setCell (Nat.le_refl _) _).setCell (Nat.le_refl _) _).setCell (Nat.le_refl _) _).setCell (Nat.le_refl _) _).setCell (Nat.le_refl _) _
  | true =>
    cases l3 with
    | cons x t =>
      obtain rfl : q = (⟨0, 0, 0, 0, false, 0⟩, 10) := by rw [← HQ.out]; simp
      clear HQ HU
      have hne : (x :: t).isEmpty = false := rfl
      generalize (x :: t) = l2 at r0 hne
      go_wp2_with fail
      refine bodyPost_ret (v := .tuple #[.agg #[.int .i64 0, .int .i64 0, .int .i64 0, .int .i64 0, .bool false, .int .i64 0], .int .i64 10]) (by simp [results, Tryd.results22, go_sem, b0, b1, b2, b3, b4, b5]) rfl ⟨rfl, ?_⟩
      exact ((((((hbel.setCell (by simp; omega) _).setCell (Nat.le_refl _) _).setCell (Nat.le_refl _) _).setCell (Nat.le_refl _) _).setCell (Nat.le_refl _) _).setCell (Nat.le_refl _) _).setCell (Nat.le_refl _) _
    | nil =>
      have hC := Lib.hid (fun W => checkItem_any 0 0 0 m true g W)
      go_wp2_with fail
      refine (hC.out _).mono ?_
      rintro e u3 ⟨rfl, hb3⟩
      have hU := HU.out.call hb3
      clear HU hb3 hC r0 r1 x0 x1 x2 x3 x4 x5 fx5 b0 fb0 b1 fb1 b2 fb2 b3 fb3 b4 fb4 b5 fb5 hbel
      have y0 := hU.x.cell 0
      have y1 := hU.x.cell 1
      have y2 := hU.x.cell 2
      have y3 := hU.x.cell 3
      have y4 := hU.x.cell 4
      have y5 := hU.x.cell 5
      have d0 := hU.res.cell 0
      have fd0 := hU.res.fr 0
      have d1 := hU.res.cell 1
      have fd1 := hU.res.fr 1
      have d2 := hU.res.cell 2
      have fd2 := hU.res.fr 2
      have d3 := hU.res.cell 3
      have fd3 := hU.res.fr 3
      have d4 := hU.res.cell 4
      have fd4 := hU.res.fr 4
      have d5 := hU.res.cell 5
      have fd5 := hU.res.fr 5
      simp at y0 y1 y2 y3 y4 y5 d0 d1 d2 d3 d4 d5
      have hbel := hU.bel
      clear hU
      by_cases hv : itemOk 0 0 0 m true g
      · obtain rfl : q = (⟨0, 0, 0, m, true, g⟩, 0) := by rw [← HQ.out]; simp [hv]
        have hz := ckItem_yes hv
        generalize ckItem 0 0 0 m true g = z at hz
        subst hz
        clear HQ hv
        go_wp2_with fail
        refine bodyPost_ret (v := .tuple #[.agg #[.int .i64 0, .int .i64 0, .int .i64 0, .int .i64 m, .bool true, .int .i64 g], .int .i64 0]) (by simp [results, Tryd.results22, go_sem, d0, d1, d2, d3, d4, d5]) rfl ⟨rfl, ?_⟩
        exact (((((hbel.setCell (Nat.le_refl _) _).setCell (Nat.le_refl _) _).setCell (Nat.le_refl _) _).setCell (Nat.le_refl _) _).setCell (Nat.le_refl _) _).setCell (Nat.le_refl _) _
      · obtain rfl : q = (⟨0, 0, 0, 0, false, 0⟩, 10) := by rw [← HQ.out]; simp [hv]
        have hz := ckItem_no hv
        generalize ckItem 0 0 0 m true g = z at hz
        subst hz
        clear HQ hv
        go_wp2_with fail
        refine bodyPost_ret (v := .tuple #[.agg #[.int .i64 0, .int .i64 0, .int .i64 0, .int .i64 0, .bool false, .int .i64 0], .int .i64 10]) (by simp [results, Tryd.results22, go_sem, d0, d1, d2, d3, d4, d5]) rfl ⟨rfl, ?_⟩
        exact (((((hbel.setCell (Nat.le_refl _) _).setCell (Nat.le_refl _) _).setCell (Nat.le_refl _) _).setCell (Nat.le_refl _) _).setCell (Nat.le_refl _) _).setCell (Nat.le_refl _) _

set_option maxHeartbeats 4000000 in
theorem parseItem_m_true_bad (s : ByteArray) (w : World) (m : Int) (l2 : List UInt8) (hs : s.size ≤ 1000000) (hp : Lib.hasPrefix s.data.toList [109] = true)
    (hm : rNumV (Lib.trimPrefix s.data.toList [109]) = m) (hi : Lib.hasPrefix (rNum (Lib.trimPrefix s.data.toList [109], true)).1 inL = true)
    (h2 : rWord inL (rNum (Lib.trimPrefix s.data.toList [109], true)) = (l2, false)) :
    Calls Tryd.prog 22 #[.string s] w (ItemOut (pItemR s.data.toList) w) := by
  have hl : s.data.toList.length ≤ 1000000 := by rw [← Lib.size_eq]; exact hs
  have ht : (Lib.trimPrefix s.data.toList [109]).length ≤ 1000000 := by
    exact Nat.le_trans (trimPrefix_len _ _) hl
  have hH : rHeadS s.data.toList = (l2, false) := by
    unfold rHeadS; rw [hp, if_pos rfl]; unfold rMoveS; dsimp only; rw [hi, if_pos rfl, h2, hm]; simp
  have hV0 : rHeadV s.data.toList = ⟨0, 0, 0, m, true, 0⟩ := by unfold rHeadV rMoveI; rw [hp, if_pos rfl, hm, hi]
  have hh := rHead_len s.data.toList
  have hn := rNeed_len [64] (rHeadS s.data.toList)
  have C1 := Lib.hid (fun W hW => word_any (w.heap.size + 1) s.data.toList true ⟨#[109]⟩ W hW)
  have D1 := Lib.hid (fun W hW => number_any (w.heap.size + 1) (Lib.trimPrefix s.data.toList [109]) true W ht hW)
  have D2 := Lib.hid (fun W hW => word_any (w.heap.size + 1) (rNum (Lib.trimPrefix s.data.toList [109], true)).1 (rNum (Lib.trimPrefix s.data.toList [109], true)).2 ⟨(wayL true).toArray⟩ W hW)
  have C3 := Lib.hid (fun W hW => need_any (w.heap.size + 1) (rHeadS s.data.toList).1 (rHeadS s.data.toList).2 ⟨#[64]⟩ W hW)
  have C4 := Lib.hid (fun W hW => number_any (w.heap.size + 1) (rNeed [64] (rHeadS s.data.toList)).1 (rNeed [64] (rHeadS s.data.toList)).2 W (by omega) hW)
  have hP : pItem s.data.toList = if (rItemS s.data.toList).2 = true ∧ (rItemS s.data.toList).1 = [] ∧ itemOk (rItemV s.data.toList).a (rItemV s.data.toList).b (rItemV s.data.toList).c (rItemV s.data.toList).m (rItemV s.data.toList).i (rItemV s.data.toList).g then some (rItemV s.data.toList) else none := rfl
  have hV : rItemV s.data.toList = ⟨0, 0, 0, m, true, rNumV (rNeed [64] (rHeadS s.data.toList)).1⟩ := by unfold rItemV; rw [hV0]
  have hS : rItemS s.data.toList = rNum (rNeed [64] (rHeadS s.data.toList)) := rfl
  generalize hq : pItemR s.data.toList = q
  unfold pItemR at hq
  rw [hP, hS, hV] at hq
  clear hP hS hV hV0 hl hh hn ht
  rw [hH] at C3 C4 hq
  dsimp only at C3 C4
  change Hid (∀ W hW, Calls _ _ _ W fun e w' => e = .returned (.bool (Lib.hasPrefix s.data.toList [109])) ∧ Rd w' (w.heap.size + 1) (Lib.trimPrefix s.data.toList [109]) true ∧ _) at C1
  rw [hp] at C1
  generalize Lib.trimPrefix s.data.toList [109] = l1 at C1 D1 D2 hm hi h2
  change Hid (∀ W hW, Calls _ _ _ W fun e w' => e = _ ∧ Rd w' (w.heap.size + 1) (rNum (l1, true)).1 (rNum (l1, true)).2 ∧ _) at D1
  rw [hm] at D1
  generalize rNum (l1, true) = n1 at D1 D2 hi h2
  obtain ⟨n1a, n1b⟩ := n1
  dsimp only at D1 D2 hi
  change Hid (∀ W hW, Calls _ _ _ W fun e w' => e = .returned (.bool (Lib.hasPrefix n1a inL)) ∧ Rd w' (w.heap.size + 1) (Lib.trimPrefix n1a inL) n1b ∧ _) at D2
  rw [hi] at D2
  have h2a : Lib.trimPrefix n1a inL = l2 := congrArg Prod.fst h2
  have h2b : n1b = false := congrArg Prod.snd h2
  subst h2b
  rw [h2a] at D2
  clear h2 h2a hi hm hp hH
  generalize rNeed [64] (l2, false) = S2 at C3 C4 hq
  change Hid (∀ W hW, Calls _ _ _ W fun e w' => e = _ ∧ Rd w' (w.heap.size + 1) S2.1 S2.2 ∧ _) at C3
  change Hid (∀ W hW, Calls _ _ _ W fun e w' => e = _ ∧ Rd w' (w.heap.size + 1) (rNum S2).1 (rNum S2).2 ∧ _) at C4
  generalize rNum S2 = S3 at C4 hq
  generalize rNumV S2.1 = g at C4 hq
  obtain ⟨l3, k3⟩ := S3
  dsimp only at hq
  have HQ := Lib.hid hq
  clear hq
  have T0 := Lib.hid (St.start w s)
  go_enter Tryd.func22, Tryd.ntmps22
  go_wp2_with fail
  refine (C1.out _ T0.out.rd).mono ?_
  rintro e w1 ⟨rfl, hR, hO⟩
  have T1 := Lib.hid (T0.out.step hR hO)
  clear hR hO T0 C1
  go_wp2_with fail
  refine (D1.out _ T1.out.rd).mono ?_
  rintro e w2 ⟨rfl, hR, hO⟩
  have hT := T1.out.step hR hO
  have v3 := hT.x.cell 3
  have fv3 := hT.x.fr 3
  simp at v3
  have hlt0 := hT.lt
  have T2 := Lib.hid (hT.put 3 (.int .i64 m))
  clear hR hO hT T1 D1
  go_wp2_with fail
  refine (way_any _ _).mono ?_
  rintro e w3 ⟨rfl, rfl⟩
  go_wp2_with fail
  refine (D2.out _ T2.out.rd).mono ?_
  rintro e w4 ⟨rfl, hR, hO⟩
  have hT := T2.out.step hR hO
  clear v3 fv3 hlt0
  have v3 := hT.x.cell 3
  have v4 := hT.x.cell 4
  have fv4 := hT.x.fr 4
  have hr1 := hT.rd.c1
  have hfr1 := hT.rd.fr 1
  simp at v3 v4
  have hlt0 := hT.lt
  have T3 := Lib.hid (hT.put 4 (.bool true))
  clear hR hO hT T2 D2
  have TK := Lib.hid (T3.out.ok false)
  clear T3
  go_wp2_with fail
  refine (C3.out _ TK.out.rd).mono ?_
  rintro e u1 ⟨rfl, hR, hO⟩
  have U1 := Lib.hid (TK.out.step hR hO)
  clear hR hO TK C3
  go_wp2_with fail
  refine (C4.out _ U1.out.rd).mono ?_
  rintro e u2 ⟨rfl, hR, hO⟩
  have hU := U1.out.step hR hO
  clear hR hO U1 C4
  have x0 := hU.x.cell 0
  have x1 := hU.x.cell 1
  have x2 := hU.x.cell 2
  have x3 := hU.x.cell 3
  have x4 := hU.x.cell 4
  have x5 := hU.x.cell 5
  have fx5 := hU.x.fr 5
  have b0 := hU.res.cell 0
  have fb0 := hU.res.fr 0
  have b1 := hU.res.cell 1
  have fb1 := hU.res.fr 1
  have b2 := hU.res.cell 2
  have fb2 := hU.res.fr 2
  have b3 := hU.res.cell 3
  have fb3 := hU.res.fr 3
  have b4 := hU.res.cell 4
  have fb4 := hU.res.fr 4
  have b5 := hU.res.cell 5
  have fb5 := hU.res.fr 5
  simp at x0 x1 x2 x3 x4 x5 b0 b1 b2 b3 b4 b5
  have r0 := hU.rd.c0
  have r1 := hU.rd.c1
  have hlt := hU.lt
  have hbel := hU.bel
  have HU := Lib.hid (hU.put 5 (.int .i64 g))
  clear hU
  cases k3 with
  | false =>
    obtain rfl : q = (⟨0, 0, 0, 0, false, 0⟩, 10) := by rw [← HQ.out]; simp
    clear HQ HU
    go_wp2_with fail
    refine bodyPost_ret (v := .tuple #[.agg #[.int .i64 0, .int .i64 0, .int .i64 0, .int .i64 0, .bool false, .int .i64 0], .int .i64 10]) (by simp [results, Tryd.results22, go_sem, b0, b1, b2, b3, b4, b5]) rfl ⟨rfl, ?_⟩
    exact ((((((hbel.setCell (by simp; omega) _).setCell (Nat.le_refl _) _).setCell (Nat.le_refl _) _).setCell (Nat.le_refl _) _).setCell (Nat.le_refl _) _).setCell (Nat.le_refl _) _).setCell (Nat.le_refl _) _
  | true =>
    cases l3 with
    | cons x t =>
      obtain rfl : q = (⟨0, 0, 0, 0, false, 0⟩, 10) := by rw [← HQ.out]; simp
      clear HQ HU
      have hne : (x :: t).isEmpty = false := rfl
      generalize (x :: t) = l2 at r0 hne
      go_wp2_with fail
      refine bodyPost_ret (v := .tuple #[.agg #[.int .i64 0, .int .i64 0, .int .i64 0, .int .i64 0, .bool false, .int .i64 0], .int .i64 10]) (by simp [results, Tryd.results22, go_sem, b0, b1, b2, b3, b4, b5]) rfl ⟨rfl, ?_⟩
      exact ((((((hbel.setCell (by simp; omega) _).setCell (Nat.le_refl _) _).setCell (Nat.le_refl _) _).setCell (Nat.le_refl _) _).setCell (Nat.le_refl _) _).setCell (Nat.le_refl _) _).setCell (Nat.le_refl _) _
    | nil =>
      have hC := Lib.hid (fun W => checkItem_any 0 0 0 m true g W)
      go_wp2_with fail
      refine (hC.out _).mono ?_
      rintro e u3 ⟨rfl, hb3⟩
      have hU := HU.out.call hb3
      clear HU hb3 hC r0 r1 x0 x1 x2 x3 x4 x5 fx5 b0 fb0 b1 fb1 b2 fb2 b3 fb3 b4 fb4 b5 fb5 hbel
      have y0 := hU.x.cell 0
      have y1 := hU.x.cell 1
      have y2 := hU.x.cell 2
      have y3 := hU.x.cell 3
      have y4 := hU.x.cell 4
      have y5 := hU.x.cell 5
      have d0 := hU.res.cell 0
      have fd0 := hU.res.fr 0
      have d1 := hU.res.cell 1
      have fd1 := hU.res.fr 1
      have d2 := hU.res.cell 2
      have fd2 := hU.res.fr 2
      have d3 := hU.res.cell 3
      have fd3 := hU.res.fr 3
      have d4 := hU.res.cell 4
      have fd4 := hU.res.fr 4
      have d5 := hU.res.cell 5
      have fd5 := hU.res.fr 5
      simp at y0 y1 y2 y3 y4 y5 d0 d1 d2 d3 d4 d5
      have hbel := hU.bel
      clear hU
      by_cases hv : itemOk 0 0 0 m true g
      · obtain rfl : q = (⟨0, 0, 0, m, true, g⟩, 0) := by rw [← HQ.out]; simp [hv]
        have hz := ckItem_yes hv
        generalize ckItem 0 0 0 m true g = z at hz
        subst hz
        clear HQ hv
        go_wp2_with fail
        refine bodyPost_ret (v := .tuple #[.agg #[.int .i64 0, .int .i64 0, .int .i64 0, .int .i64 m, .bool true, .int .i64 g], .int .i64 0]) (by simp [results, Tryd.results22, go_sem, d0, d1, d2, d3, d4, d5]) rfl ⟨rfl, ?_⟩
        exact (((((hbel.setCell (Nat.le_refl _) _).setCell (Nat.le_refl _) _).setCell (Nat.le_refl _) _).setCell (Nat.le_refl _) _).setCell (Nat.le_refl _) _).setCell (Nat.le_refl _) _
      · obtain rfl : q = (⟨0, 0, 0, 0, false, 0⟩, 10) := by rw [← HQ.out]; simp [hv]
        have hz := ckItem_no hv
        generalize ckItem 0 0 0 m true g = z at hz
        subst hz
        clear HQ hv
        go_wp2_with fail
        refine bodyPost_ret (v := .tuple #[.agg #[.int .i64 0, .int .i64 0, .int .i64 0, .int .i64 0, .bool false, .int .i64 0], .int .i64 10]) (by simp [results, Tryd.results22, go_sem, d0, d1, d2, d3, d4, d5]) rfl ⟨rfl, ?_⟩
        exact (((((hbel.setCell (Nat.le_refl _) _).setCell (Nat.le_refl _) _).setCell (Nat.le_refl _) _).setCell (Nat.le_refl _) _).setCell (Nat.le_refl _) _).setCell (Nat.le_refl _) _

set_option maxHeartbeats 4000000 in
theorem parseItem_m_false_yes (s : ByteArray) (w : World) (m : Int) (l2 : List UInt8) (hs : s.size ≤ 1000000) (hp : Lib.hasPrefix s.data.toList [109] = true)
    (hm : rNumV (Lib.trimPrefix s.data.toList [109]) = m) (hi : Lib.hasPrefix (rNum (Lib.trimPrefix s.data.toList [109], true)).1 inL = false)
    (h2 : rNeed outL (rNum (Lib.trimPrefix s.data.toList [109], true)) = (l2, true)) (hpos : 0 < m) :
    Calls Tryd.prog 22 #[.string s] w (ItemOut (pItemR s.data.toList) w) := by
  have hl : s.data.toList.length ≤ 1000000 := by rw [← Lib.size_eq]; exact hs
  have ht : (Lib.trimPrefix s.data.toList [109]).length ≤ 1000000 := by
    exact Nat.le_trans (trimPrefix_len _ _) hl
  have hH : rHeadS s.data.toList = (l2, true) := by
    unfold rHeadS; rw [hp, if_pos rfl]; unfold rMoveS; dsimp only; rw [hi, if_neg (by simp), h2, hm]; simp; exact hpos
  have hV0 : rHeadV s.data.toList = ⟨0, 0, 0, m, false, 0⟩ := by unfold rHeadV rMoveI; rw [hp, if_pos rfl, hm, hi]
  have hh := rHead_len s.data.toList
  have hn := rNeed_len [64] (rHeadS s.data.toList)
  have C1 := Lib.hid (fun W hW => word_any (w.heap.size + 1) s.data.toList true ⟨#[109]⟩ W hW)
  have D1 := Lib.hid (fun W hW => number_any (w.heap.size + 1) (Lib.trimPrefix s.data.toList [109]) true W ht hW)
  have D2 := Lib.hid (fun W hW => word_any (w.heap.size + 1) (rNum (Lib.trimPrefix s.data.toList [109], true)).1 (rNum (Lib.trimPrefix s.data.toList [109], true)).2 ⟨(wayL true).toArray⟩ W hW)
  have D3 := Lib.hid (fun W hW => need_any (w.heap.size + 1) (rNum (Lib.trimPrefix s.data.toList [109], true)).1 (rNum (Lib.trimPrefix s.data.toList [109], true)).2 ⟨(wayL false).toArray⟩ W hW)
  have C3 := Lib.hid (fun W hW => need_any (w.heap.size + 1) (rHeadS s.data.toList).1 (rHeadS s.data.toList).2 ⟨#[64]⟩ W hW)
  have C4 := Lib.hid (fun W hW => number_any (w.heap.size + 1) (rNeed [64] (rHeadS s.data.toList)).1 (rNeed [64] (rHeadS s.data.toList)).2 W (by omega) hW)
  have hP : pItem s.data.toList = if (rItemS s.data.toList).2 = true ∧ (rItemS s.data.toList).1 = [] ∧ itemOk (rItemV s.data.toList).a (rItemV s.data.toList).b (rItemV s.data.toList).c (rItemV s.data.toList).m (rItemV s.data.toList).i (rItemV s.data.toList).g then some (rItemV s.data.toList) else none := rfl
  have hV : rItemV s.data.toList = ⟨0, 0, 0, m, false, rNumV (rNeed [64] (rHeadS s.data.toList)).1⟩ := by unfold rItemV; rw [hV0]
  have hS : rItemS s.data.toList = rNum (rNeed [64] (rHeadS s.data.toList)) := rfl
  generalize hq : pItemR s.data.toList = q
  unfold pItemR at hq
  rw [hP, hS, hV] at hq
  clear hP hS hV hV0 hl hh hn ht
  rw [hH] at C3 C4 hq
  dsimp only at C3 C4
  change Hid (∀ W hW, Calls _ _ _ W fun e w' => e = .returned (.bool (Lib.hasPrefix s.data.toList [109])) ∧ Rd w' (w.heap.size + 1) (Lib.trimPrefix s.data.toList [109]) true ∧ _) at C1
  rw [hp] at C1
  generalize Lib.trimPrefix s.data.toList [109] = l1 at C1 D1 D2 D3 hm hi h2
  change Hid (∀ W hW, Calls _ _ _ W fun e w' => e = _ ∧ Rd w' (w.heap.size + 1) (rNum (l1, true)).1 (rNum (l1, true)).2 ∧ _) at D1
  rw [hm] at D1
  generalize rNum (l1, true) = n1 at D1 D2 D3 hi h2
  obtain ⟨n1a, n1b⟩ := n1
  dsimp only at D1 D2 D3 hi
  change Hid (∀ W hW, Calls _ _ _ W fun e w' => e = .returned (.bool (Lib.hasPrefix n1a inL)) ∧ Rd w' (w.heap.size + 1) (Lib.trimPrefix n1a inL) n1b ∧ _) at D2
  rw [hi] at D2
  have h3a : Lib.trimPrefix n1a inL = n1a := by unfold Lib.trimPrefix; rw [hi]; rfl
  rw [h3a] at D2
  change Hid (∀ W hW, Calls _ _ _ W fun e w' => e = _ ∧ Rd w' (w.heap.size + 1) (rNeed outL (n1a, n1b)).1 (rNeed outL (n1a, n1b)).2 ∧ _) at D3
  rw [h2] at D3
  dsimp only at D3
  clear h2 h3a hi hm hp hH
  generalize rNeed [64] (l2, true) = S2 at C3 C4 hq
  change Hid (∀ W hW, Calls _ _ _ W fun e w' => e = _ ∧ Rd w' (w.heap.size + 1) S2.1 S2.2 ∧ _) at C3
  change Hid (∀ W hW, Calls _ _ _ W fun e w' => e = _ ∧ Rd w' (w.heap.size + 1) (rNum S2).1 (rNum S2).2 ∧ _) at C4
  generalize rNum S2 = S3 at C4 hq
  generalize rNumV S2.1 = g at C4 hq
  obtain ⟨l3, k3⟩ := S3
  dsimp only at hq
  have HQ := Lib.hid hq
  clear hq
  have T0 := Lib.hid (St.start w s)
  go_enter Tryd.func22, Tryd.ntmps22
  go_wp2_with fail
  refine (C1.out _ T0.out.rd).mono ?_
  rintro e w1 ⟨rfl, hR, hO⟩
  have T1 := Lib.hid (T0.out.step hR hO)
  clear hR hO T0 C1
  go_wp2_with fail
  refine (D1.out _ T1.out.rd).mono ?_
  rintro e w2 ⟨rfl, hR, hO⟩
  have hT := T1.out.step hR hO
  have v3 := hT.x.cell 3
  have fv3 := hT.x.fr 3
  simp at v3
  have hlt0 := hT.lt
  have T2 := Lib.hid (hT.put 3 (.int .i64 m))
  clear hR hO hT T1 D1
  go_wp2_with fail
  refine (way_any _ _).mono ?_
  rintro e w3 ⟨rfl, rfl⟩
  go_wp2_with fail
  refine (D2.out _ T2.out.rd).mono ?_
  rintro e w4 ⟨rfl, hR, hO⟩
  have hT := T2.out.step hR hO
  clear v3 fv3 hlt0
  have v3 := hT.x.cell 3
  have v4 := hT.x.cell 4
  have fv4 := hT.x.fr 4
  have hr1 := hT.rd.c1
  have hfr1 := hT.rd.fr 1
  simp at v3 v4
  have hlt0 := hT.lt
  have T3 := Lib.hid (hT.put 4 (.bool false))
  clear hR hO hT T2 D2
  go_wp2_with fail
  refine (way_any _ _).mono ?_
  rintro e w5 ⟨rfl, rfl⟩
  go_wp2_with fail
  refine (D3.out _ T3.out.rd).mono ?_
  rintro e w6 ⟨rfl, hR, hO⟩
  have hT := T3.out.step hR hO
  clear v3 v4 fv4 hlt0 hr1 hfr1
  have v3 := hT.x.cell 3
  have hr1 := hT.rd.c1
  have hfr1 := hT.rd.fr 1
  simp at v3
  have hlt0 := hT.lt
  have TK := Lib.hid (hT.ok true)
  clear hR hO hT T3 D3
  go_wp2_with fail
  refine (C3.out _ TK.out.rd).mono ?_
  rintro e u1 ⟨rfl, hR, hO⟩
  have U1 := Lib.hid (TK.out.step hR hO)
  clear hR hO TK C3
  go_wp2_with fail
  refine (C4.out _ U1.out.rd).mono ?_
  rintro e u2 ⟨rfl, hR, hO⟩
  have hU := U1.out.step hR hO
  clear hR hO U1 C4
  have x0 := hU.x.cell 0
  have x1 := hU.x.cell 1
  have x2 := hU.x.cell 2
  have x3 := hU.x.cell 3
  have x4 := hU.x.cell 4
  have x5 := hU.x.cell 5
  have fx5 := hU.x.fr 5
  have b0 := hU.res.cell 0
  have fb0 := hU.res.fr 0
  have b1 := hU.res.cell 1
  have fb1 := hU.res.fr 1
  have b2 := hU.res.cell 2
  have fb2 := hU.res.fr 2
  have b3 := hU.res.cell 3
  have fb3 := hU.res.fr 3
  have b4 := hU.res.cell 4
  have fb4 := hU.res.fr 4
  have b5 := hU.res.cell 5
  have fb5 := hU.res.fr 5
  simp at x0 x1 x2 x3 x4 x5 b0 b1 b2 b3 b4 b5
  have r0 := hU.rd.c0
  have r1 := hU.rd.c1
  have hlt := hU.lt
  have hbel := hU.bel
  have HU := Lib.hid (hU.put 5 (.int .i64 g))
  clear hU
  cases k3 with
  | false =>
    obtain rfl : q = (⟨0, 0, 0, 0, false, 0⟩, 10) := by rw [← HQ.out]; simp
    clear HQ HU
    go_wp2_with fail
    refine bodyPost_ret (v := .tuple #[.agg #[.int .i64 0, .int .i64 0, .int .i64 0, .int .i64 0, .bool false, .int .i64 0], .int .i64 10]) (by simp [results, Tryd.results22, go_sem, b0, b1, b2, b3, b4, b5]) rfl ⟨rfl, ?_⟩
    exact ((((((hbel.setCell (by simp; omega) _).setCell (Nat.le_refl _) _).setCell (Nat.le_refl _) _).setCell (Nat.le_refl _) _).setCell (Nat.le_refl _) _).setCell (Nat.le_refl _) _).setCell (Nat.le_refl _) _
  | true =>
    cases l3 with
    | cons x t =>
      obtain rfl : q = (⟨0, 0, 0, 0, false, 0⟩, 10) := by rw [← HQ.out]; simp
      clear HQ HU
      have hne : (x :: t).isEmpty = false := rfl
      generalize (x :: t) = l2 at r0 hne
      go_wp2_with fail
      refine bodyPost_ret (v := .tuple #[.agg #[.int .i64 0, .int .i64 0, .int .i64 0, .int .i64 0, .bool false, .int .i64 0], .int .i64 10]) (by simp [results, Tryd.results22, go_sem, b0, b1, b2, b3, b4, b5]) rfl ⟨rfl, ?_⟩
      exact ((((((hbel.setCell (by simp; omega) _).setCell (Nat.le_refl _) _).setCell (Nat.le_refl _) _).setCell (Nat.le_refl _) _).setCell (Nat.le_refl _) _).setCell (Nat.le_refl _) _).setCell (Nat.le_refl _) _
    | nil =>
      have hC := Lib.hid (fun W => checkItem_any 0 0 0 m false g W)
      go_wp2_with fail
      refine (hC.out _).mono ?_
      rintro e u3 ⟨rfl, hb3⟩
      have hU := HU.out.call hb3
      clear HU hb3 hC r0 r1 x0 x1 x2 x3 x4 x5 fx5 b0 fb0 b1 fb1 b2 fb2 b3 fb3 b4 fb4 b5 fb5 hbel
      have y0 := hU.x.cell 0
      have y1 := hU.x.cell 1
      have y2 := hU.x.cell 2
      have y3 := hU.x.cell 3
      have y4 := hU.x.cell 4
      have y5 := hU.x.cell 5
      have d0 := hU.res.cell 0
      have fd0 := hU.res.fr 0
      have d1 := hU.res.cell 1
      have fd1 := hU.res.fr 1
      have d2 := hU.res.cell 2
      have fd2 := hU.res.fr 2
      have d3 := hU.res.cell 3
      have fd3 := hU.res.fr 3
      have d4 := hU.res.cell 4
      have fd4 := hU.res.fr 4
      have d5 := hU.res.cell 5
      have fd5 := hU.res.fr 5
      simp at y0 y1 y2 y3 y4 y5 d0 d1 d2 d3 d4 d5
      have hbel := hU.bel
      clear hU
      by_cases hv : itemOk 0 0 0 m false g
      · obtain rfl : q = (⟨0, 0, 0, m, false, g⟩, 0) := by rw [← HQ.out]; simp [hv]
        have hz := ckItem_yes hv
        generalize ckItem 0 0 0 m false g = z at hz
        subst hz
        clear HQ hv
        go_wp2_with fail
        refine bodyPost_ret (v := .tuple #[.agg #[.int .i64 0, .int .i64 0, .int .i64 0, .int .i64 m, .bool false, .int .i64 g], .int .i64 0]) (by simp [results, Tryd.results22, go_sem, d0, d1, d2, d3, d4, d5]) rfl ⟨rfl, ?_⟩
        exact (((((hbel.setCell (Nat.le_refl _) _).setCell (Nat.le_refl _) _).setCell (Nat.le_refl _) _).setCell (Nat.le_refl _) _).setCell (Nat.le_refl _) _).setCell (Nat.le_refl _) _
      · obtain rfl : q = (⟨0, 0, 0, 0, false, 0⟩, 10) := by rw [← HQ.out]; simp [hv]
        have hz := ckItem_no hv
        generalize ckItem 0 0 0 m false g = z at hz
        subst hz
        clear HQ hv
        go_wp2_with fail
        refine bodyPost_ret (v := .tuple #[.agg #[.int .i64 0, .int .i64 0, .int .i64 0, .int .i64 0, .bool false, .int .i64 0], .int .i64 10]) (by simp [results, Tryd.results22, go_sem, d0, d1, d2, d3, d4, d5]) rfl ⟨rfl, ?_⟩
        exact (((((hbel.setCell (Nat.le_refl _) _).setCell (Nat.le_refl _) _).setCell (Nat.le_refl _) _).setCell (Nat.le_refl _) _).setCell (Nat.le_refl _) _).setCell (Nat.le_refl _) _

set_option maxHeartbeats 4000000 in
theorem parseItem_m_false_no (s : ByteArray) (w : World) (m : Int) (l2 : List UInt8) (hs : s.size ≤ 1000000) (hp : Lib.hasPrefix s.data.toList [109] = true)
    (hm : rNumV (Lib.trimPrefix s.data.toList [109]) = m) (hi : Lib.hasPrefix (rNum (Lib.trimPrefix s.data.toList [109], true)).1 inL = false)
    (h2 : rNeed outL (rNum (Lib.trimPrefix s.data.toList [109], true)) = (l2, true)) (hpos : ¬ 0 < m) :
    Calls Tryd.prog 22 #[.string s] w (ItemOut (pItemR s.data.toList) w) := by
  have hl : s.data.toList.length ≤ 1000000 := by rw [← Lib.size_eq]; exact hs
  have ht : (Lib.trimPrefix s.data.toList [109]).length ≤ 1000000 := by
    exact Nat.le_trans (trimPrefix_len _ _) hl
  have hH : rHeadS s.data.toList = (l2, false) := by
    unfold rHeadS; rw [hp, if_pos rfl]; unfold rMoveS; dsimp only; rw [hi, if_neg (by simp), h2, hm]; simp; omega
  have hV0 : rHeadV s.data.toList = ⟨0, 0, 0, m, false, 0⟩ := by unfold rHeadV rMoveI; rw [hp, if_pos rfl, hm, hi]
  have hh := rHead_len s.data.toList
  have hn := rNeed_len [64] (rHeadS s.data.toList)
  have C1 := Lib.hid (fun W hW => word_any (w.heap.size + 1) s.data.toList true ⟨#[109]⟩ W hW)
  have D1 := Lib.hid (fun W hW => number_any (w.heap.size + 1) (Lib.trimPrefix s.data.toList [109]) true W ht hW)
  have D2 := Lib.hid (fun W hW => word_any (w.heap.size + 1) (rNum (Lib.trimPrefix s.data.toList [109], true)).1 (rNum (Lib.trimPrefix s.data.toList [109], true)).2 ⟨(wayL true).toArray⟩ W hW)
  have D3 := Lib.hid (fun W hW => need_any (w.heap.size + 1) (rNum (Lib.trimPrefix s.data.toList [109], true)).1 (rNum (Lib.trimPrefix s.data.toList [109], true)).2 ⟨(wayL false).toArray⟩ W hW)
  have C3 := Lib.hid (fun W hW => need_any (w.heap.size + 1) (rHeadS s.data.toList).1 (rHeadS s.data.toList).2 ⟨#[64]⟩ W hW)
  have C4 := Lib.hid (fun W hW => number_any (w.heap.size + 1) (rNeed [64] (rHeadS s.data.toList)).1 (rNeed [64] (rHeadS s.data.toList)).2 W (by omega) hW)
  have hP : pItem s.data.toList = if (rItemS s.data.toList).2 = true ∧ (rItemS s.data.toList).1 = [] ∧ itemOk (rItemV s.data.toList).a (rItemV s.data.toList).b (rItemV s.data.toList).c (rItemV s.data.toList).m (rItemV s.data.toList).i (rItemV s.data.toList).g then some (rItemV s.data.toList) else none := rfl
  have hV : rItemV s.data.toList = ⟨0, 0, 0, m, false, rNumV (rNeed [64] (rHeadS s.data.toList)).1⟩ := by unfold rItemV; rw [hV0]
  have hS : rItemS s.data.toList = rNum (rNeed [64] (rHeadS s.data.toList)) := rfl
  generalize hq : pItemR s.data.toList = q
  have hposb : decide (0 < m) = false := by simpa using hpos
  unfold pItemR at hq
  rw [hP, hS, hV] at hq
  clear hP hS hV hV0 hl hh hn ht
  rw [hH] at C3 C4 hq
  dsimp only at C3 C4
  change Hid (∀ W hW, Calls _ _ _ W fun e w' => e = .returned (.bool (Lib.hasPrefix s.data.toList [109])) ∧ Rd w' (w.heap.size + 1) (Lib.trimPrefix s.data.toList [109]) true ∧ _) at C1
  rw [hp] at C1
  generalize Lib.trimPrefix s.data.toList [109] = l1 at C1 D1 D2 D3 hm hi h2
  change Hid (∀ W hW, Calls _ _ _ W fun e w' => e = _ ∧ Rd w' (w.heap.size + 1) (rNum (l1, true)).1 (rNum (l1, true)).2 ∧ _) at D1
  rw [hm] at D1
  generalize rNum (l1, true) = n1 at D1 D2 D3 hi h2
  obtain ⟨n1a, n1b⟩ := n1
  dsimp only at D1 D2 D3 hi
  change Hid (∀ W hW, Calls _ _ _ W fun e w' => e = .returned (.bool (Lib.hasPrefix n1a inL)) ∧ Rd w' (w.heap.size + 1) (Lib.trimPrefix n1a inL) n1b ∧ _) at D2
  rw [hi] at D2
  have h3a : Lib.trimPrefix n1a inL = n1a := by unfold Lib.trimPrefix; rw [hi]; rfl
  rw [h3a] at D2
  change Hid (∀ W hW, Calls _ _ _ W fun e w' => e = _ ∧ Rd w' (w.heap.size + 1) (rNeed outL (n1a, n1b)).1 (rNeed outL (n1a, n1b)).2 ∧ _) at D3
  rw [h2] at D3
  dsimp only at D3
  clear h2 h3a hi hm hp hH
  generalize rNeed [64] (l2, false) = S2 at C3 C4 hq
  change Hid (∀ W hW, Calls _ _ _ W fun e w' => e = _ ∧ Rd w' (w.heap.size + 1) S2.1 S2.2 ∧ _) at C3
  change Hid (∀ W hW, Calls _ _ _ W fun e w' => e = _ ∧ Rd w' (w.heap.size + 1) (rNum S2).1 (rNum S2).2 ∧ _) at C4
  generalize rNum S2 = S3 at C4 hq
  generalize rNumV S2.1 = g at C4 hq
  obtain ⟨l3, k3⟩ := S3
  dsimp only at hq
  have HQ := Lib.hid hq
  clear hq
  have T0 := Lib.hid (St.start w s)
  go_enter Tryd.func22, Tryd.ntmps22
  go_wp2_with fail
  refine (C1.out _ T0.out.rd).mono ?_
  rintro e w1 ⟨rfl, hR, hO⟩
  have T1 := Lib.hid (T0.out.step hR hO)
  clear hR hO T0 C1
  go_wp2_with fail
  refine (D1.out _ T1.out.rd).mono ?_
  rintro e w2 ⟨rfl, hR, hO⟩
  have hT := T1.out.step hR hO
  have v3 := hT.x.cell 3
  have fv3 := hT.x.fr 3
  simp at v3
  have hlt0 := hT.lt
  have T2 := Lib.hid (hT.put 3 (.int .i64 m))
  clear hR hO hT T1 D1
  go_wp2_with fail
  refine (way_any _ _).mono ?_
  rintro e w3 ⟨rfl, rfl⟩
  go_wp2_with fail
  refine (D2.out _ T2.out.rd).mono ?_
  rintro e w4 ⟨rfl, hR, hO⟩
  have hT := T2.out.step hR hO
  clear v3 fv3 hlt0
  have v3 := hT.x.cell 3
  have v4 := hT.x.cell 4
  have fv4 := hT.x.fr 4
  have hr1 := hT.rd.c1
  have hfr1 := hT.rd.fr 1
  simp at v3 v4
  have hlt0 := hT.lt
  have T3 := Lib.hid (hT.put 4 (.bool false))
  clear hR hO hT T2 D2
  go_wp2_with fail
  refine (way_any _ _).mono ?_
  rintro e w5 ⟨rfl, rfl⟩
  go_wp2_with fail
  refine (D3.out _ T3.out.rd).mono ?_
  rintro e w6 ⟨rfl, hR, hO⟩
  have hT := T3.out.step hR hO
  clear v3 v4 fv4 hlt0 hr1 hfr1
  have v3 := hT.x.cell 3
  have hr1 := hT.rd.c1
  have hfr1 := hT.rd.fr 1
  simp at v3
  have hlt0 := hT.lt
  have TK := Lib.hid (hT.ok false)
  clear hR hO hT T3 D3
  go_wp2_with fail
  refine (C3.out _ TK.out.rd).mono ?_
  rintro e u1 ⟨rfl, hR, hO⟩
  have U1 := Lib.hid (TK.out.step hR hO)
  clear hR hO TK C3
  go_wp2_with fail
  refine (C4.out _ U1.out.rd).mono ?_
  rintro e u2 ⟨rfl, hR, hO⟩
  have hU := U1.out.step hR hO
  clear hR hO U1 C4
  have x0 := hU.x.cell 0
  have x1 := hU.x.cell 1
  have x2 := hU.x.cell 2
  have x3 := hU.x.cell 3
  have x4 := hU.x.cell 4
  have x5 := hU.x.cell 5
  have fx5 := hU.x.fr 5
  have b0 := hU.res.cell 0
  have fb0 := hU.res.fr 0
  have b1 := hU.res.cell 1
  have fb1 := hU.res.fr 1
  have b2 := hU.res.cell 2
  have fb2 := hU.res.fr 2
  have b3 := hU.res.cell 3
  have fb3 := hU.res.fr 3
  have b4 := hU.res.cell 4
  have fb4 := hU.res.fr 4
  have b5 := hU.res.cell 5
  have fb5 := hU.res.fr 5
  simp at x0 x1 x2 x3 x4 x5 b0 b1 b2 b3 b4 b5
  have r0 := hU.rd.c0
  have r1 := hU.rd.c1
  have hlt := hU.lt
  have hbel := hU.bel
  have HU := Lib.hid (hU.put 5 (.int .i64 g))
  clear hU
  cases k3 with
  | false =>
    obtain rfl : q = (⟨0, 0, 0, 0, false, 0⟩, 10) := by rw [← HQ.out]; simp
    clear HQ HU
    go_wp2_with fail
    refine bodyPost_ret (v := .tuple #[.agg #[.int .i64 0, .int .i64 0, .int .i64 0, .int .i64 0, .bool false, .int .i64 0], .int .i64 10]) (by simp [results, Tryd.results22, go_sem, b0, b1, b2, b3, b4, b5]) rfl ⟨rfl, ?_⟩
    exact ((((((hbel.setCell (by simp; omega) _).setCell (Nat.le_refl _) _).setCell (Nat.le_refl _) _).setCell (Nat.le_refl _) _).setCell (Nat.le_refl _) _).setCell (Nat.le_refl _) _).setCell (Nat.le_refl _) _
  | true =>
    cases l3 with
    | cons x t =>
      obtain rfl : q = (⟨0, 0, 0, 0, false, 0⟩, 10) := by rw [← HQ.out]; simp
      clear HQ HU
      have hne : (x :: t).isEmpty = false := rfl
      generalize (x :: t) = l2 at r0 hne
      go_wp2_with fail
      refine bodyPost_ret (v := .tuple #[.agg #[.int .i64 0, .int .i64 0, .int .i64 0, .int .i64 0, .bool false, .int .i64 0], .int .i64 10]) (by simp [results, Tryd.results22, go_sem, b0, b1, b2, b3, b4, b5]) rfl ⟨rfl, ?_⟩
      exact ((((((hbel.setCell (by simp; omega) _).setCell (Nat.le_refl _) _).setCell (Nat.le_refl _) _).setCell (Nat.le_refl _) _).setCell (Nat.le_refl _) _).setCell (Nat.le_refl _) _).setCell (Nat.le_refl _) _
    | nil =>
      have hC := Lib.hid (fun W => checkItem_any 0 0 0 m false g W)
      go_wp2_with fail
      refine (hC.out _).mono ?_
      rintro e u3 ⟨rfl, hb3⟩
      have hU := HU.out.call hb3
      clear HU hb3 hC r0 r1 x0 x1 x2 x3 x4 x5 fx5 b0 fb0 b1 fb1 b2 fb2 b3 fb3 b4 fb4 b5 fb5 hbel
      have y0 := hU.x.cell 0
      have y1 := hU.x.cell 1
      have y2 := hU.x.cell 2
      have y3 := hU.x.cell 3
      have y4 := hU.x.cell 4
      have y5 := hU.x.cell 5
      have d0 := hU.res.cell 0
      have fd0 := hU.res.fr 0
      have d1 := hU.res.cell 1
      have fd1 := hU.res.fr 1
      have d2 := hU.res.cell 2
      have fd2 := hU.res.fr 2
      have d3 := hU.res.cell 3
      have fd3 := hU.res.fr 3
      have d4 := hU.res.cell 4
      have fd4 := hU.res.fr 4
      have d5 := hU.res.cell 5
      have fd5 := hU.res.fr 5
      simp at y0 y1 y2 y3 y4 y5 d0 d1 d2 d3 d4 d5
      have hbel := hU.bel
      clear hU
      by_cases hv : itemOk 0 0 0 m false g
      · obtain rfl : q = (⟨0, 0, 0, m, false, g⟩, 0) := by rw [← HQ.out]; simp [hv]
        have hz := ckItem_yes hv
        generalize ckItem 0 0 0 m false g = z at hz
        subst hz
        clear HQ hv
        go_wp2_with fail
        refine bodyPost_ret (v := .tuple #[.agg #[.int .i64 0, .int .i64 0, .int .i64 0, .int .i64 m, .bool false, .int .i64 g], .int .i64 0]) (by simp [results, Tryd.results22, go_sem, d0, d1, d2, d3, d4, d5]) rfl ⟨rfl, ?_⟩
        exact (((((hbel.setCell (Nat.le_refl _) _).setCell (Nat.le_refl _) _).setCell (Nat.le_refl _) _).setCell (Nat.le_refl _) _).setCell (Nat.le_refl _) _).setCell (Nat.le_refl _) _
      · obtain rfl : q = (⟨0, 0, 0, 0, false, 0⟩, 10) := by rw [← HQ.out]; simp [hv]
        have hz := ckItem_no hv
        generalize ckItem 0 0 0 m false g = z at hz
        subst hz
        clear HQ hv
        go_wp2_with fail
        refine bodyPost_ret (v := .tuple #[.agg #[.int .i64 0, .int .i64 0, .int .i64 0, .int .i64 0, .bool false, .int .i64 0], .int .i64 10]) (by simp [results, Tryd.results22, go_sem, d0, d1, d2, d3, d4, d5]) rfl ⟨rfl, ?_⟩
        exact (((((hbel.setCell (Nat.le_refl _) _).setCell (Nat.le_refl _) _).setCell (Nat.le_refl _) _).setCell (Nat.le_refl _) _).setCell (Nat.le_refl _) _).setCell (Nat.le_refl _) _

set_option maxHeartbeats 4000000 in
theorem parseItem_m_false_bad (s : ByteArray) (w : World) (m : Int) (l2 : List UInt8) (hs : s.size ≤ 1000000) (hp : Lib.hasPrefix s.data.toList [109] = true)
    (hm : rNumV (Lib.trimPrefix s.data.toList [109]) = m) (hi : Lib.hasPrefix (rNum (Lib.trimPrefix s.data.toList [109], true)).1 inL = false)
    (h2 : rNeed outL (rNum (Lib.trimPrefix s.data.toList [109], true)) = (l2, false)) :
    Calls Tryd.prog 22 #[.string s] w (ItemOut (pItemR s.data.toList) w) := by
  have hl : s.data.toList.length ≤ 1000000 := by rw [← Lib.size_eq]; exact hs
  have ht : (Lib.trimPrefix s.data.toList [109]).length ≤ 1000000 := by
    exact Nat.le_trans (trimPrefix_len _ _) hl
  have hH : rHeadS s.data.toList = (l2, false) := by
    unfold rHeadS; rw [hp, if_pos rfl]; unfold rMoveS; dsimp only; rw [hi, if_neg (by simp), h2, hm]; simp
  have hV0 : rHeadV s.data.toList = ⟨0, 0, 0, m, false, 0⟩ := by unfold rHeadV rMoveI; rw [hp, if_pos rfl, hm, hi]
  have hh := rHead_len s.data.toList
  have hn := rNeed_len [64] (rHeadS s.data.toList)
  have C1 := Lib.hid (fun W hW => word_any (w.heap.size + 1) s.data.toList true ⟨#[109]⟩ W hW)
  have D1 := Lib.hid (fun W hW => number_any (w.heap.size + 1) (Lib.trimPrefix s.data.toList [109]) true W ht hW)
  have D2 := Lib.hid (fun W hW => word_any (w.heap.size + 1) (rNum (Lib.trimPrefix s.data.toList [109], true)).1 (rNum (Lib.trimPrefix s.data.toList [109], true)).2 ⟨(wayL true).toArray⟩ W hW)
  have D3 := Lib.hid (fun W hW => need_any (w.heap.size + 1) (rNum (Lib.trimPrefix s.data.toList [109], true)).1 (rNum (Lib.trimPrefix s.data.toList [109], true)).2 ⟨(wayL false).toArray⟩ W hW)
  have C3 := Lib.hid (fun W hW => need_any (w.heap.size + 1) (rHeadS s.data.toList).1 (rHeadS s.data.toList).2 ⟨#[64]⟩ W hW)
  have C4 := Lib.hid (fun W hW => number_any (w.heap.size + 1) (rNeed [64] (rHeadS s.data.toList)).1 (rNeed [64] (rHeadS s.data.toList)).2 W (by omega) hW)
  have hP : pItem s.data.toList = if (rItemS s.data.toList).2 = true ∧ (rItemS s.data.toList).1 = [] ∧ itemOk (rItemV s.data.toList).a (rItemV s.data.toList).b (rItemV s.data.toList).c (rItemV s.data.toList).m (rItemV s.data.toList).i (rItemV s.data.toList).g then some (rItemV s.data.toList) else none := rfl
  have hV : rItemV s.data.toList = ⟨0, 0, 0, m, false, rNumV (rNeed [64] (rHeadS s.data.toList)).1⟩ := by unfold rItemV; rw [hV0]
  have hS : rItemS s.data.toList = rNum (rNeed [64] (rHeadS s.data.toList)) := rfl
  generalize hq : pItemR s.data.toList = q
  unfold pItemR at hq
  rw [hP, hS, hV] at hq
  clear hP hS hV hV0 hl hh hn ht
  rw [hH] at C3 C4 hq
  dsimp only at C3 C4
  change Hid (∀ W hW, Calls _ _ _ W fun e w' => e = .returned (.bool (Lib.hasPrefix s.data.toList [109])) ∧ Rd w' (w.heap.size + 1) (Lib.trimPrefix s.data.toList [109]) true ∧ _) at C1
  rw [hp] at C1
  generalize Lib.trimPrefix s.data.toList [109] = l1 at C1 D1 D2 D3 hm hi h2
  change Hid (∀ W hW, Calls _ _ _ W fun e w' => e = _ ∧ Rd w' (w.heap.size + 1) (rNum (l1, true)).1 (rNum (l1, true)).2 ∧ _) at D1
  rw [hm] at D1
  generalize rNum (l1, true) = n1 at D1 D2 D3 hi h2
  obtain ⟨n1a, n1b⟩ := n1
  dsimp only at D1 D2 D3 hi
  change Hid (∀ W hW, Calls _ _ _ W fun e w' => e = .returned (.bool (Lib.hasPrefix n1a inL)) ∧ Rd w' (w.heap.size + 1) (Lib.trimPrefix n1a inL) n1b ∧ _) at D2
  rw [hi] at D2
  have h3a : Lib.trimPrefix n1a inL = n1a := by unfold Lib.trimPrefix; rw [hi]; rfl
  rw [h3a] at D2
  change Hid (∀ W hW, Calls _ _ _ W fun e w' => e = _ ∧ Rd w' (w.heap.size + 1) (rNeed outL (n1a, n1b)).1 (rNeed outL (n1a, n1b)).2 ∧ _) at D3
  rw [h2] at D3
  dsimp only at D3
  clear h2 h3a hi hm hp hH
  generalize rNeed [64] (l2, false) = S2 at C3 C4 hq
  change Hid (∀ W hW, Calls _ _ _ W fun e w' => e = _ ∧ Rd w' (w.heap.size + 1) S2.1 S2.2 ∧ _) at C3
  change Hid (∀ W hW, Calls _ _ _ W fun e w' => e = _ ∧ Rd w' (w.heap.size + 1) (rNum S2).1 (rNum S2).2 ∧ _) at C4
  generalize rNum S2 = S3 at C4 hq
  generalize rNumV S2.1 = g at C4 hq
  obtain ⟨l3, k3⟩ := S3
  dsimp only at hq
  have HQ := Lib.hid hq
  clear hq
  have T0 := Lib.hid (St.start w s)
  go_enter Tryd.func22, Tryd.ntmps22
  go_wp2_with fail
  refine (C1.out _ T0.out.rd).mono ?_
  rintro e w1 ⟨rfl, hR, hO⟩
  have T1 := Lib.hid (T0.out.step hR hO)
  clear hR hO T0 C1
  go_wp2_with fail
  refine (D1.out _ T1.out.rd).mono ?_
  rintro e w2 ⟨rfl, hR, hO⟩
  have hT := T1.out.step hR hO
  have v3 := hT.x.cell 3
  have fv3 := hT.x.fr 3
  simp at v3
  have hlt0 := hT.lt
  have T2 := Lib.hid (hT.put 3 (.int .i64 m))
  clear hR hO hT T1 D1
  go_wp2_with fail
  refine (way_any _ _).mono ?_
  rintro e w3 ⟨rfl, rfl⟩
  go_wp2_with fail
  refine (D2.out _ T2.out.rd).mono ?_
  rintro e w4 ⟨rfl, hR, hO⟩
  have hT := T2.out.step hR hO
  clear v3 fv3 hlt0
  have v3 := hT.x.cell 3
  have v4 := hT.x.cell 4
  have fv4 := hT.x.fr 4
  have hr1 := hT.rd.c1
  have hfr1 := hT.rd.fr 1
  simp at v3 v4
  have hlt0 := hT.lt
  have T3 := Lib.hid (hT.put 4 (.bool false))
  clear hR hO hT T2 D2
  go_wp2_with fail
  refine (way_any _ _).mono ?_
  rintro e w5 ⟨rfl, rfl⟩
  go_wp2_with fail
  refine (D3.out _ T3.out.rd).mono ?_
  rintro e w6 ⟨rfl, hR, hO⟩
  have hT := T3.out.step hR hO
  clear v3 v4 fv4 hlt0 hr1 hfr1
  have v3 := hT.x.cell 3
  have hr1 := hT.rd.c1
  have hfr1 := hT.rd.fr 1
  simp at v3
  have hlt0 := hT.lt
  have TK := Lib.hid (hT.ok false)
  clear hR hO hT T3 D3
  go_wp2_with fail
  refine (C3.out _ TK.out.rd).mono ?_
  rintro e u1 ⟨rfl, hR, hO⟩
  have U1 := Lib.hid (TK.out.step hR hO)
  clear hR hO TK C3
  go_wp2_with fail
  refine (C4.out _ U1.out.rd).mono ?_
  rintro e u2 ⟨rfl, hR, hO⟩
  have hU := U1.out.step hR hO
  clear hR hO U1 C4
  have x0 := hU.x.cell 0
  have x1 := hU.x.cell 1
  have x2 := hU.x.cell 2
  have x3 := hU.x.cell 3
  have x4 := hU.x.cell 4
  have x5 := hU.x.cell 5
  have fx5 := hU.x.fr 5
  have b0 := hU.res.cell 0
  have fb0 := hU.res.fr 0
  have b1 := hU.res.cell 1
  have fb1 := hU.res.fr 1
  have b2 := hU.res.cell 2
  have fb2 := hU.res.fr 2
  have b3 := hU.res.cell 3
  have fb3 := hU.res.fr 3
  have b4 := hU.res.cell 4
  have fb4 := hU.res.fr 4
  have b5 := hU.res.cell 5
  have fb5 := hU.res.fr 5
  simp at x0 x1 x2 x3 x4 x5 b0 b1 b2 b3 b4 b5
  have r0 := hU.rd.c0
  have r1 := hU.rd.c1
  have hlt := hU.lt
  have hbel := hU.bel
  have HU := Lib.hid (hU.put 5 (.int .i64 g))
  clear hU
  cases k3 with
  | false =>
    obtain rfl : q = (⟨0, 0, 0, 0, false, 0⟩, 10) := by rw [← HQ.out]; simp
    clear HQ HU
    go_wp2_with fail
    refine bodyPost_ret (v := .tuple #[.agg #[.int .i64 0, .int .i64 0, .int .i64 0, .int .i64 0, .bool false, .int .i64 0], .int .i64 10]) (by simp [results, Tryd.results22, go_sem, b0, b1, b2, b3, b4, b5]) rfl ⟨rfl, ?_⟩
    exact ((((((hbel.setCell (by simp; omega) _).setCell (Nat.le_refl _) _).setCell (Nat.le_refl _) _).setCell (Nat.le_refl _) _).setCell (Nat.le_refl _) _).setCell (Nat.le_refl _) _).setCell (Nat.le_refl _) _
  | true =>
    cases l3 with
    | cons x t =>
      obtain rfl : q = (⟨0, 0, 0, 0, false, 0⟩, 10) := by rw [← HQ.out]; simp
      clear HQ HU
      have hne : (x :: t).isEmpty = false := rfl
      generalize (x :: t) = l2 at r0 hne
      go_wp2_with fail
      refine bodyPost_ret (v := .tuple #[.agg #[.int .i64 0, .int .i64 0, .int .i64 0, .int .i64 0, .bool false, .int .i64 0], .int .i64 10]) (by simp [results, Tryd.results22, go_sem, b0, b1, b2, b3, b4, b5]) rfl ⟨rfl, ?_⟩
      exact ((((((hbel.setCell (by simp; omega) _).setCell (Nat.le_refl _) _).setCell (Nat.le_refl _) _).setCell (Nat.le_refl _) _).setCell (Nat.le_refl _) _).setCell (Nat.le_refl _) _).setCell (Nat.le_refl _) _
    | nil =>
      have hC := Lib.hid (fun W => checkItem_any 0 0 0 m false g W)
      go_wp2_with fail
      refine (hC.out _).mono ?_
      rintro e u3 ⟨rfl, hb3⟩
      have hU := HU.out.call hb3
      clear HU hb3 hC r0 r1 x0 x1 x2 x3 x4 x5 fx5 b0 fb0 b1 fb1 b2 fb2 b3 fb3 b4 fb4 b5 fb5 hbel
      have y0 := hU.x.cell 0
      have y1 := hU.x.cell 1
      have y2 := hU.x.cell 2
      have y3 := hU.x.cell 3
      have y4 := hU.x.cell 4
      have y5 := hU.x.cell 5
      have d0 := hU.res.cell 0
      have fd0 := hU.res.fr 0
      have d1 := hU.res.cell 1
      have fd1 := hU.res.fr 1
      have d2 := hU.res.cell 2
      have fd2 := hU.res.fr 2
      have d3 := hU.res.cell 3
      have fd3 := hU.res.fr 3
      have d4 := hU.res.cell 4
      have fd4 := hU.res.fr 4
      have d5 := hU.res.cell 5
      have fd5 := hU.res.fr 5
      simp at y0 y1 y2 y3 y4 y5 d0 d1 d2 d3 d4 d5
      have hbel := hU.bel
      clear hU
      by_cases hv : itemOk 0 0 0 m false g
      · obtain rfl : q = (⟨0, 0, 0, m, false, g⟩, 0) := by rw [← HQ.out]; simp [hv]
        have hz := ckItem_yes hv
        generalize ckItem 0 0 0 m false g = z at hz
        subst hz
        clear HQ hv
        go_wp2_with fail
        refine bodyPost_ret (v := .tuple #[.agg #[.int .i64 0, .int .i64 0, .int .i64 0, .int .i64 m, .bool false, .int .i64 g], .int .i64 0]) (by simp [results, Tryd.results22, go_sem, d0, d1, d2, d3, d4, d5]) rfl ⟨rfl, ?_⟩
        exact (((((hbel.setCell (Nat.le_refl _) _).setCell (Nat.le_refl _) _).setCell (Nat.le_refl _) _).setCell (Nat.le_refl _) _).setCell (Nat.le_refl _) _).setCell (Nat.le_refl _) _
      · obtain rfl : q = (⟨0, 0, 0, 0, false, 0⟩, 10) := by rw [← HQ.out]; simp [hv]
        have hz := ckItem_no hv
        generalize ckItem 0 0 0 m false g = z at hz
        subst hz
        clear HQ hv
        go_wp2_with fail
        refine bodyPost_ret (v := .tuple #[.agg #[.int .i64 0, .int .i64 0, .int .i64 0, .int .i64 0, .bool false, .int .i64 0], .int .i64 10]) (by simp [results, Tryd.results22, go_sem, d0, d1, d2, d3, d4, d5]) rfl ⟨rfl, ?_⟩
        exact (((((hbel.setCell (Nat.le_refl _) _).setCell (Nat.le_refl _) _).setCell (Nat.le_refl _) _).setCell (Nat.le_refl _) _).setCell (Nat.le_refl _) _).setCell (Nat.le_refl _) _

end Go.Proofs.YtmbnhbocablgeaaDoor
