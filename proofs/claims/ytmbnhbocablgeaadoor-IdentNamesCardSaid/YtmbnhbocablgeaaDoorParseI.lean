/- What ParseItem of ident returns: the item whose text it is, or the error; memory that lay stays. Condition: the text is no longer than 1,000,000 bytes. -/
import Derived.Test.YtmbnhbocablgeaaDoorParseE
import Derived.Test.YtmbnhbocablgeaaDoorItemText
namespace Go.Proofs.YtmbnhbocablgeaaDoor
open Go.RowKit

def pItemR (l : List UInt8) : Item6 × Int := match pItem l with | some x => (x, 0) | none => (⟨0, 0, 0, 0, false, 0⟩, 10)
theorem pItemR_some {l : List UInt8} {x : Item6} (h : pItem l = some x) : pItemR l = (x, 0) := by unfold pItemR; rw [h]
theorem pItemR_none {l : List UInt8} (h : pItem l = none) : pItemR l = (⟨0, 0, 0, 0, false, 0⟩, 10) := by unfold pItemR; rw [h]
def ItemOut (x : Item6 × Int) (w : World) (e : Ending) (w' : World) : Prop :=
  e = .returned (.tuple #[.agg #[.int .i64 x.1.a, .int .i64 x.1.b, .int .i64 x.1.c, .int .i64 x.1.m, .bool x.1.i, .int .i64 x.1.g], .int .i64 x.2]) ∧ Below w.heap.size w w'

/-- What lies while an item is read: the result's block, the reader, the item's block. -/
structure St (w w1 : World) (l : List UInt8) (k : Bool) (xs : Array Value) : Prop where
  rd : Rd w1 (w.heap.size + 1) l k
  res : Whole w1 w.heap.size 33 #[.int .i64 0, .int .i64 0, .int .i64 0, .int .i64 0, .bool false, .int .i64 0]
  x : Whole w1 (w.heap.size + 1 + 1) 33 xs
  bel : Below w.heap.size w w1
section
variable {w w1 w2 : World} {l l' : List UInt8} {k k' : Bool} {xs : Array Value}
theorem St.step (h : St w w1 l k xs) (hr : Rd w2 (w.heap.size + 1) l' k') (ho : Only (w.heap.size + 1) w1 w2) : St w w2 l' k' xs :=
  ⟨hr, h.res.only ho (by omega), h.x.only ho (by omega), ho.below h.bel (by omega) h.bel.size⟩
theorem St.put (h : St w w1 l k xs) (j : Nat) (v : Value) : St w (w1.setCell ⟨w.heap.size + 1 + 1, j, none⟩ v) l k (xs.setIfInBounds j v) :=
  ⟨h.rd.far (by simp) _, h.res.far (by simp; omega) _, h.x.put j v, h.bel.setCell (by simp; omega) _⟩
theorem St.ok (h : St w w1 l k xs) (b : Bool) : St w (w1.setCell ⟨w.heap.size + 1, 1, none⟩ (.bool b)) l b xs :=
  ⟨h.rd.set1 b, h.res.far (by simp) _, h.x.far (by simp) _, h.bel.setCell (by simp) _⟩
theorem St.lt (h : St w w1 l k xs) : w.heap.size + 1 + 1 < w1.heap.size := h.x.lt
theorem St.call (h : St w w1 l k xs) (hb : Below w1.heap.size w1 w2) : St w w2 l k xs :=
  ⟨h.rd.below hb h.rd.lt, h.res.below hb h.res.lt, h.x.below hb h.x.lt, h.bel.trans (hb.mono h.bel.size)⟩
theorem St.start (w : World) (s : ByteArray) : St w (((w.alloc (.cells #[.int .i64 0, .int .i64 0, .int .i64 0, .int .i64 0, .bool false, .int .i64 0] 33)).alloc (.cells #[.string s, .bool true] 68)).alloc (.cells #[.int .i64 0, .int .i64 0, .int .i64 0, .int .i64 0, .bool false, .int .i64 0] 33)) s.data.toList true #[.int .i64 0, .int .i64 0, .int .i64 0, .int .i64 0, .bool false, .int .i64 0] := by
  refine ⟨(Rd.newS w s true _).alloc _, ((Whole.new w _ _).alloc _).alloc _, ?_, by go_grown⟩
  have h := Whole.new ((w.alloc (.cells #[.int .i64 0, .int .i64 0, .int .i64 0, .int .i64 0, .bool false, .int .i64 0] 33)).alloc (.cells #[.string s, .bool true] 68)) 33 #[.int .i64 0, .int .i64 0, .int .i64 0, .int .i64 0, .bool false, .int .i64 0]
  rw [World.size_alloc, World.size_alloc] at h
  exact h
end

theorem rHead_len (l : List UInt8) : (rHeadS l).1.length ≤ l.length := by
  unfold rHeadS
  have ht : ∀ l p : List UInt8, (Lib.trimPrefix l p).length ≤ l.length := fun l p => by
    unfold Lib.trimPrefix; split
    · rw [List.length_drop]; omega
    · exact Nat.le_refl _
  split
  · refine Nat.le_trans ?_ (ht l [109])
    generalize Lib.trimPrefix l [109] = t
    unfold rMoveS
    have h1 := rNum_len (t, true)
    dsimp only at h1 ⊢
    split
    · exact Nat.le_trans (ht _ _) h1
    · exact Nat.le_trans (rNeed_len _ _) h1
  · have h1 := rNum_len (l, true)
    have h2 := rNeed_len [47] (rNum (l, true))
    have h3 := rNum_len (rNeed [47] (rNum (l, true)))
    have h4 := rNeed_len [47] (rNum (rNeed [47] (rNum (l, true))))
    unfold rEffS
    dsimp only at h1 h2 h3 h4 ⊢
    generalize rNeed [47] (rNum (rNeed [47] (rNum (l, true)))) = r at h4 ⊢
    obtain ⟨r1, r2⟩ := r
    cases r1 with
    | nil => simp
    | cons x t => dsimp only at h4 ⊢; simp at h4; omega

set_option maxHeartbeats 4000000 in
theorem parseItem_eff (s : ByteArray) (w : World) (hs : s.size ≤ 1000000) (hp : Lib.hasPrefix s.data.toList [109] = false) :
    Calls Tryd.prog 22 #[.string s] w (ItemOut (pItemR s.data.toList) w) := by
  have hl : s.data.toList.length ≤ 1000000 := by rw [← Lib.size_eq]; exact hs
  have hh := rHead_len s.data.toList
  have hn := rNeed_len [64] (rHeadS s.data.toList)
  have C1 := Lib.hid (fun W hW => word_any (w.heap.size + 1) s.data.toList true ⟨#[109]⟩ W hW)
  have C2 := Lib.hid (fun W hW => effectR_any (w.heap.size + 1) s.data.toList true W hl hW)
  have C3 := Lib.hid (fun W hW => need_any (w.heap.size + 1) (rHeadS s.data.toList).1 (rHeadS s.data.toList).2 ⟨#[64]⟩ W hW)
  have C4 := Lib.hid (fun W hW => number_any (w.heap.size + 1) (rNeed [64] (rHeadS s.data.toList)).1 (rNeed [64] (rHeadS s.data.toList)).2 W (by omega) hW)
  have hP : pItem s.data.toList = if (rItemS s.data.toList).2 = true ∧ (rItemS s.data.toList).1 = [] ∧ itemOk (rItemV s.data.toList).a (rItemV s.data.toList).b (rItemV s.data.toList).c (rItemV s.data.toList).m (rItemV s.data.toList).i (rItemV s.data.toList).g then some (rItemV s.data.toList) else none := rfl
  have hV : rItemV s.data.toList = ⟨(rEffV (s.data.toList, true)).a, (rEffV (s.data.toList, true)).b, (rEffV (s.data.toList, true)).c, 0, false, rNumV (rNeed [64] (rHeadS s.data.toList)).1⟩ := by
    have : rHeadV s.data.toList = ⟨(rEffV (s.data.toList, true)).a, (rEffV (s.data.toList, true)).b, (rEffV (s.data.toList, true)).c, 0, false, 0⟩ := by unfold rHeadV; rw [hp, if_neg (by simp)]
    unfold rItemV; rw [this]
  have hH : rHeadS s.data.toList = rEffS (s.data.toList, true) := by unfold rHeadS; rw [hp, if_neg (by simp)]
  have hS : rItemS s.data.toList = rNum (rNeed [64] (rHeadS s.data.toList)) := rfl
  have ht : Lib.trimPrefix s.data.toList [109] = s.data.toList := by unfold Lib.trimPrefix; rw [hp]; rfl
  generalize hq : pItemR s.data.toList = q
  unfold pItemR at hq
  rw [hP, hS, hV] at hq
  clear hP hS hV hl hh hn
  change Hid (∀ W hW, Calls _ _ _ W fun e w' => e = _ ∧ Rd w' (w.heap.size + 1) (Lib.trimPrefix s.data.toList [109]) true ∧ _) at C1
  rw [hH] at C3 C4 hq
  have C1' : Hid (∀ W, Rd W (w.heap.size + 1) s.data.toList true → Calls Tryd.prog 44 #[.pointer (some ⟨w.heap.size + 1, 0, none⟩), .string ⟨#[109]⟩] W fun e w' => e = .returned (.bool false) ∧ Rd w' (w.heap.size + 1) s.data.toList true ∧ Only (w.heap.size + 1) W w') := by
    intro W hW
    have := C1.out W hW
    rw [ht] at this
    change Calls _ _ _ W fun e w' => e = .returned (.bool (Lib.hasPrefix s.data.toList [109])) ∧ _ at this
    rw [hp] at this
    exact this
  clear C1 ht hp hH
  generalize rEffS (s.data.toList, true) = S1 at C2 C3 C4 hq
  generalize rEffV (s.data.toList, true) = V at C2 hq
  obtain ⟨a, b, c⟩ := V
  change Hid (∀ W hW, Calls _ _ _ W fun e w' => e = _ ∧ Rd w' (w.heap.size + 1) (rNeed [64] S1).1 (rNeed [64] S1).2 ∧ _) at C3
  generalize rNeed [64] S1 = S2 at C3 C4 hq
  change Hid (∀ W hW, Calls _ _ _ W fun e w' => e = _ ∧ Rd w' (w.heap.size + 1) (rNum S2).1 (rNum S2).2 ∧ _) at C4
  generalize rNum S2 = S3 at C4 hq
  generalize rNumV S2.1 = g at C4 hq
  obtain ⟨l3, k3⟩ := S3
  dsimp only at hq
  have HQ := Lib.hid hq
  clear hq
  have T0 := Lib.hid (St.start w s)
  go_enter Tryd.func22, Tryd.ntmps22
  go_wp2_with fail
  refine (C1'.out _ T0.out.rd).mono ?_
  rintro e w1 ⟨rfl, hR, hO⟩
  have T1 := Lib.hid (T0.out.step hR hO)
  clear hR hO T0 C1'
  go_wp2_with fail
  refine (C2.out _ T1.out.rd).mono ?_
  rintro e w2 ⟨rfl, hR, hO⟩
  have hT := T1.out.step hR hO
  have v0 := hT.x.cell 0
  have v1 := hT.x.cell 1
  have v2 := hT.x.cell 2
  have fv0 := hT.x.fr 0
  have fv1 := hT.x.fr 1
  have fv2 := hT.x.fr 2
  simp at v0 v1 v2
  have TK := Lib.hid (((hT.put 0 (.int .i64 a)).put 1 (.int .i64 b)).put 2 (.int .i64 c))
  have hlt0 := hT.lt
  clear hR hO hT T1 C2
  go_wp2_with fail
  refine (C3.out _ TK.out.rd).mono ?_
  rintro e u1 ⟨rfl, hR, hO⟩
  have U1 := Lib.hid (TK.out.step hR hO)
  clear hR hO TK C3
  go_wp2_with fail
  refine (C4.out _ U1.out.rd).mono ?_
  rintro e u2 ⟨rfl, hR, hO⟩
  have hU := U1.out.step hR hO
  clear hR hO U1 C4
  have x0 := hU.x.cell 0
  have x1 := hU.x.cell 1
  have x2 := hU.x.cell 2
  have x3 := hU.x.cell 3
  have x4 := hU.x.cell 4
  have x5 := hU.x.cell 5
  have fx5 := hU.x.fr 5
  have b0 := hU.res.cell 0
  have fb0 := hU.res.fr 0
  have b1 := hU.res.cell 1
  have fb1 := hU.res.fr 1
  have b2 := hU.res.cell 2
  have fb2 := hU.res.fr 2
  have b3 := hU.res.cell 3
  have fb3 := hU.res.fr 3
  have b4 := hU.res.cell 4
  have fb4 := hU.res.fr 4
  have b5 := hU.res.cell 5
  have fb5 := hU.res.fr 5
  simp at x0 x1 x2 x3 x4 x5 b0 b1 b2 b3 b4 b5
  have r0 := hU.rd.c0
  have r1 := hU.rd.c1
  have hlt := hU.lt
  have hbel := hU.bel
  have HU := Lib.hid (hU.put 5 (.int .i64 g))
  clear hU
  cases k3 with
  | false =>
    obtain rfl : q = (⟨0, 0, 0, 0, false, 0⟩, 10) := by rw [← HQ.out]; simp
    clear HQ HU
    go_wp2_with fail
    refine bodyPost_ret (v := .tuple #[.agg #[.int .i64 0, .int .i64 0, .int .i64 0, .int .i64 0, .bool false, .int .i64 0], .int .i64 10]) (by simp [results, Tryd.results22, go_sem, b0, b1, b2, b3, b4, b5]) rfl ⟨rfl, ?_⟩
    exact ((((((hbel.setCell (by simp; omega) _).setCell (Nat.le_refl _) _).setCell (Nat.le_refl _) _).setCell (Nat.le_refl _) _).setCell (Nat.le_refl _) _).setCell (Nat.le_refl _) _).setCell (Nat.le_refl _) _
  | true =>
    cases l3 with
    | cons x t =>
      obtain rfl : q = (⟨0, 0, 0, 0, false, 0⟩, 10) := by rw [← HQ.out]; simp
      clear HQ HU
      have hne : (x :: t).isEmpty = false := rfl
      generalize (x :: t) = l2 at r0 hne
      go_wp2_with fail
      refine bodyPost_ret (v := .tuple #[.agg #[.int .i64 0, .int .i64 0, .int .i64 0, .int .i64 0, .bool false, .int .i64 0], .int .i64 10]) (by simp [results, Tryd.results22, go_sem, b0, b1, b2, b3, b4, b5]) rfl ⟨rfl, ?_⟩
      exact ((((((hbel.setCell (by simp; omega) _).setCell (Nat.le_refl _) _).setCell (Nat.le_refl _) _).setCell (Nat.le_refl _) _).setCell (Nat.le_refl _) _).setCell (Nat.le_refl _) _).setCell (Nat.le_refl _) _
    | nil =>
      have hC := Lib.hid (fun W => checkItem_any a b c 0 false g W)
      go_wp2_with fail
      refine (hC.out _).mono ?_
      rintro e u3 ⟨rfl, hb3⟩
      have hU := HU.out.call hb3
      clear HU hb3 hC r0 r1 x0 x1 x2 x3 x4 x5 fx5 b0 fb0 b1 fb1 b2 fb2 b3 fb3 b4 fb4 b5 fb5 hbel
      have y0 := hU.x.cell 0
      have y1 := hU.x.cell 1
      have y2 := hU.x.cell 2
      have y3 := hU.x.cell 3
      have y4 := hU.x.cell 4
      have y5 := hU.x.cell 5
      have d0 := hU.res.cell 0
      have fd0 := hU.res.fr 0
      have d1 := hU.res.cell 1
      have fd1 := hU.res.fr 1
      have d2 := hU.res.cell 2
      have fd2 := hU.res.fr 2
      have d3 := hU.res.cell 3
      have fd3 := hU.res.fr 3
      have d4 := hU.res.cell 4
      have fd4 := hU.res.fr 4
      have d5 := hU.res.cell 5
      have fd5 := hU.res.fr 5
      simp at y0 y1 y2 y3 y4 y5 d0 d1 d2 d3 d4 d5
      have hbel := hU.bel
      clear hU
      by_cases hv : itemOk a b c 0 false g
      · obtain rfl : q = (⟨a, b, c, 0, false, g⟩, 0) := by rw [← HQ.out]; simp [hv]
        have hz := ckItem_yes hv
        generalize ckItem a b c 0 false g = z at hz
        subst hz
        clear HQ hv
        go_wp2_with fail
        refine bodyPost_ret (v := .tuple #[.agg #[.int .i64 a, .int .i64 b, .int .i64 c, .int .i64 0, .bool false, .int .i64 g], .int .i64 0]) (by simp [results, Tryd.results22, go_sem, d0, d1, d2, d3, d4, d5]) rfl ⟨rfl, ?_⟩
        exact (((((hbel.setCell (Nat.le_refl _) _).setCell (Nat.le_refl _) _).setCell (Nat.le_refl _) _).setCell (Nat.le_refl _) _).setCell (Nat.le_refl _) _).setCell (Nat.le_refl _) _
      · obtain rfl : q = (⟨0, 0, 0, 0, false, 0⟩, 10) := by rw [← HQ.out]; simp [hv]
        have hz := ckItem_no hv
        generalize ckItem a b c 0 false g = z at hz
        subst hz
        clear HQ hv
        go_wp2_with fail
        refine bodyPost_ret (v := .tuple #[.agg #[.int .i64 0, .int .i64 0, .int .i64 0, .int .i64 0, .bool false, .int .i64 0], .int .i64 10]) (by simp [results, Tryd.results22, go_sem, d0, d1, d2, d3, d4, d5]) rfl ⟨rfl, ?_⟩
        exact (((((hbel.setCell (Nat.le_refl _) _).setCell (Nat.le_refl _) _).setCell (Nat.le_refl _) _).setCell (Nat.le_refl _) _).setCell (Nat.le_refl _) _).setCell (Nat.le_refl _) _
end Go.Proofs.YtmbnhbocablgeaaDoor
