/- What ParseEffect of ident returns: the effect whose text it is, or the error; memory that lay stays. Condition: the text is no longer than 1,000,000 bytes. -/
import Derived.Test.YtmbnhbocablgeaaDoorEffectR
namespace Go.Proofs.YtmbnhbocablgeaaDoor
open Go.RowKit

/-- What a text is read as, with the error. -/
def pEffR (l : List UInt8) : Eff3 × Int := match pEff l with | some x => (x, 0) | none => (⟨0, 0, 0⟩, 10)
theorem pEffR_some {l : List UInt8} {x : Eff3} (h : pEff l = some x) : pEffR l = (x, 0) := by unfold pEffR; rw [h]
theorem pEffR_none {l : List UInt8} (h : pEff l = none) : pEffR l = (⟨0, 0, 0⟩, 10) := by unfold pEffR; rw [h]

def EffOut (x : Eff3 × Int) (w : World) (e : Ending) (w' : World) : Prop :=
  e = .returned (.tuple #[.agg #[.int .i64 x.1.a, .int .i64 x.1.b, .int .i64 x.1.c], .int .i64 x.2]) ∧ Below w.heap.size w w'

theorem Only.toBelow {w W w' : World} {g : Nat} (hb : Below w.heap.size w W) (ho : Only g W w') (hg : w.heap.size ≤ g) : Below w.heap.size w w' := ho.below hb hg hb.size

theorem Rd.newS (w : World) (s : ByteArray) (k : Bool) (o : Obj) : Rd ((w.alloc o).alloc (.cells #[.string s, .bool k] 68)) (w.heap.size + 1) s.data.toList k := by
  have h := heap_alloc_new (w.alloc o) (.cells #[.string s, .bool k] 68)
  rw [World.size_alloc] at h
  exact h

set_option maxHeartbeats 2000000 in
theorem parseEffect_any (s : ByteArray) (w : World) (hs : s.size ≤ 1000000) :
    Calls Tryd.prog 16 #[.string s] w (EffOut (pEffR s.data.toList) w) := by
  have hl : s.data.toList.length ≤ 1000000 := by rw [← Lib.size_eq]; exact hs
  have hE := Lib.hid (fun W hW => effectR_any (w.heap.size + 1) s.data.toList true W hl hW)
  have hP : pEff s.data.toList = if (rEffS (s.data.toList, true)).2 = true ∧ (rEffS (s.data.toList, true)).1 = [] ∧ effOk (rEffV (s.data.toList, true)).a (rEffV (s.data.toList, true)).b (rEffV (s.data.toList, true)).c then some (rEffV (s.data.toList, true)) else none := rfl
  have R0 := Lib.hid (Rd.newS w s true (.cells #[.int .i64 0, .int .i64 0, .int .i64 0] 23))
  generalize hq : pEffR s.data.toList = q
  unfold pEffR at hq
  rw [hP] at hq
  clear hP hl
  generalize rEffS (s.data.toList, true) = S at hE hq
  generalize rEffV (s.data.toList, true) = V at hE hq
  obtain ⟨l', k'⟩ := S
  obtain ⟨a, b, c⟩ := V
  dsimp only at hq
  have HQ := Lib.hid hq
  clear hq
  have B0 := (Whole.new w 23 #[.int .i64 0, .int .i64 0, .int .i64 0]).alloc (.cells #[.string s, .bool true] 68)
  have hb0 : Below w.heap.size w ((w.alloc (.cells #[.int .i64 0, .int .i64 0, .int .i64 0] 23)).alloc (.cells #[.string s, .bool true] 68)) := by go_grown
  go_enter Tryd.func16, Tryd.ntmps16
  go_wp2_with fail
  refine (hE.out _ R0.out).mono ?_
  rintro e w1 ⟨rfl, hR1, hO1⟩
  have hb1 := Only.toBelow hb0 hO1 (by omega)
  have B1 := B0.only hO1 (by omega)
  have c0 := hR1.c0
  have c1 := hR1.c1
  have b0 := B1.cell 0
  have b1 := B1.cell 1
  have b2 := B1.cell 2
  have fb0 := B1.fr 0
  have fb1 := B1.fr 1
  have fb2 := B1.fr 2
  simp at b0 b1 b2
  have hlt := hR1.lt
  have B2' := B1.alloc (.cells #[.int .i64 a, .int .i64 b, .int .i64 c] 23)
  have u0 := B2'.cell 0
  have u1 := B2'.cell 1
  have u2 := B2'.cell 2
  have fu0 := B2'.fr 0
  have fu1 := B2'.fr 1
  have fu2 := B2'.fr 2
  simp only [List.getElem?_toArray, List.getElem?_cons_succ, List.getElem?_cons_zero] at u0 u1 u2
  clear B2'
  clear hE R0 B0 hb0 hO1
  cases k' with
  | false =>
    obtain rfl : q = (⟨0, 0, 0⟩, 10) := by rw [← HQ.out]; simp
    clear HQ B1 hR1
    go_wp2_with fail
    refine bodyPost_ret (v := .tuple #[.agg #[.int .i64 0, .int .i64 0, .int .i64 0], .int .i64 10]) (by simp [results, Tryd.results16, go_sem, u0, u1, u2]) rfl ⟨rfl, ?_⟩
    exact (((hb1.alloc hb1.size _).setCell (Nat.le_refl _) _).setCell (Nat.le_refl _) _).setCell (Nat.le_refl _) _
  | true =>
    cases l' with
    | cons x t =>
      obtain rfl : q = (⟨0, 0, 0⟩, 10) := by rw [← HQ.out]; simp
      clear HQ B1 hR1
      have hne : (x :: t).isEmpty = false := rfl
      generalize (x :: t) = l2 at c0 hne
      go_wp2_with fail
      refine bodyPost_ret (v := .tuple #[.agg #[.int .i64 0, .int .i64 0, .int .i64 0], .int .i64 10]) (by simp [results, Tryd.results16, go_sem, u0, u1, u2]) rfl ⟨rfl, ?_⟩
      exact (((hb1.alloc hb1.size _).setCell (Nat.le_refl _) _).setCell (Nat.le_refl _) _).setCell (Nat.le_refl _) _
    | nil =>
      have hC := Lib.hid (fun W => checkEffect_any a b c W)
      have B2 := B1.alloc (.cells #[.int .i64 a, .int .i64 b, .int .i64 c] 23)
      have E2 := Whole.new w1 23 #[.int .i64 a, .int .i64 b, .int .i64 c]
      have hb2 := hb1.alloc hb1.size (.cells #[.int .i64 a, .int .i64 b, .int .i64 c] 23)
      go_wp2_with fail
      refine (hC.out _).mono ?_
      rintro e w3 ⟨rfl, hb3⟩
      have B3 := B2.below hb3 (by simp; omega)
      have E3 := E2.below hb3 (by simp)
      have hb4 := hb2.trans (hb3.mono (by simp; omega))
      have e0 := E3.cell 0
      have e1 := E3.cell 1
      have e2 := E3.cell 2
      have d0 := B3.cell 0
      have d1 := B3.cell 1
      have d2 := B3.cell 2
      have fd0 := B3.fr 0
      have fd1 := B3.fr 1
      have fd2 := B3.fr 2
      simp at e0 e1 e2 d0 d1 d2
      clear c0 c1 b0 b1 b2 fb0 fb1 fb2 B1 B2 E2 hb2 hb3 hC hR1 hb1 B3 E3
      by_cases hv : effOk a b c
      · obtain rfl : q = (⟨a, b, c⟩, 0) := by rw [← HQ.out]; simp [hv]
        have hz := ckEff_yes hv
        generalize ckEff a b c = z at hz
        subst hz
        clear HQ hv
        go_wp2_with fail
        refine bodyPost_ret (v := .tuple #[.agg #[.int .i64 a, .int .i64 b, .int .i64 c], .int .i64 0]) (by simp [results, Tryd.results16, go_sem, d0, d1, d2]) rfl ⟨rfl, ?_⟩
        exact ((hb4.setCell (Nat.le_refl _) _).setCell (Nat.le_refl _) _).setCell (Nat.le_refl _) _
      · obtain rfl : q = (⟨0, 0, 0⟩, 10) := by rw [← HQ.out]; simp [hv]
        have hz := ckEff_no hv
        generalize ckEff a b c = z at hz
        subst hz
        clear HQ hv
        go_wp2_with fail
        refine bodyPost_ret (v := .tuple #[.agg #[.int .i64 0, .int .i64 0, .int .i64 0], .int .i64 10]) (by simp [results, Tryd.results16, go_sem, d0, d1, d2]) rfl ⟨rfl, ?_⟩
        exact ((hb4.setCell (Nat.le_refl _) _).setCell (Nat.le_refl _) _).setCell (Nat.le_refl _) _
end Go.Proofs.YtmbnhbocablgeaaDoor
