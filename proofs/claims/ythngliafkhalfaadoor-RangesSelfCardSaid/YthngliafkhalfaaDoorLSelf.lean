/- RangesSelf returns true; memory that lay stays. Condition: the types' shapes lie as the program's start lays them. -/
import Derived.Test.YthngliafkhalfaaDoorAB
namespace Go.Proofs.YthngliafkhalfaaDoor
open Go.RowKit

structure SelfC (f t g u : ByteArray) : Prop where
  m1 : ∀ W : World, Calls Tryd.prog 13 #[.agg #[.string f, .string t], .agg #[.string g, .string u]] W fun e w' => e = .returned (.tuple #[.agg #[.string f, .string t], .bool true, .int .i64 0]) ∧ Below W.heap.size W w'
  m2 : ∀ W : World, Calls Tryd.prog 13 #[.agg #[.string g, .string u], .agg #[.string f, .string t]] W fun e w' => e = .returned (.tuple #[.agg #[.string f, .string t], .bool true, .int .i64 0]) ∧ Below W.heap.size W w'
  wo : ∀ W : World, Calls Tryd.prog 14 #[.agg #[.string f, .string t], .agg #[.string g, .string u]] W fun e w' => e = .returned (.tuple #[.slice none 0 0, .int .i64 0]) ∧ Below W.heap.size W w'
  le : ∀ W : World, Calls Tryd.prog 27 #[.agg #[.string f, .string t], .agg #[.string g, .string u]] W fun e w' => e = .returned (.tuple #[.bool false, .int .i64 0]) ∧ Below W.heap.size W w'
  ins : ∀ W : World, Calls Tryd.prog 29 #[.agg #[.string f, .string t], .agg #[.string g, .string u]] W fun e w' => e = .returned (.tuple #[.bool true, .int .i64 0]) ∧ Below W.heap.size W w'
theorem selfC (f t g u : ByteArray) (hf : f.size ≤ 9223372036854775807) (ht : t.size ≤ 9223372036854775807) (hg : g.size ≤ 9223372036854775807) (hu : u.size ≤ 9223372036854775807) (ha : okR f t = true) (hb : (g = f ∧ u = t) ∨ (g = ⟨#[]⟩ ∧ u = ⟨#[]⟩)) : SelfC f t g u := by
  obtain ⟨h1, h2, h3, h4, h5, h6, h7, h8⟩ := self_law f t g u ha hb
  refine ⟨fun W => ?_, fun W => ?_, fun W => ?_, fun W => ?_, fun W => ?_⟩
  · have h := meet_any f t g u W hf ht hg hu
    rw [ha, h1, h2, h3, ha] at h
    exact h
  · have h := meet_any g u f t W hg hu hf ht
    rw [ha, h1, h4, h5, ha] at h
    exact h
  · have h := without_any f t g u W hf ht hg hu
    rw [ha, h1, show outL f t g u = [] by unfold outL; rw [h6, h7]; rfl] at h
    refine h.mono ?_
    rintro e w' ⟨v, rfl, ⟨_, rfl⟩ | ⟨hne, _⟩, hb⟩
    · exact ⟨rfl, hb⟩
    · exact absurd rfl hne
  · have h := less_any f t g u W hf ht hg hu
    rw [ha, h1, h8] at h
    exact h
  · have h := inside_any f t g u W hf ht hg hu
    rw [ha, h1, show insideR f t g u = true by unfold insideR; rw [h6, h7]; rfl] at h
    exact h

set_option maxRecDepth 100000 in
set_option maxHeartbeats 16000000 in
theorem self_round_law (f t : ByteArray) (w : World) (hf : f.size ≤ 9223372036854775807) (ht : t.size ≤ 9223372036854775807) (hsh : w.ShapedOpen Tryd.prog) :
    Calls Tryd.prog 10 #[.agg #[.string f, .string t]] w fun e w' => e = .returned (.bool true) ∧ Below w.heap.size w w' := by
  have HS := Lib.hid hsh
  have A0 := Whole.new w 23 #[.string f, .string t]
  have b0 := (Below.refl w.heap.size w).alloc (Nat.le_refl _) (.cells #[.string f, .string t] 23)
  have N1 := fun W => ne_self f t W
  have CK := fun W => check_any f t W hf ht
  clear hsh
  cases hs : sh f t with
  | false =>
    go_enter Tryd.func10, Tryd.ntmps10
    go_wp2_with (first
      | (go_at_call 11; refine (short_any _ _ _).mono ?_; rintro e w1 ⟨rfl, hb⟩; replace b0 := b0.trans (hb.mono b0.size))
      | (go_at_call 12; refine (works_any _ (shaped_below HS.out b0)).mono ?_; rintro e w2 ⟨rfl, hb2⟩; have bF := b0.trans (hb2.mono b0.size)))
    go_ret
    exact ⟨rfl, bF⟩
  | true =>
    cases ho : okR f t with
    | false =>
      rw [ho] at CK
      simp only [ckI] at CK
      have x0 := A0.cell 0
      have x1 := A0.cell 1
      simp only [List.getElem?_toArray, List.getElem?_cons_succ, List.getElem?_cons_zero] at x0 x1
      go_enter Tryd.func10, Tryd.ntmps10
      go_wp2_with (first
        | (go_at_call 11; refine (short_any _ _ _).mono ?_; rintro e w1 ⟨rfl, hb⟩; replace b0 := b0.trans (hb.mono b0.size); replace A0 := A0.below hb A0.lt; have x0 := A0.cell 0; have x1 := A0.cell 1; simp only [List.getElem?_toArray, List.getElem?_cons_succ, List.getElem?_cons_zero] at x0 x1)
        | (go_at_call 15; refine (CK _).mono ?_; rintro e w1 ⟨rfl, hb⟩; replace b0 := b0.trans (hb.mono b0.size))
        | (go_at_call 12; refine (works_any _ (shaped_below HS.out b0)).mono ?_; rintro e w2 ⟨rfl, hb2⟩; have bF := b0.trans (hb2.mono b0.size)))
      go_ret
      exact ⟨rfl, bF⟩
    | true =>
      rw [ho] at CK
      simp only [ckI] at CK
      have S1 := Lib.hid (selfC f t f t hf ht hf ht ho (Or.inl ⟨rfl, rfl⟩))
      have S2 := Lib.hid (selfC f t ⟨#[]⟩ ⟨#[]⟩ hf ht (by decide) (by decide) ho (Or.inr ⟨rfl, rfl⟩))
      have x0 := A0.cell 0
      have x1 := A0.cell 1
      simp only [List.getElem?_toArray, List.getElem?_cons_succ, List.getElem?_cons_zero] at x0 x1
      go_enter Tryd.func10, Tryd.ntmps10
      go_wp2_with fail
      refine (short_any _ _ _).mono ?_
      rintro e w1 ⟨rfl, hb⟩
      replace b0 := b0.trans (hb.mono b0.size)
      replace A0 := A0.below hb A0.lt
      clear x0 x1 hb
      have x0 := A0.cell 0
      have x1 := A0.cell 1
      simp only [List.getElem?_toArray, List.getElem?_cons_succ, List.getElem?_cons_zero] at x0 x1
      go_wp2_with fail
      refine (CK _).mono ?_
      rintro e w2 ⟨rfl, hb⟩
      replace b0 := b0.trans (hb.mono b0.size)
      replace A0 := A0.below hb A0.lt
      clear x0 x1 hb
      have x0 := A0.cell 0
      have x1 := A0.cell 1
      simp only [List.getElem?_toArray, List.getElem?_cons_succ, List.getElem?_cons_zero] at x0 x1
      have L0 := Whole.new w2 23 #[.string f, .string t, .string ⟨#[]⟩, .string ⟨#[]⟩]
      have A1 := A0.alloc (.cells #[.string f, .string t, .string ⟨#[]⟩, .string ⟨#[]⟩] 23)
      have b1 := b0.alloc b0.size (.cells #[.string f, .string t, .string ⟨#[]⟩, .string ⟨#[]⟩] 23)
      go_wp2_with fail
      generalize w2.heap.size = L at L0 ⊢
      go_loopw [30] (fun v wr => Below w.heap.size w wr ∧ Whole wr w.heap.size 23 #[.string f, .string t] ∧ Whole wr L 23 #[.string f, .string t, .string ⟨#[]⟩, .string ⟨#[]⟩] ∧ (v = .int .i64 0 ∨ v = .int .i64 1 ∨ v = .int .i64 2)) (fun v _ => (2 - intOf v).toNat)
      case atStart => exact ⟨b1, A1, L0, Or.inl rfl⟩
      case round =>
        clear b0 A0 x0 x1 L0 A1 b1
        obtain ⟨b, A, Ls, hrel⟩ := hrel
        have l0 := Ls.cell 0
        have l1 := Ls.cell 1
        have l2 := Ls.cell 2
        have l3 := Ls.cell 3
        simp only [List.getElem?_toArray, List.getElem?_cons_succ, List.getElem?_cons_zero] at l0 l1 l2 l3
        rcases hrel with rfl | rfl | rfl
        · have B := Whole.new wr 23 #[.string f, .string t]
          replace A := A.alloc (.cells #[.string f, .string t] 23)
          replace Ls := Ls.alloc (.cells #[.string f, .string t] 23)
          replace b := b.alloc b.size (.cells #[.string f, .string t] 23)
          have x0 := A.cell 0
          have x1 := A.cell 1
          have y0 := B.cell 0
          have y1 := B.cell 1
          simp only [List.getElem?_toArray, List.getElem?_cons_succ, List.getElem?_cons_zero] at x0 x1 y0 y1
          go_wp2_with fail
          refine (S1.out.m1 _).mono ?_
          rintro e w3 ⟨rfl, hb⟩
          have R := Whole.new w3 23 #[.string f, .string t]
          replace A := (A.below hb A.lt).alloc (.cells #[.string f, .string t] 23)
          replace B := (B.below hb B.lt).alloc (.cells #[.string f, .string t] 23)
          replace Ls := (Ls.below hb Ls.lt).alloc (.cells #[.string f, .string t] 23)
          replace b := b.trans (hb.mono b.size)
          replace b := b.alloc b.size (.cells #[.string f, .string t] 23)
          clear x0 x1 y0 y1 hb l0 l1 l2 l3
          have x0 := A.cell 0
          have x1 := A.cell 1
          have y0 := B.cell 0
          have y1 := B.cell 1
          simp only [List.getElem?_toArray, List.getElem?_cons_succ, List.getElem?_cons_zero] at x0 x1 y0 y1
          go_wp2_with fail
          refine (S1.out.m2 _).mono ?_
          rintro e w4 ⟨rfl, hb⟩
          have Q := Whole.new w4 23 #[.string f, .string t]
          replace A := (A.below hb A.lt).alloc (.cells #[.string f, .string t] 23)
          replace B := (B.below hb B.lt).alloc (.cells #[.string f, .string t] 23)
          replace R := (R.below hb R.lt).alloc (.cells #[.string f, .string t] 23)
          replace Ls := (Ls.below hb Ls.lt).alloc (.cells #[.string f, .string t] 23)
          replace b := b.trans (hb.mono b.size)
          replace b := b.alloc b.size (.cells #[.string f, .string t] 23)
          clear x0 x1 y0 y1 hb
          have x0 := A.cell 0
          have x1 := A.cell 1
          have y0 := B.cell 0
          have y1 := B.cell 1
          simp only [List.getElem?_toArray, List.getElem?_cons_succ, List.getElem?_cons_zero] at x0 x1 y0 y1
          go_wp2_with fail
          refine (S1.out.wo _).mono ?_
          rintro e w5 ⟨rfl, hb⟩
          replace A := A.below hb A.lt
          replace B := B.below hb B.lt
          replace R := R.below hb R.lt
          replace Q := Q.below hb Q.lt
          replace Ls := Ls.below hb Ls.lt
          replace b := b.trans (hb.mono b.size)
          clear x0 x1 y0 y1 hb
          have x0 := A.cell 0
          have x1 := A.cell 1
          have y0 := B.cell 0
          have y1 := B.cell 1
          simp only [List.getElem?_toArray, List.getElem?_cons_succ, List.getElem?_cons_zero] at x0 x1 y0 y1
          go_wp2_with fail
          refine (S1.out.le _).mono ?_
          rintro e w5 ⟨rfl, hb⟩
          replace A := A.below hb A.lt
          replace B := B.below hb B.lt
          replace R := R.below hb R.lt
          replace Q := Q.below hb Q.lt
          replace Ls := Ls.below hb Ls.lt
          replace b := b.trans (hb.mono b.size)
          clear x0 x1 y0 y1 hb
          have x0 := A.cell 0
          have x1 := A.cell 1
          have y0 := B.cell 0
          have y1 := B.cell 1
          simp only [List.getElem?_toArray, List.getElem?_cons_succ, List.getElem?_cons_zero] at x0 x1 y0 y1
          go_wp2_with fail
          refine (S1.out.ins _).mono ?_
          rintro e w5 ⟨rfl, hb⟩
          replace A := A.below hb A.lt
          replace B := B.below hb B.lt
          replace R := R.below hb R.lt
          replace Q := Q.below hb Q.lt
          replace Ls := Ls.below hb Ls.lt
          replace b := b.trans (hb.mono b.size)
          clear x0 x1 y0 y1 hb
          have x0 := A.cell 0
          have x1 := A.cell 1
          have y0 := B.cell 0
          have y1 := B.cell 1
          simp only [List.getElem?_toArray, List.getElem?_cons_succ, List.getElem?_cons_zero] at x0 x1 y0 y1
          have r0 := R.cell 0
          have r1 := R.cell 1
          have q0 := Q.cell 0
          have q1 := Q.cell 1
          simp only [List.getElem?_toArray, List.getElem?_cons_succ, List.getElem?_cons_zero] at r0 r1 q0 q1
          clear R Q B
          go_wp2_with fail
          go_roundw
          case rel => exact ⟨b, A, Ls, (Or.inr (Or.inl (by go_num)))⟩
          case measure => simp [intOf]
        · have B := Whole.new wr 23 #[.string ⟨#[]⟩, .string ⟨#[]⟩]
          replace A := A.alloc (.cells #[.string ⟨#[]⟩, .string ⟨#[]⟩] 23)
          replace Ls := Ls.alloc (.cells #[.string ⟨#[]⟩, .string ⟨#[]⟩] 23)
          replace b := b.alloc b.size (.cells #[.string ⟨#[]⟩, .string ⟨#[]⟩] 23)
          have x0 := A.cell 0
          have x1 := A.cell 1
          have y0 := B.cell 0
          have y1 := B.cell 1
          simp only [List.getElem?_toArray, List.getElem?_cons_succ, List.getElem?_cons_zero] at x0 x1 y0 y1
          go_wp2_with fail
          refine (S2.out.m1 _).mono ?_
          rintro e w3 ⟨rfl, hb⟩
          have R := Whole.new w3 23 #[.string f, .string t]
          replace A := (A.below hb A.lt).alloc (.cells #[.string f, .string t] 23)
          replace B := (B.below hb B.lt).alloc (.cells #[.string f, .string t] 23)
          replace Ls := (Ls.below hb Ls.lt).alloc (.cells #[.string f, .string t] 23)
          replace b := b.trans (hb.mono b.size)
          replace b := b.alloc b.size (.cells #[.string f, .string t] 23)
          clear x0 x1 y0 y1 hb l0 l1 l2 l3
          have x0 := A.cell 0
          have x1 := A.cell 1
          have y0 := B.cell 0
          have y1 := B.cell 1
          simp only [List.getElem?_toArray, List.getElem?_cons_succ, List.getElem?_cons_zero] at x0 x1 y0 y1
          go_wp2_with fail
          refine (S2.out.m2 _).mono ?_
          rintro e w4 ⟨rfl, hb⟩
          have Q := Whole.new w4 23 #[.string f, .string t]
          replace A := (A.below hb A.lt).alloc (.cells #[.string f, .string t] 23)
          replace B := (B.below hb B.lt).alloc (.cells #[.string f, .string t] 23)
          replace R := (R.below hb R.lt).alloc (.cells #[.string f, .string t] 23)
          replace Ls := (Ls.below hb Ls.lt).alloc (.cells #[.string f, .string t] 23)
          replace b := b.trans (hb.mono b.size)
          replace b := b.alloc b.size (.cells #[.string f, .string t] 23)
          clear x0 x1 y0 y1 hb
          have x0 := A.cell 0
          have x1 := A.cell 1
          have y0 := B.cell 0
          have y1 := B.cell 1
          simp only [List.getElem?_toArray, List.getElem?_cons_succ, List.getElem?_cons_zero] at x0 x1 y0 y1
          go_wp2_with fail
          refine (S2.out.wo _).mono ?_
          rintro e w5 ⟨rfl, hb⟩
          replace A := A.below hb A.lt
          replace B := B.below hb B.lt
          replace R := R.below hb R.lt
          replace Q := Q.below hb Q.lt
          replace Ls := Ls.below hb Ls.lt
          replace b := b.trans (hb.mono b.size)
          clear x0 x1 y0 y1 hb
          have x0 := A.cell 0
          have x1 := A.cell 1
          have y0 := B.cell 0
          have y1 := B.cell 1
          simp only [List.getElem?_toArray, List.getElem?_cons_succ, List.getElem?_cons_zero] at x0 x1 y0 y1
          go_wp2_with fail
          refine (S2.out.le _).mono ?_
          rintro e w5 ⟨rfl, hb⟩
          replace A := A.below hb A.lt
          replace B := B.below hb B.lt
          replace R := R.below hb R.lt
          replace Q := Q.below hb Q.lt
          replace Ls := Ls.below hb Ls.lt
          replace b := b.trans (hb.mono b.size)
          clear x0 x1 y0 y1 hb
          have x0 := A.cell 0
          have x1 := A.cell 1
          have y0 := B.cell 0
          have y1 := B.cell 1
          simp only [List.getElem?_toArray, List.getElem?_cons_succ, List.getElem?_cons_zero] at x0 x1 y0 y1
          go_wp2_with fail
          refine (S2.out.ins _).mono ?_
          rintro e w5 ⟨rfl, hb⟩
          replace A := A.below hb A.lt
          replace B := B.below hb B.lt
          replace R := R.below hb R.lt
          replace Q := Q.below hb Q.lt
          replace Ls := Ls.below hb Ls.lt
          replace b := b.trans (hb.mono b.size)
          clear x0 x1 y0 y1 hb
          have x0 := A.cell 0
          have x1 := A.cell 1
          have y0 := B.cell 0
          have y1 := B.cell 1
          simp only [List.getElem?_toArray, List.getElem?_cons_succ, List.getElem?_cons_zero] at x0 x1 y0 y1
          have r0 := R.cell 0
          have r1 := R.cell 1
          have q0 := Q.cell 0
          have q1 := Q.cell 1
          simp only [List.getElem?_toArray, List.getElem?_cons_succ, List.getElem?_cons_zero] at r0 r1 q0 q1
          clear R Q B
          go_wp2_with fail
          go_roundw
          case rel => exact ⟨b, A, Ls, (Or.inr (Or.inr (by go_num)))⟩
          case measure => simp [intOf]
        · clear l0 l1 l2 l3 A Ls
          go_wp2_with (go_at_call 12; refine (works_any _ (shaped_below HS.out b)).mono ?_; rintro e w2 ⟨rfl, hb2⟩; have bF := b.trans (hb2.mono b.size))
          go_ret
          exact ⟨rfl, bF⟩
end Go.Proofs.YthngliafkhalfaaDoor
