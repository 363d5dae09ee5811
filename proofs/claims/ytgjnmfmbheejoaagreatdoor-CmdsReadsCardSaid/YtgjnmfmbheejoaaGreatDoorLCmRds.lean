/- CmdsReads returns true at every input. Conditions: as the statement's own. -/
import Derived.Test.YtgjnmfmbheejoaaGreatDoorCmBy
import Derived.Test.YtgjnmfmbheejoaaGreatDoorCmRD11
namespace Go.Proofs.YtgjnmfmbheejoaaGreatDoor
open Go.RowKit Go.Shelf

/-- What the law holds in memory: the bytes, and their clone. -/
structure Rds (w : World) (Ab A3 : Option Addr) (nb : Nat) (l : List UInt8) (W : World) : Prop where
  bl : Below w.heap.size w W
  s : SlB W Ab nb l
  s3 : SlB W A3 nb l
theorem Rds.keep {w W W' : World} {Ab A3 : Option Addr} {nb : Nat} {l : List UInt8} (h : Rds w Ab A3 nb l W) (hb : Below W.heap.size W W') : Rds w Ab A3 nb l W' := ⟨h.bl.trans (hb.mono h.bl.size), h.s.keep hb, h.s3.keep hb⟩
theorem bEq_alike (A A' : Option Addr) (n n' c c' : Nat) (a : List UInt8) (w : World) (h : SlB w A n a) (h' : SlB w A' n' a) :
    Calls Tryz.prog 19 #[.slice A n c, .slice A' n' c'] w fun e w' => e = .returned (.bool true) ∧ w = w' :=
  (bEq_any A A' n n' c c' a a w h h').mono (fun e w' ⟨he, hw⟩ => ⟨by rw [he, beq_self_eq_true], hw⟩)
set_option maxRecDepth 100000 in
set_option maxHeartbeats 8000000 in
theorem cmdsReads_any (Ab : Option Addr) (nb cb : Nat) (l : List UInt8) (w : World) (hE : DfE w) (hb : SlB w Ab nb l) (_hnb : nb ≤ 9223372036854775807) :
    Calls Tryz.prog 3 #[.slice Ab nb cb] w fun e w' => e = .returned (.bool true) ∧ Below w.heap.size w w' := by
  have WK := Lib.hid (fun (W : World) (h0 : Below w.heap.size w W) => works_any W (hE.keep h0))
  by_cases hbig : 70000 < nb
  · have hb3 : (70000 : Int) < (nb : Int) := by omega
    have W1 := Lib.hid (WK.out w (Below.refl _ _))
    clear hbig WK hE hb
    go_enter Tryz.func3, Tryz.ntmps3
    go_wp2_with (go_at_call 12; refine W1.out.mono ?_; rintro e w13 ⟨rfl, hb⟩; have B13 := Lib.hid hb; clear hb)
    go_ret
    exact ⟨rfl, B13.out⟩
  · have hb3 : ¬ ((70000 : Int) < (nb : Int)) := by omega
    have CL := Lib.hid (bclone_any Ab nb cb l w hb (by omega))
    have DC := Lib.hid (fun (W : World) (h0 : Below w.heap.size w W) => cdecode_any Ab nb cb l W (hE.keep h0) (hb.keep h0) (by omega))
    have RDC := Lib.hid (fun (A : Option Addr) (c : Nat) (W : World) (hs : SlB W A nb l) => rdecode_any A nb c l W hs (by omega))
    have PRB := Lib.hid (fun (W : World) (h0 : Below w.heap.size w W) => (preply_any Ab nb cb l W (hb.keep h0) (by omega)).mono (R' := fun e w' => (∃ re rn rd er, e = .returned (.tuple #[.agg #[.int .i64 re, .int .i64 rn, .string rd], .int .i64 er]) ∧ RDecR l ⟨re, rn, rd⟩ er) ∧ Below W.heap.size W w') (fun e w' ⟨⟨r, er, he, hr⟩, hb⟩ => ⟨⟨r.e, r.n, r.data, er, he, hr⟩, hb⟩))
    have RPB := Lib.hid (fun (A : Option Addr) (c : Nat) (W : World) (hs : SlB W A nb l) => (rpreply_any A nb c l W hs (by omega)).mono (R' := fun e w' => (∃ re rn rd er, e = .returned (.tuple #[.agg #[.int .i64 re, .int .i64 rn, .string rd], .int .i64 er]) ∧ RDecR l ⟨re, rn, rd⟩ er) ∧ Below W.heap.size W w') (fun e w' ⟨⟨r, er, he, hr⟩, hb⟩ => ⟨⟨r.e, r.n, r.data, er, he, hr⟩, hb⟩))
    have HB := Lib.hid hb
    clear hbig hE hb
    go_enter Tryz.func3, Tryz.ntmps3
    go_upto_region 4 with (go_at_call 13; refine CL.out.mono ?_; rintro e w3 ⟨⟨v3, rfl, ho⟩, hb⟩; obtain ⟨A3, c3, rfl, _⟩ := own_slice2 ho; have I3 := Lib.hid (show Rds w Ab A3 nb l w3 from ⟨hb, HB.out.keep hb, SlB.of_own ho⟩); clear hb ho CL HB)
    have DC1 := Lib.hid (DC.out w3 I3.out.bl)
    go_upto_region 5 with (first
      | (go_at_call 14; refine DC1.out.mono ?_; rintro e w4 ⟨⟨c, A, n, m, er, rfl, hr, hi⟩, hb⟩; have HR := Lib.hid hr; have ba := (Below.refl w4.heap.size w4).alloc (Nat.le_refl _) (.cells (cA c A n m) 36); have I4 := Lib.hid (And.intro ((I3.out.keep hb).keep ba) (CmdAt.new hi)); clear hr hi hb ba DC1)
      | (refine wpList_store_row rfl 36 (.tmp 4) (.tmp 21) rfl _ (cA c A n m) rfl rfl 36 _ (heap_alloc_new _ _) (info24 _ _ _ _) rfl (all24 _ _ _ _) ?_; rw [World.setRow_alloc_new]))
    clear I3 DC
    generalize w4.alloc (.cells (cA c A n m) 36) = w5 at I4 ⊢
    generalize w4.heap.size = B1 at I4 ⊢
    have RD1 := Lib.hid (RDC.out A3 c3 w5 I4.out.1.s3)
    go_upto_region 6 with (first
      | (go_at_call 15; refine RD1.out.mono ?_; rintro e w6 ⟨⟨c2, A2, n2, m2, er2, rfl, hr, hi⟩, hb⟩; obtain ⟨rfl, rfl⟩ := HR.out.same hr; have ba := (Below.refl w6.heap.size w6).alloc (Nat.le_refl _) (.cells (cA c A2 n2 m2) 36); have I6 := Lib.hid (And.intro ((I4.out.1.keep hb).keep ba) (And.intro ((I4.out.2.keep hb).keep ba) (CmdAt.new hi))); clear hr hi hb ba RD1)
      | (refine wpList_store_row rfl 36 (.tmp 6) (.tmp 26) rfl _ (cA c A2 n2 m2) rfl rfl 36 _ (heap_alloc_new _ _) (info24 _ _ _ _) rfl (all24 _ _ _ _) ?_; rw [World.setRow_alloc_new]))
    clear I4 RDC HR
    generalize w6.alloc (.cells (cA c A2 n2 m2) 36) = w7 at I6 ⊢
    generalize w6.heap.size = B2 at I6 ⊢
    have PR1 := Lib.hid (PRB.out w7 I6.out.1.bl)
    go_upto_region 7 with (go_at_call 16; refine PR1.out.mono ?_; rintro e w8 ⟨⟨re, rn, rd, er3, rfl, hr⟩, hb⟩; have HR3 := Lib.hid hr; have ba := (Below.refl w8.heap.size w8).alloc (Nat.le_refl _) (.cells #[.int .i64 re, .int .i64 rn, .string rd] 40); have I8 := Lib.hid (And.intro ((I6.out.1.keep hb).keep ba) (And.intro ((I6.out.2.1.keep hb).keep ba) (And.intro ((I6.out.2.2.keep hb).keep ba) (Whole.new w8 40 #[.int .i64 re, .int .i64 rn, .string rd])))); clear hr hb ba PR1)
    clear I6 PRB
    generalize w8.alloc (.cells #[.int .i64 re, .int .i64 rn, .string rd] 40) = w9 at I8 ⊢
    generalize w8.heap.size = B3 at I8 ⊢
    have RP1 := Lib.hid (RPB.out A3 c3 w9 I8.out.1.s3)
    go_upto_region 8 with (go_at_call 17; refine RP1.out.mono ?_; rintro e w10 ⟨⟨re2, rn2, rd2, er4, rfl, hr⟩, hb⟩; obtain ⟨hx, rfl⟩ := HR3.out.same hr; injection hx with hx1 hx2 hx3; subst hx1; subst hx2; subst hx3; have ba := (Below.refl w10.heap.size w10).alloc (Nat.le_refl _) (.cells #[.int .i64 re, .int .i64 rn, .string rd] 40); have I10 := Lib.hid (And.intro ((I8.out.1.keep hb).keep ba) (And.intro ((I8.out.2.1.keep hb).keep ba) (And.intro ((I8.out.2.2.1.keep hb).keep ba) (And.intro ((I8.out.2.2.2.keep hb).keep ba) (Whole.new w10 40 #[.int .i64 re, .int .i64 rn, .string rd]))))); clear hr hb ba RP1)
    clear I8 RPB HR3
    generalize w10.alloc (.cells #[.int .i64 re, .int .i64 rn, .string rd] 40) = w11 at I10 ⊢
    generalize w10.heap.size = B4 at I10 ⊢
    have EQ := Lib.hid ((requal_any c c A A2 n n2 m m2 w11 I10.out.2.1.i I10.out.2.2.1.i).mono (R' := fun e w' => e = .returned (.bool true) ∧ Below w11.heap.size w11 w') (fun e w' h => by
      unfold BoolR at h
      obtain ⟨⟨q, he, hq⟩, hw⟩ := h
      exact ⟨by rw [he, hq.2 rfl], hw⟩))
    go_wp2_with (first
      | (refine wpList_load_rowG (by rfl) 36 (.tmp 4) rfl _ rfl 36 (cA c A n m) (0, 0) _ I10.out.2.1.w Tryz.underlying36 rfl (info24 _ _ _ _) ?_)
      | (refine wpList_load_rowG (by rfl) 36 (.tmp 6) rfl _ rfl 36 (cA c A2 n2 m2) (0, 0) _ I10.out.2.2.1.w Tryz.underlying36 rfl (info24 _ _ _ _) ?_)
      | (go_at_call 18; refine EQ.out.mono ?_; rintro e w12 ⟨rfl, hb⟩; have K12 := Lib.hid (I10.out.1.keep hb); obtain ⟨x0, x1, x2⟩ := whole4r (I10.out.2.2.2.1.keep hb); obtain ⟨y0, y1, y2⟩ := whole4r (I10.out.2.2.2.2.keep hb); clear hb EQ)
      | (go_at_call 19; refine (bEq_alike Ab A3 nb nb cb c3 l w12 K12.out.s K12.out.s3).mono ?_; rintro e v ⟨rfl, rfl⟩; have W1 := Lib.hid (WK.out w12 K12.out.bl))
      | (go_at_call 12; refine W1.out.mono ?_; rintro e w13 ⟨rfl, hb⟩; have B13 := Lib.hid (K12.out.bl.trans (hb.mono K12.out.bl.size)); clear hb))
    go_ret
    exact ⟨rfl, B13.out⟩
end Go.Proofs.YtgjnmfmbheejoaaGreatDoor
