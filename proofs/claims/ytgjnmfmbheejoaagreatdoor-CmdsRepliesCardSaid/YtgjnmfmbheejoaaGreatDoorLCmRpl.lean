/- CmdsReplies returns true at every reply. Conditions: as the statement's own. -/
import Derived.Test.YtgjnmfmbheejoaaGreatDoorCmBy
import Derived.Test.YtgjnmfmbheejoaaGreatDoorCmRRe
namespace Go.Proofs.YtgjnmfmbheejoaaGreatDoor
open Go.RowKit Go.Shelf

theorem bEq_same (A A' : Option Addr) (n n' c c' : Nat) (a : List UInt8) (w : World) (h : SlB w A n a) (h' : SlB w A' n' a) :
    Calls Tryz.prog 19 #[.slice A n c, .slice A' n' c'] w fun e w' => e = .returned (.bool true) ∧ w = w' :=
  (bEq_any A A' n n' c c' a a w h h').mono (fun e w' ⟨he, hw⟩ => ⟨by rw [he, beq_self_eq_true], hw⟩)
theorem rpl_keep {w W W' : World} {X : Nat} {x y z : Value} {A A' : Option Addr} {n n' : Nat} {b : List UInt8} (h : W.cell? ⟨X, 0, none⟩ = some x ∧ W.cell? ⟨X, 1, none⟩ = some y ∧ W.cell? ⟨X, 2, none⟩ = some z ∧ (SlB W A n b ∧ SlB W A' n' b) ∧ Below w.heap.size w W)
    (hb : Below W.heap.size W W') : W'.cell? ⟨X, 0, none⟩ = some x ∧ W'.cell? ⟨X, 1, none⟩ = some y ∧ W'.cell? ⟨X, 2, none⟩ = some z ∧ (SlB W' A n b ∧ SlB W' A' n' b) ∧ Below w.heap.size w W' :=
  ⟨bcell h.1 hb, bcell h.2.1 hb, bcell h.2.2.1 hb, ⟨h.2.2.2.1.1.keep hb, h.2.2.2.1.2.keep hb⟩, h.2.2.2.2.trans (hb.mono h.2.2.2.2.size)⟩
set_option maxRecDepth 100000 in
set_option maxHeartbeats 8000000 in
theorem cmdsReplies_any (re rn : Int) (rd : ByteArray) (w : World) (hE : DfE w) (hd : rd.size ≤ 9223372036854775807) :
    Calls Tryz.prog 4 #[.agg #[.int .i64 re, .int .i64 rn, .string rd]] w fun e w' => e = .returned (.bool true) ∧ Below w.heap.size w w' := by
  have mixed : Tryz.prog.follows Departure.mixedOrders = true := by kernel_rfl
  have WK := Lib.hid (fun (W : World) (hb : Below w.heap.size w W) => works_any W (hE.keep hb))
  have I1 := Lib.hid (And.intro ((Below.refl w.heap.size w).alloc (Nat.le_refl _) (.cells #[.int .i64 re, .int .i64 rn, .string rd] 40)) (Whole.new w 40 #[.int .i64 re, .int .i64 rn, .string rd]))
  obtain ⟨r, hr⟩ : ∃ r : Rv, r = ⟨re, rn, rd⟩ := ⟨_, rfl⟩
  have RP1 := fun V => (reply_any ⟨re, rn, rd⟩ V).mono (R' := fun e w' => (∃ A n m, e = .returned (.tuple #[.slice A n m, .int .i64 (repE r)]) ∧ SlB w' A n (repB r)) ∧ Below V.heap.size V w') (fun e w' ⟨⟨A, n, m, he, hs, _⟩, hb⟩ => ⟨⟨A, n, m, by rw [hr]; exact he, by rw [hr]; exact hs⟩, hb⟩)
  have RP2 := fun V => (rreply_any ⟨re, rn, rd⟩ V).mono (R' := fun e w' => (∃ A n m, e = .returned (.tuple #[.slice A n m, .int .i64 (repE r)]) ∧ SlB w' A n (repB r)) ∧ Below V.heap.size V w') (fun e w' ⟨⟨A, n, m, he, hs, _⟩, hb⟩ => ⟨⟨A, n, m, by rw [hr]; exact he, by rw [hr]; exact hs⟩, hb⟩)
  have CK1 := fun V (_ : Below w.heap.size w V) => ckRep_any ⟨re, rn, rd⟩ V
  have CK2 := fun V (_ : Below w.heap.size w V) => rckRep_any ⟨re, rn, rd⟩ V
  obtain ⟨kk, hkk⟩ : ∃ kk, kk = ckR ⟨re, rn, rd⟩ := ⟨_, rfl⟩
  rw [← hkk] at CK1 CK2
  clear hr hkk
  generalize repE r = ee at RP1 RP2
  generalize repB r = bs at RP1 RP2
  unfold rA at RP1 RP2 CK1 CK2
  dsimp only at RP1 RP2 CK1 CK2
  have RP1 := Lib.hid RP1
  have RP2 := Lib.hid RP2
  have CK1 := Lib.hid CK1
  have CK2 := Lib.hid CK2
  clear hE
  by_cases hbig : 70000 < rd.size
  · have hb3 : (70000 : Int) < (rd.size : Int) := by omega
    have W1 := Lib.hid (WK.out _ I1.out.1)
    clear hbig WK RP1 RP2 CK1 CK2
    go_enter Tryz.func4, Tryz.ntmps4
    go_wp2_with (go_at_call 12; refine W1.out.mono ?_; rintro e w13 ⟨rfl, hb⟩; have B13 := Lib.hid (I1.out.1.trans (hb.mono I1.out.1.size)); clear hb)
    go_ret
    exact ⟨rfl, B13.out⟩
  · have hb3 : ¬ ((70000 : Int) < (rd.size : Int)) := by omega
    clear hbig hd
    go_enter Tryz.func4, Tryz.ntmps4
    go_upto_region 1 with fail
    generalize w.alloc (.cells #[.int .i64 re, .int .i64 rn, .string rd] 40) = w1 at I1 ⊢
    obtain ⟨X, hX⟩ : ∃ X, X = w.heap.size := ⟨_, rfl⟩
    rw [show ({ block := w.heap.size, off := 0 } : Addr) = { block := X, off := 0 } by rw [hX]]
    rw [← hX] at I1
    have I1 := Lib.hid (show Below w.heap.size w w1 ∧ Whole w1 X 40 #[.int .i64 re, .int .i64 rn, .string rd] from by have := I1.out; rw [hX] at this ⊢; exact this)
    clear hX
    obtain ⟨x0, x1, x2⟩ := whole4r I1.out.2
    go_upto_region 4 with (go_at_call 20; refine (RP1.out w1).mono ?_; rintro e w3 ⟨⟨A3, n3, m3, rfl, h3⟩, hb⟩; have I3 := Lib.hid (And.intro (I1.out.1.trans (hb.mono I1.out.1.size)) (And.intro (I1.out.2.keep hb) h3)); clear hb h3 RP1)
    clear x0 x1 x2 I1
    obtain ⟨x0, x1, x2⟩ := whole4r I3.out.2.1
    go_upto_region 5 with (go_at_call 21; refine (RP2.out w3).mono ?_; rintro e w5 ⟨⟨A5, n5, m5, rfl, h5⟩, hb⟩; have I5 := Lib.hid (And.intro (I3.out.1.trans (hb.mono I3.out.1.size)) (And.intro (I3.out.2.1.keep hb) (And.intro (I3.out.2.2.keep hb) h5))); clear hb h5 RP2)
    clear x0 x1 x2 I3
    have SA : Hid (w5.drew.cell? ⟨X, 0, none⟩ = some (.int .i64 re) ∧ w5.drew.cell? ⟨X, 1, none⟩ = some (.int .i64 rn) ∧ w5.drew.cell? ⟨X, 2, none⟩ = some (.string rd) ∧ (SlB w5.drew A3 n3 bs ∧ SlB w5.drew A5 n5 bs) ∧ Below w.heap.size w w5.drew) := by
      obtain ⟨x0, x1, x2⟩ := whole4r I5.out.2.1
      exact Lib.hid ⟨x0, x1, x2, ⟨I5.out.2.2.1.keep (Below.refl _ _).drew, I5.out.2.2.2.keep (Below.refl _ _).drew⟩, I5.out.1.drew⟩
    clear I5
    go_wp2_with fail
    go_region_held3 (fun wx => wx.cell? ⟨X, 0, none⟩ = some (.int .i64 re) ∧ wx.cell? ⟨X, 1, none⟩ = some (.int .i64 rn) ∧ wx.cell? ⟨X, 2, none⟩ = some (.string rd) ∧ (SlB wx A3 n3 bs ∧ SlB wx A5 n5 bs) ∧ Below w.heap.size w wx)
      (first | exact SA.out | assumption | exact SB.out | exact SC.out | exact SE.out)
      (first
        | (go_at_call 22; go_fit (CK1.out _ SA.out.2.2.2.2); rintro e w8 ⟨rfl, hb8⟩; have SB := Lib.hid (rpl_keep SA.out hb8); clear hb8)
        | (go_at_call 23; go_fit (CK2.out _ SB.out.2.2.2.2); rintro e w9 ⟨rfl, hb9⟩; have SC := Lib.hid (rpl_keep SB.out hb9); clear hb9)
        | (go_at_call 19; go_fit (bEq_same A3 A5 n3 n5 m3 m5 bs _ SC.out.2.2.2.1.1 SC.out.2.2.2.1.2); rintro e v ⟨rfl, rfl⟩)
        | (go_at_call 12; go_fit (WK.out _ SC.out.2.2.2.2); rintro e w11 ⟨rfl, hb11⟩; have SE := Lib.hid (rpl_keep SC.out hb11); clear hb11))
    have HZ := Lib.hid SE.out.2.2.2.2
    clear SA SB SC SE
    go_wp2_with fail
    go_ret
    exact ⟨rfl, HZ.out⟩
end Go.Proofs.YtgjnmfmbheejoaaGreatDoor
