/- CmdsAnswers returns true at every input. Conditions: as the statement's own. -/
import Derived.Test.YtgjnmfmbheejoaaGreatDoorCmBy
namespace Go.Proofs.YtgjnmfmbheejoaaGreatDoor
open Go.RowKit Go.Shelf

theorem dropLast_take (l : List UInt8) : l.take (l.length - 1) = l.dropLast := (List.dropLast_eq_take ..).symm
set_option maxRecDepth 100000 in
set_option maxHeartbeats 8000000 in
theorem cmdsAnswers_any (code num size : Int) (Ab : Option Addr) (nb cb : Nat) (l : List UInt8) (w : World) (hE : DfE w) (hc0 : 0 ≤ code) (hc1 : code ≤ 255) (_hn0 : -9223372036854775808 ≤ num) (_hn1 : num ≤ 9223372036854775807) (hs0 : 0 ≤ size) (hs1 : size ≤ 65535)
    (hb : SlB w Ab nb l) (hnb : nb ≤ 9223372036854775807) :
    Calls Tryz.prog 9 #[.int .u8 code, .int .i64 num, .int .u16 size, .slice Ab nb cb] w fun e w' => e = .returned (.bool true) ∧ Below w.heap.size w w' := by
  have mixed : Tryz.prog.follows Departure.mixedOrders = true := by kernel_rfl
  obtain ⟨z, hz⟩ : ∃ z : Nat, size % 60000 = (z : Int) := ⟨(size % 60000).toNat, by omega⟩
  have hz6 : z ≤ 60000 := by omega
  obtain ⟨k, hk⟩ : ∃ k : Int, k = code % 19 := ⟨_, rfl⟩
  obtain ⟨v, hv⟩ : ∃ v : Int, v = num.tmod 1152921504606846977 := ⟨_, rfl⟩
  have hv0 : -1152921504606846977 < v := by rw [hv]; have := Int.lt_tmod_of_pos num (b := 1152921504606846977) (by decide); omega
  have hv1 : v < 1152921504606846977 := by rw [hv]; exact Int.tmod_lt_of_pos num (by decide)
  have RPT := Tryz.strings_Repeat ⟨#[120]⟩ z
  obtain ⟨d, hd⟩ : ∃ d : ByteArray, d = ⟨(Lib.repeatL (⟨#[120]⟩ : ByteArray).data.toList z).toArray⟩ := ⟨_, rfl⟩
  have hdz : d.size = z := by rw [hd, ba_size, Lib.repeatL_length]; show z * 1 = z; omega
  rw [← hd] at RPT
  have RPT := Lib.hid (fun (V : World) => RPT V (by omega) (by show 1 * z ≤ _; omega))
  have hok : repOk ⟨k, v, d⟩ := ⟨⟨by dsimp only; omega, by dsimp only; omega⟩, ⟨by dsimp only; omega, by dsimp only; omega⟩, by dsimp only; omega⟩
  have hbl := bytesR_len hok
  have hbl2 : (bytesR ⟨k, v, d⟩).length ≤ 65536 := by dsimp only at hbl; omega
  have HOK := Lib.hid hok
  have HBL := Lib.hid hbl2
  have hey := rep_yes hok hbl2
  have REP := fun V => (reply_any ⟨k, v, d⟩ V).mono (R' := fun e w' => (∃ A n m, e = .returned (.tuple #[.slice A n m, .int .i64 0]) ∧ SlB w' A n (bytesR ⟨k, v, d⟩) ∧ n ≤ m) ∧ Below V.heap.size V w') (fun e w' ⟨⟨A, n, m, he, hs, hm⟩, hb⟩ => ⟨⟨A, n, m, by rw [he, hey.2], by rw [← hey.1]; exact hs, hm⟩, hb⟩)
  have CKR := fun V => ckRep_any ⟨k, v, d⟩ V
  rw [ckR_yes hok] at CKR
  unfold rA at REP CKR
  dsimp only at REP CKR
  have REP := Lib.hid REP
  have CKR := Lib.hid CKR
  have PR := Lib.hid (fun (A : Option Addr) (n m : Nat) (V : World) (hs : SlB V A n (bytesR ⟨k, v, d⟩)) => (preply_any A n m _ V hs (by have := hs.1; have := HBL.out; omega)).mono (R' := fun e w' => e = .returned (.tuple #[.agg #[.int .i64 k, .int .i64 v, .string d], .int .i64 0]) ∧ Below V.heap.size V w') (fun e w' ⟨⟨r, er, he, hr⟩, hb⟩ => by
    obtain ⟨rfl, rfl⟩ := RDecR.yes HOK.out HBL.out rfl hr
    exact ⟨he, hb⟩))
  have PRM := Lib.hid (fun (A : Option Addr) (n m : Nat) (V : World) (hs : SlB V A n (bytesR ⟨k, v, d⟩ ++ [0])) => (preply_any A n m _ V hs (by have := hs.1; simp only [List.length_append, List.length_cons, List.length_nil] at this; have := HBL.out; omega)).mono (R' := fun e w' => e = .returned (.tuple #[.agg #[.int .i64 0, .int .i64 0, .string ⟨#[]⟩], .int .i64 10]) ∧ Below V.heap.size V w') (fun e w' ⟨⟨r, er, he, hr⟩, hb⟩ => by
    obtain ⟨rfl, rfl⟩ := RDecR.no (fun r h => rep_more HOK.out h 0) hr
    exact ⟨he, hb⟩))
  have PRL := Lib.hid (fun (A : Option Addr) (n m : Nat) (V : World) (hs : SlB V A n (bytesR ⟨k, v, d⟩).dropLast) => (preply_any A n m _ V hs (by have := hs.1; rw [List.length_dropLast] at this; have := HBL.out; omega)).mono (R' := fun e w' => e = .returned (.tuple #[.agg #[.int .i64 0, .int .i64 0, .string ⟨#[]⟩], .int .i64 10]) ∧ Below V.heap.size V w') (fun e w' ⟨⟨r, er, he, hr⟩, hb⟩ => by
    obtain ⟨rfl, rfl⟩ := RDecR.no (fun r h => rep_less HOK.out h) hr
    exact ⟨he, hb⟩))
  have HPOS : Hid (0 < (bytesR ⟨k, v, d⟩).length) := Lib.hid (List.length_pos_iff.2 (bytesR_ne _))
  have WK := Lib.hid (fun (W : World) (hb : Below w.heap.size w W) => works_any W (hE.keep hb))
  have HSB := Lib.hid (fun (W : World) (h0 : Below w.heap.size w W) => hb.keep h0)
  have HLN := Lib.hid hb.1
  generalize bytesR ⟨k, v, d⟩ = bs at REP PR PRM PRL HPOS HBL
  have ek : code % 19 = k := hk.symm
  have ev : num.tmod 1152921504606846977 = v := hv.symm
  clear hE hb hz6 hk hv hv0 hv1 hd hdz hok hbl hbl2 hey HOK
  go_enter Tryz.func9, Tryz.ntmps9
  go_upto_region 2 with (go_at_call 39; refine (RPT.out w).mono ?_; rintro e w1 ⟨rfl, hb⟩; have ba := (Below.refl w1.heap.size w1).alloc (Nat.le_refl _) (.cells #[.int .i64 k, .int .i64 v, .string d] 40); have I2 := Lib.hid (And.intro (hb.trans (ba.mono hb.size)) (Whole.new w1 40 #[.int .i64 k, .int .i64 v, .string d])); clear hb ba RPT)
  generalize w1.alloc (.cells #[.int .i64 k, .int .i64 v, .string d] 40) = w2 at I2 ⊢
  generalize w1.heap.size = X at I2 ⊢
  clear ek ev hz
  obtain ⟨x0, x1, x2⟩ := whole4r I2.out.2
  go_upto_region 3 with (go_at_call 20; refine (REP.out w2).mono ?_; rintro e w3 ⟨⟨A3, n3, m3, rfl, h3, hm3⟩, hb⟩; have I3 := Lib.hid (And.intro (I2.out.1.trans (hb.mono I2.out.1.size)) (And.intro (I2.out.2.keep hb) h3)); have HM := Lib.hid hm3; clear hb h3 hm3 REP)
  clear x0 x1 x2 I2
  go_upto_region 4 with (go_at_call 16; refine (PR.out A3 n3 m3 w3 I3.out.2.2).mono ?_; rintro e w4 ⟨rfl, hb⟩; have ba := (Below.refl w4.heap.size w4).alloc (Nat.le_refl _) (.cells #[.int .i64 k, .int .i64 v, .string d] 40); have b4 := I3.out.1.trans (hb.mono I3.out.1.size); have I5 := Lib.hid (And.intro (b4.trans (ba.mono b4.size)) (And.intro ((I3.out.2.1.keep hb).keep ba) (And.intro ((I3.out.2.2.keep hb).keep ba) (Whole.new w4 40 #[.int .i64 k, .int .i64 v, .string d])))); clear hb ba b4 PR)
  clear I3
  generalize w4.alloc (.cells #[.int .i64 k, .int .i64 v, .string d] 40) = w5 at I5 ⊢
  generalize w4.heap.size = Y at I5 ⊢
  obtain ⟨x0, x1, x2⟩ := whole4r I5.out.2.1
  go_upto_region 6 with (go_at_call 22; refine (CKR.out w5).mono ?_; rintro e w6 ⟨rfl, hb⟩; clear x0 x1 x2; obtain ⟨x0, x1, x2⟩ := whole4r (I5.out.2.1.keep hb); obtain ⟨y0, y1, y2⟩ := whole4r (I5.out.2.2.2.keep hb); have I6 := Lib.hid (And.intro (I5.out.1.trans (hb.mono I5.out.1.size)) (I5.out.2.2.1.keep hb)); clear hb CKR)
  clear x0 x1 x2 y0 y1 y2 I5
  have CL := Lib.hid (bclone_any A3 n3 m3 bs w6 I6.out.2 (by have := I6.out.2.1; have := HBL.out; omega))
  go_upto_region 7 with (first
    | (go_at_call 13; refine CL.out.mono ?_; rintro e w7 ⟨⟨v7, rfl, ho⟩, hb⟩; obtain ⟨A7, c7, rfl, _⟩ := own_slice2 ho; rw [← I6.out.2.1] at ho; obtain ⟨A8, n8, m8, w8, hrun, hsl, hgr, -⟩ := app_byte w6.heap.size _ bs w7 ho hb.size (by have := HBL.out; omega) (.int .u8 0) 0 rfl; have ba := hb.alloc hb.size (.cells #[.int .u8 0] 5); have b8 := ba.grown hgr ba.size (fun k e => (ho.lt k e).1); have I8 := Lib.hid (And.intro (I6.out.1.trans (b8.mono I6.out.1.size)) (I6.out.2.keep b8)); have HR := Lib.hid hrun; have PRM := Lib.hid (PRM.out A8 n8 m8 w8 hsl); rw [I6.out.2.1] at HR; clear hb ho hrun hsl hgr ba b8 CL)
    | (at_builtin; refine wpList_append_run rfl (.tmp 60) (.tmp 61) 22 22 rfl rfl rfl HR.out ?_)
    | (go_at_call 16; refine PRM.out.mono ?_; rintro e w9 ⟨rfl, hb⟩; have ba := (Below.refl w9.heap.size w9).alloc (Nat.le_refl _) (.cells #[.int .i64 0, .int .i64 0, .string ⟨#[]⟩] 40); have b9 := I8.out.1.trans (hb.mono I8.out.1.size); have I9 := Lib.hid (And.intro (b9.trans (ba.mono b9.size)) ((I8.out.2.keep hb).keep ba)); clear hb ba b9 PRM))
  clear I6 I8 HR
  generalize w9.alloc (.cells #[.int .i64 0, .int .i64 0, .string ⟨#[]⟩] 40) = w10 at I9 ⊢
  generalize w9.heap.size = X9
  have hn3 : 0 < n3 := by rw [← I9.out.2.1]; exact HPOS.out
  have hcut : ∀ W : World, (Instr.slice 22 (.slice A3 n3 m3) none (some (.int .i64 ((n3 : Int) - 1))) none).run Tryz.prog W = .ok (.slice A3 (n3 - 1) m3) W := fun W => by
    have h := cut_hi A3 (n3 - 1) n3 m3 (by have := HM.out; omega) W
    rw [show (((n3 - 1 : Nat)) : Int) = (n3 : Int) - 1 by omega] at h
    exact h
  have hw3 : IntKind.i64.wrap ((n3 : Int) - 1) = (n3 : Int) - 1 := IntWalk.i64_in _ (by have := I9.out.2.1; have := HBL.out; omega)
  have PRL := Lib.hid (PRL.out A3 (n3 - 1) m3 w10 (by have t := slB_cut I9.out.2 (n3 - 1) (by omega); rw [show bs.take (n3 - 1) = bs.dropLast by rw [← I9.out.2.1, dropLast_take]] at t; exact t))
  go_upto_region 10 with (go_at_call 16; refine PRL.out.mono ?_; rintro e w11 ⟨rfl, hb⟩; have ba := (Below.refl w11.heap.size w11).alloc (Nat.le_refl _) (.cells #[.int .i64 0, .int .i64 0, .string ⟨#[]⟩] 40); have b9 := I9.out.1.trans (hb.mono I9.out.1.size); have I11 := Lib.hid (b9.trans (ba.mono b9.size)); clear hb ba b9 PRL)
  generalize w11.alloc (.cells #[.int .i64 0, .int .i64 0, .string ⟨#[]⟩] 40) = w12 at I11 ⊢
  generalize w11.heap.size = X11
  clear I9 hcut hw3 hn3 HM HPOS HBL
  by_cases hbig : 300 < nb
  · have hb3 : (300 : Int) < (nb : Int) := by omega
    have W1 := Lib.hid (WK.out w12 I11.out)
    clear hbig WK HSB
    go_wp2_with (go_at_call 12; refine W1.out.mono ?_; rintro e w13 ⟨rfl, hb⟩; have B13 := Lib.hid (I11.out.trans (hb.mono I11.out.size)); clear hb)
    go_ret
    exact ⟨rfl, B13.out⟩
  · have hb3 : ¬ ((300 : Int) < (nb : Int)) := by omega
    have PRB := Lib.hid ((preply_any Ab nb cb l w12 (HSB.out w12 I11.out) (by omega)).mono (R' := fun e w' => (∃ re rn rd er, e = .returned (.tuple #[.agg #[.int .i64 re, .int .i64 rn, .string rd], .int .i64 er]) ∧ RDecR l ⟨re, rn, rd⟩ er) ∧ Below w12.heap.size w12 w') (fun e w' ⟨⟨r, er, he, hr⟩, hb⟩ => ⟨⟨r.e, r.n, r.data, er, he, hr⟩, hb⟩))
    clear hbig
    go_upto_region 15 with (go_at_call 16; refine PRB.out.mono ?_; rintro e w13 ⟨⟨re, rn, rd, er, rfl, hr⟩, hb⟩; have I13 := Lib.hid (I11.out.trans (hb.mono I11.out.size)); have HR := Lib.hid hr; clear hb hr PRB)
    have ba := (Below.refl w13.heap.size w13).alloc (Nat.le_refl _) (.cells #[.int .i64 re, .int .i64 rn, .string rd] 40)
    have I14 := Lib.hid (And.intro (I13.out.trans (ba.mono I13.out.size)) (Whole.new w13 40 #[.int .i64 re, .int .i64 rn, .string rd]))
    clear ba I13
    generalize w13.alloc (.cells #[.int .i64 re, .int .i64 rn, .string rd] 40) = w14 at I14 ⊢
    generalize w13.heap.size = Z at I14 ⊢
    rcases HR.out with ⟨rfl, h1, h2, h3⟩ | ⟨rfl, h1, _⟩
    · have REP2 := (reply_any ⟨re, rn, rd⟩ w14).mono (R' := fun e w' => (∃ A n m, e = .returned (.tuple #[.slice A n m, .int .i64 0]) ∧ SlB w' A n l) ∧ Below w14.heap.size w14 w') (fun e w' ⟨⟨A, n, m, he, hs, _⟩, hb⟩ => by
        have hy := rep_yes h1 (by rw [h2]; exact h3)
        rw [hy.2] at he
        rw [hy.1, h2] at hs
        exact ⟨⟨A, n, m, he, hs⟩, hb⟩)
      unfold rA at REP2
      dsimp only at REP2
      have REP2 := Lib.hid REP2
      obtain ⟨x0, x1, x2⟩ := whole4r I14.out.2
      clear h1 h2 h3 HR
      go_upto_region 18 with (go_at_call 20; refine REP2.out.mono ?_; rintro e w15 ⟨⟨A15, n15, m15, rfl, h15⟩, hb⟩; have I15 := Lib.hid (And.intro (I14.out.1.trans (hb.mono I14.out.1.size)) h15); clear hb h15 REP2)
      clear x0 x1 x2 I14
      have BE := Lib.hid ((bEq_any A15 Ab n15 nb m15 cb l l w15 I15.out.2 (HSB.out w15 I15.out.1)).mono (R' := fun e w' => e = .returned (.bool true) ∧ w15 = w') (fun e w' ⟨he, hw⟩ => ⟨by rw [he, beq_self_eq_true], hw⟩))
      have W1 := Lib.hid (WK.out w15 I15.out.1)
      clear WK HSB
      go_wp2_with (first
        | (go_at_call 19; refine BE.out.mono ?_; rintro e v ⟨rfl, rfl⟩)
        | (go_at_call 12; refine W1.out.mono ?_; rintro e w16 ⟨rfl, hb⟩; have B16 := Lib.hid (I15.out.1.trans (hb.mono I15.out.1.size)); clear hb))
      go_ret
      exact ⟨rfl, B16.out⟩
    · obtain ⟨rfl, rfl, rfl⟩ : re = 0 ∧ rn = 0 ∧ rd = ⟨#[]⟩ := by
        unfold zeroR at h1
        injection h1 with a b c
        exact ⟨a, b, c⟩
      have W1 := Lib.hid (WK.out w14 I14.out.1)
      obtain ⟨x0, x1, x2⟩ := whole4r I14.out.2
      clear h1 HR WK HSB
      go_wp2_with (go_at_call 12; refine W1.out.mono ?_; rintro e w16 ⟨rfl, hb⟩; have B16 := Lib.hid (I14.out.1.trans (hb.mono I14.out.1.size)); clear hb)
      go_ret
      exact ⟨rfl, B16.out⟩
end Go.Proofs.YtgjnmfmbheejoaaGreatDoor
