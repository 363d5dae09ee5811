/- A command read from bytes, by the reference. Condition: the bytes are no longer than an int can say. -/
import Derived.Test.YtgjnmfmbheejoaaGreatDoorCmRk
namespace Go.Proofs.YtgjnmfmbheejoaaGreatDoor
open Go.RowKit Go.Shelf

set_option maxRecDepth 100000 in
set_option maxHeartbeats 8000000 in
theorem rdec_15a (Ab : Option Addr) (nb cb : Nat) (b : List UInt8) (w : World) (hb : SlB w Ab nb b) (hn : nb ≤ 1000000000000) (h0 : nb ≠ 0) (hk : (wSm 2147483648 (some b)).1 = 15) (her : (fromN ((wSm 2147483648 (wSm 2147483648 (some b)).2).1 : Int)).2 = 0) :
    Calls Tryz.prog 15 #[.slice Ab nb cb] w fun e w' => DecCR b w w' e := by
  have B1 := Lib.hid ((Below.refl w.heap.size w).alloc (Nat.le_refl _) (.cells (cA (zeroC 0) none 0 0) 36))
  have R1 := Lib.hid (Whole.new w 36 (cA (zeroC 0) none 0 0))
  have HSZ := Lib.hid (World.size_alloc w (.cells (cA (zeroC 0) none 0 0) 36))
  have RD := Lib.hid (rread_any Ab nb cb b _ (hb.keep B1.out) hn)
  have HL := Lib.hid hb.1
  have HBN : Hid (b ≠ []) := Lib.hid (fun e => h0 (by rw [← hb.1, e]; rfl))
  have e0 : ((nb : Int) == 0) = false := by rw [beq_eq_false_iff_ne]; omega
  obtain ⟨s0, hs0⟩ : ∃ s, s = (wSm 2147483648 (some b)).2 := ⟨_, rfl⟩
  have SMa := fun (C : Nat) (V : World) (h : RdQ V C (some b)) => rsmall_any C (some b) V h
  rw [← hs0] at her
  rw [hk, ← hs0] at SMa
  have SM := Lib.hid SMa
  clear SMa
  have HKS := Lib.hid (And.intro hk hs0)
  have HE := Lib.hid her
  clear hb hn h0 hk hs0 her
  go_enter Tryz.func15, Tryz.ntmps15
  go_upto_region 1 with fail
  rw [← zero24 0]
  generalize w.alloc (.cells (cA (zeroC 0) none 0 0) 36) = w1 at B1 R1 HSZ RD ⊢
  go_upto_region 4 with (go_at_call 50; refine RD.out.mono ?_; rintro e w2 ⟨⟨C, rfl, hC, hP⟩, hb⟩; have H2 := Lib.hid (And.intro hC (And.intro hP (And.intro (B1.out.trans (hb.mono B1.out.size)) (R1.out.keep hb)))); clear hC hP hb RD)
  have HC1 : Hid (w.heap.size < C) := Lib.hid (by have := H2.out.1; have := HSZ.out; omega)
  clear B1 R1 HSZ
  go_upto_region 5 with (first
    | (go_at_call 51; refine (SM.out C w2 H2.out.2.1).mono ?_; rintro e w3 ⟨rfl, hP, hg⟩; have H3 := Lib.hid (And.intro hP (And.intro (H2.out.2.2.1.grown hg H2.out.2.2.1.size (fun j e => by cases e; exact Nat.le_of_lt HC1.out)) (H2.out.2.2.2.grown hg (fun e => by have := Option.some.inj e; have := HC1.out; omega)))); clear hP hg SM)
    | (refine wpList_store_row rfl 36 (.tmp 5) (.tmp 18) rfl _ (cA (zeroC 15) none 0 0) rfl rfl 36 _ (heap_alloc_new _ _) (info24 _ _ _ _) rfl (all24 _ _ _ _) ?_; rw [World.setRow_alloc_new]))
  have I0 := Lib.hid (RdI.new 15 ⟨by decide, by decide⟩ H3.out.2.1 H3.out.2.2 H3.out.1 HC1.out)
  clear H2 H3 HC1
  generalize w3.alloc (.cells (cA (zeroC 15) none 0 0) 36) = w4 at I0 ⊢
  generalize w3.heap.size = O at I0 ⊢
  have x0 : w4.cell? ⟨O, 0, none⟩ = some (.int .i64 15) := I0.out.co.w.cell 0
  obtain ⟨v0, hv0⟩ : ∃ v : Int, v = ((wSm 2147483648 s0).1 : Int) := ⟨_, rfl⟩
  obtain ⟨t1, ht1⟩ : ∃ s, s = (wSm 2147483648 s0).2 := ⟨_, rfl⟩
  have Ga0 := rsmall_any C s0 w4 I0.out.rd
  rw [← hv0, ← ht1] at Ga0
  have her := HE.out
  rw [← hv0] at her
  have FZ := fromN_z v0 (by omega) (by have := wSm_le 2147483648 s0; omega)
  have FNa := fun V => refFromNum_any v0 V
  obtain ⟨x, hx⟩ : ∃ x : It6, x = (fromN v0).1 := ⟨_, rfl⟩
  rw [← hx] at FZ
  rw [her, ← hx] at FNa
  have HIT : Hid (rdF limR .item (zeroC 15) s0 = ({ (zeroC 15) with it := x }, t1)) := Lib.hid (by
    show ({ (zeroC 15) with it := (fromN ((wSm 2147483648 s0).1 : Int)).1 }, if (fromN ((wSm 2147483648 s0).1 : Int)).2 = 0 then (wSm 2147483648 s0).2 else none) = _
    rw [← hv0, ← hx, her, ← ht1]
    rfl)
  unfold itA at FNa
  have Z1 : CmdZ { (zeroC 15) with it := x } := by
    obtain ⟨a1, a2, a3, a4, a5, a6, a7, a8, a9, a10, a11, a12, a13, a14, a15, a16, a17, a18, a19⟩ := I0.out.co.i.z
    obtain ⟨b1, b2, b3, b4, b5, b6, b7, b8, b9, b10⟩ := FZ
    constructor <;> first | assumption | exact in64_i b1 b2 | exact in64_i b3 b4 | exact in64_i b5 b6 | exact in64_i b7 b8 | exact in64_i b9 b10
  have ZI := Lib.hid Z1
  have G0 := Lib.hid Ga0
  have FN := Lib.hid FNa
  clear Z1 Ga0 FNa FZ her hx hv0 ht1
  obtain ⟨xa, xb, xc, xm, xi, xg⟩ := x
  go_upto_region 41 with (first
    | (go_at_call 51; refine G0.out.mono ?_; rintro e wa0 ⟨rfl, hP, hg⟩; have J0 := Lib.hid (I0.out.move hg hP); clear hP hg G0)
    | (go_at_call 57; refine (FN.out _).mono ?_; rintro e wb0 ⟨rfl, hb⟩; have ba := (Below.refl wb0.heap.size wb0).alloc (Nat.le_refl _) (.cells #[.int .i64 xa, .int .i64 xb, .int .i64 xc, .int .i64 xm, .bool xi, .int .i64 xg] 33); have J1 := Lib.hid ((J0.out.keep hb).keep ba); have HX := Lib.hid (J0.out.keep hb).rd.lt; have N1 := Lib.hid (Whole.new wb0 33 #[.int .i64 xa, .int .i64 xb, .int .i64 xc, .int .i64 xm, .bool xi, .int .i64 xg]); clear hb ba J0 FN))
  clear x0 I0
  generalize wb0.alloc (.cells #[.int .i64 xa, .int .i64 xb, .int .i64 xc, .int .i64 xm, .bool xi, .int .i64 xg] 33) = wc0 at J1 N1 ⊢
  generalize wb0.heap.size = X at N1 HX ⊢
  go_upto_region 43 with fail
  obtain ⟨y0, y1, y2, y3, y4, y5⟩ := six_cells N1.out
  have f0 := J1.out.co.w.fr 16
  have x0 : wc0.cell? ⟨O, 16, none⟩ = some (.int .i64 0) := J1.out.co.w.cell 16
  have f1 := J1.out.co.w.fr 17
  have x1 : wc0.cell? ⟨O, 17, none⟩ = some (.int .i64 0) := J1.out.co.w.cell 17
  have f2 := J1.out.co.w.fr 18
  have x2 : wc0.cell? ⟨O, 18, none⟩ = some (.int .i64 0) := J1.out.co.w.cell 18
  have f3 := J1.out.co.w.fr 19
  have x3 : wc0.cell? ⟨O, 19, none⟩ = some (.int .i64 0) := J1.out.co.w.cell 19
  have f4 := J1.out.co.w.fr 20
  have x4 : wc0.cell? ⟨O, 20, none⟩ = some (.bool false) := J1.out.co.w.cell 20
  have f5 := J1.out.co.w.fr 21
  have x5 : wc0.cell? ⟨O, 21, none⟩ = some (.int .i64 0) := J1.out.co.w.cell 21
  have HF := Lib.hid (put_item J1.out.co ⟨xa, xb, xc, xm, xi, xg⟩ ZI.out)
  have I1 := Lib.hid (RdI.turn J1.out HF.out.2 HF.out.1)
  go_upto_region 44 with fail
  clear HF y0 y1 y2 y3 y4 y5 x0 x1 x2 x3 x4 x5 f0 f1 f2 f3 f4 f5
  generalize ((((((wc0.setCell ⟨O, 16, none⟩ (.int .i64 xa)).setCell ⟨O, 17, none⟩ (.int .i64 xb)).setCell ⟨O, 18, none⟩ (.int .i64 xc)).setCell ⟨O, 19, none⟩ (.int .i64 xm)).setCell ⟨O, 20, none⟩ (.bool xi)).setCell ⟨O, 21, none⟩ (.int .i64 xg)) = w5 at I1 ⊢
  obtain ⟨v1, hv1⟩ : ∃ v : Int, v = ((wSm 2147483648 t1).1 : Int) := ⟨_, rfl⟩
  obtain ⟨s2, hs2⟩ : ∃ s, s = (wSm 2147483648 t1).2 := ⟨_, rfl⟩
  have Ga1 := rsmall_any C t1 w5 I1.out.rd
  rw [← hv1, ← hs2] at Ga1
  have Z1 : Hid (In64 v1) := Lib.hid (by rw [hv1]; exact in64_nat (Nat.le_trans (wSm_le _ _) (by decide)))
  have G1 := Lib.hid Ga1
  have HV1 := Lib.hid (And.intro hv1 hs2)
  clear Ga1 hv1 hs2
  go_upto_region 45 with (go_at_call 51; refine G1.out.mono ?_; rintro e wa1 ⟨rfl, hP, hg⟩; have J1 := Lib.hid (I1.out.move hg hP); have y22 : wa1.cell? ⟨O, 22, none⟩ = some (.int .i64 0) := J1.out.co.w.cell 22; have f22 : wa1.frozen? ⟨O, 22, none⟩ = false := J1.out.co.w.fr 22; clear hP hg G1)
  have P1_0 := RdI.put (c' := { { (zeroC 15) with it := (⟨xa, xb, xc, xm, xi, xg⟩ : It6) } with res := v1 }) (J1.out) 22 (.int .i64 v1) rfl rfl { J1.out.co.i.z with res := Z1.out }
  have I2 := Lib.hid P1_0
  clear P1_0 y22 f22 J1 I1
  generalize (wa1.setCell ⟨O, 22, none⟩ (.int .i64 v1)) = w6 at I2 ⊢
  obtain ⟨v2, hv2⟩ : ∃ v : ByteArray, v = ⟨(wT s2).1.toArray⟩ := ⟨_, rfl⟩
  obtain ⟨s3, hs3⟩ : ∃ s, s = (wT s2).2 := ⟨_, rfl⟩
  have Ga2 := qtext_any C s2 w6 I2.out.rd
  rw [← hv2, ← hs3] at Ga2
  have Z2 : Hid (v2.size ≤ 9223372036854775807) := Lib.hid (by rw [hv2]; rw [Lib.size_mk]; have := wT_len s2; omega)
  have G2 := Lib.hid Ga2
  have HV2 := Lib.hid (And.intro hv2 hs3)
  clear Ga2 hv2 hs3
  go_upto_region 46 with (go_at_call 53; refine G2.out.mono ?_; rintro e wa2 ⟨rfl, hP, hg⟩; have J2 := Lib.hid (I2.out.move hg hP); have y23 : wa2.cell? ⟨O, 23, none⟩ = some (.string ⟨#[]⟩) := J2.out.co.w.cell 23; have f23 : wa2.frozen? ⟨O, 23, none⟩ = false := J2.out.co.w.fr 23; clear hP hg G2)
  have P2_0 := RdI.put (c' := { { { (zeroC 15) with it := (⟨xa, xb, xc, xm, xi, xg⟩ : It6) } with res := v1 } with data := v2 }) (J2.out) 23 (.string v2) rfl rfl { J2.out.co.i.z with data := Z2.out }
  have I3 := Lib.hid P2_0
  clear P2_0 y23 f23 J2 I2
  generalize (wa2.setCell ⟨O, 23, none⟩ (.string v2)) = w7 at I3 ⊢
  have HRA : Hid (decC limR b = ({ { { (zeroC 15) with it := (⟨xa, xb, xc, xm, xi, xg⟩ : It6) } with res := v1 } with data := v2 }, s3)) := Lib.hid (by rw [HV2.out.1, HV2.out.2, HV1.out.1, HV1.out.2]; show rdA limR ((fieldsK ((wSm 2147483648 (some b)).1 : Nat)).getD []) (zeroC ((wSm 2147483648 (some b)).1 : Nat)) (wSm 2147483648 (some b)).2 = _; rw [HKS.out.1, ← HKS.out.2]; show rdA limR [.res, .data] (rdF limR .item (zeroC 15) s0).1 (rdF limR .item (zeroC 15) s0).2 = _; rw [HIT.out]; rfl)
  obtain ⟨c', hc'⟩ : ∃ c' : Cv, c' = ({ { { (zeroC 15) with it := (⟨xa, xb, xc, xm, xi, xg⟩ : It6) } with res := v1 } with data := v2 }) := ⟨_, rfl⟩
  have IZ := Lib.hid (show RdI w C O c' s3 none 0 0 w7 from by rw [hc']; exact I3.out)
  have HRB : Hid (decC limR b = (c', s3)) := Lib.hid (by rw [hc']; exact HRA.out)
  have HK0 : Hid (c'.k ≠ 0) := Lib.hid (by rw [hc']; exact (by decide : (15 : Int) ≠ 0))
  have HOKB : Hid (nb ≤ 65536 → wEnd s3 = 0 → cmdOk c' → CDecR b c' 0) := Lib.hid (fun h1 h3 h4 => by have := decC_ok (L := limR) (b := b) (by rw [HL.out]; exact h1) (by rw [HRB.out]; exact HK0.out) (by rw [HRB.out]; exact h3) (by rw [HRB.out]; exact h4); rw [HRB.out] at this; exact this)
  have HBAD : Hid (¬ (nb ≤ 65536 ∧ wEnd s3 = 0 ∧ cmdOk c') → CDecR b (zeroC 0) 10) := Lib.hid (fun h => decC_bad limR_ok HBN.out (by rw [HL.out, HRB.out]; exact fun hh => h ⟨hh.1, hh.2.2.1, hh.2.2.2⟩))
  have EN := qend_any C s3 w7 IZ.out.rd
  have CK := rcheck_any c' none 0 0 w7 IZ.out.co.i
  clear hc' HRA I3 HRB
  by_cases hlen : 65536 < nb
  · have PR : Hid (CDecR b (zeroC 0) 10) := Lib.hid (HBAD.out (fun h => by omega))
    have el : (65536 : Int) < (nb : Int) := by omega
    clear HOKB HBAD EN CK hlen
    go_wp2_with (refine wpList_store_row rfl 36 (.tmp 2) (.tmp 146) rfl w.heap.size (cA (zeroC 0) none 0 0) rfl rfl 36 (cA (zeroC 0) none 0 0) IZ.out.rs (info24 _ _ _ _) rfl (all24 _ _ _ _) ?_)
    refine bodyPost_ret (results_row2 rfl _ _ w.heap.size 36 (cA (zeroC 0) none 0 0) (0, 0) _ rfl (setRow_heap _ _ _ _ _ _ IZ.out.rs) Tryz.underlying36 rfl (info24 _ _ _ _) (.int .i64 10) rfl) rfl ?_
    exact ⟨⟨_, _, _, _, _, rfl, PR.out, cmdIn_zero _ 0 in64_0⟩, below_row IZ.out.bl (Nat.le_refl _) _⟩
  have el : ¬ ((65536 : Int) < (nb : Int)) := by omega
  by_cases hw0 : wEnd s3 = 0
  case neg =>
    have PR : Hid (CDecR b (zeroC 0) 10) := Lib.hid (HBAD.out (fun h => hw0 h.2.1))
    have he10 : wEnd s3 = 10 := by unfold wEnd at hw0 ⊢; split at hw0 <;> simp_all
    rw [he10] at EN
    have EN := Lib.hid EN
    clear HOKB HBAD CK hw0 he10
    go_wp2_with (first
      | (go_at_call 58; refine EN.out.mono ?_; rintro e w8 ⟨rfl, rfl⟩)
      | (refine wpList_store_row rfl 36 (.tmp 2) (.tmp 146) rfl w.heap.size (cA (zeroC 0) none 0 0) rfl rfl 36 (cA (zeroC 0) none 0 0) IZ.out.rs (info24 _ _ _ _) rfl (all24 _ _ _ _) ?_))
    refine bodyPost_ret (results_row2 rfl _ _ w.heap.size 36 (cA (zeroC 0) none 0 0) (0, 0) _ rfl (setRow_heap _ _ _ _ _ _ IZ.out.rs) Tryz.underlying36 rfl (info24 _ _ _ _) (.int .i64 10) rfl) rfl ?_
    exact ⟨⟨_, _, _, _, _, rfl, PR.out, cmdIn_zero _ 0 in64_0⟩, below_row IZ.out.bl (Nat.le_refl _) _⟩
  rw [hw0] at EN
  have EN := Lib.hid EN
  by_cases hok : cmdOk c'
  case neg =>
    have PR : Hid (CDecR b (zeroC 0) 10) := Lib.hid (HBAD.out (fun h => hok h.2.2))
    rw [ckC_no hok] at CK
    have CK := Lib.hid CK
    clear HOKB HBAD hw0 hok
    go_wp2_with (first
      | (go_at_call 58; refine EN.out.mono ?_; rintro e w8 ⟨rfl, rfl⟩)
      | (refine wpList_load_rowG (by rfl) 36 (.tmp 5) rfl O rfl 36 (cA c' none 0 0) (0, 0) _ IZ.out.co.w Tryz.underlying36 rfl (info24 _ _ _ _) ?_)
      | (go_at_call 31; refine CK.out.mono ?_; rintro e w9 ⟨rfl, hb9⟩; have I9 := Lib.hid (IZ.out.keep hb9); clear hb9)
      | (refine wpList_store_row rfl 36 (.tmp 2) (.tmp 146) rfl w.heap.size (cA (zeroC 0) none 0 0) rfl rfl 36 (cA (zeroC 0) none 0 0) I9.out.rs (info24 _ _ _ _) rfl (all24 _ _ _ _) ?_))
    refine bodyPost_ret (results_row2 rfl _ _ w.heap.size 36 (cA (zeroC 0) none 0 0) (0, 0) _ rfl (setRow_heap _ _ _ _ _ _ I9.out.rs) Tryz.underlying36 rfl (info24 _ _ _ _) (.int .i64 10) rfl) rfl ?_
    exact ⟨⟨_, _, _, _, _, rfl, PR.out, cmdIn_zero _ 0 in64_0⟩, below_row I9.out.bl (Nat.le_refl _) _⟩
  case pos =>
    have PR : Hid (CDecR b c' 0) := Lib.hid (HOKB.out (by omega) hw0 hok)
    have HOK := Lib.hid hok
    rw [ckC_yes hok] at CK
    have CK := Lib.hid CK
    clear HOKB HBAD hw0 hok
    go_wp2_with (first
      | (go_at_call 58; refine EN.out.mono ?_; rintro e w8 ⟨rfl, rfl⟩)
      | (refine wpList_load_rowG (by rfl) 36 (.tmp 5) rfl O rfl 36 (cA c' none 0 0) (0, 0) _ IZ.out.co.w Tryz.underlying36 rfl (info24 _ _ _ _) ?_)
      | (go_at_call 31; refine CK.out.mono ?_; rintro e w9 ⟨rfl, hb9⟩; have I9 := Lib.hid (IZ.out.keep hb9); clear hb9)
      | (refine wpList_load_row rfl 36 (.tmp 5) rfl O rfl 36 (cA c' none 0 0) (0, 0) _ I9.out.co.w Tryz.underlying36 rfl (info24 _ _ _ _) ?_)
      | (refine wpList_store_row rfl 36 (.tmp 2) (.tmp 147) rfl w.heap.size (cA c' none 0 0) rfl rfl 36 (cA (zeroC 0) none 0 0) I9.out.rs (info24 _ _ _ _) rfl (all24 _ _ _ _) ?_))
    refine bodyPost_ret (results_row2 rfl _ _ w.heap.size 36 (cA c' none 0 0) (0, 0) _ rfl (setRow_heap _ _ _ _ _ _ I9.out.rs) Tryz.underlying36 rfl (info24 _ _ _ _) (.int .i64 0) rfl) rfl ?_
    refine ⟨⟨_, _, _, _, _, rfl, PR.out, ⟨I9.out.co.i.d.grown (setRow_grown _ _ _) (fun a ha hs e => ?_), I9.out.co.i.z⟩⟩, below_row I9.out.bl (Nat.le_refl _) _⟩
    exact hr_ne I9.out.rs I9.out.co.i.d.s ((ok_def HOK.out).resolve_left hs) a ha (Option.some.inj e)

set_option maxRecDepth 100000 in
set_option maxHeartbeats 8000000 in
theorem rdec_15b (Ab : Option Addr) (nb cb : Nat) (b : List UInt8) (w : World) (hb : SlB w Ab nb b) (hn : nb ≤ 1000000000000) (h0 : nb ≠ 0) (hk : (wSm 2147483648 (some b)).1 = 15) (her : (fromN ((wSm 2147483648 (wSm 2147483648 (some b)).2).1 : Int)).2 = 3) :
    Calls Tryz.prog 15 #[.slice Ab nb cb] w fun e w' => DecCR b w w' e := by
  have B1 := Lib.hid ((Below.refl w.heap.size w).alloc (Nat.le_refl _) (.cells (cA (zeroC 0) none 0 0) 36))
  have R1 := Lib.hid (Whole.new w 36 (cA (zeroC 0) none 0 0))
  have HSZ := Lib.hid (World.size_alloc w (.cells (cA (zeroC 0) none 0 0) 36))
  have RD := Lib.hid (rread_any Ab nb cb b _ (hb.keep B1.out) hn)
  have HL := Lib.hid hb.1
  have HBN : Hid (b ≠ []) := Lib.hid (fun e => h0 (by rw [← hb.1, e]; rfl))
  have e0 : ((nb : Int) == 0) = false := by rw [beq_eq_false_iff_ne]; omega
  obtain ⟨s0, hs0⟩ : ∃ s, s = (wSm 2147483648 (some b)).2 := ⟨_, rfl⟩
  have SMa := fun (C : Nat) (V : World) (h : RdQ V C (some b)) => rsmall_any C (some b) V h
  rw [← hs0] at her
  rw [hk, ← hs0] at SMa
  have SM := Lib.hid SMa
  clear SMa
  have HKS := Lib.hid (And.intro hk hs0)
  have HE := Lib.hid her
  clear hb hn h0 hk hs0 her
  go_enter Tryz.func15, Tryz.ntmps15
  go_upto_region 1 with fail
  rw [← zero24 0]
  generalize w.alloc (.cells (cA (zeroC 0) none 0 0) 36) = w1 at B1 R1 HSZ RD ⊢
  go_upto_region 4 with (go_at_call 50; refine RD.out.mono ?_; rintro e w2 ⟨⟨C, rfl, hC, hP⟩, hb⟩; have H2 := Lib.hid (And.intro hC (And.intro hP (And.intro (B1.out.trans (hb.mono B1.out.size)) (R1.out.keep hb)))); clear hC hP hb RD)
  have HC1 : Hid (w.heap.size < C) := Lib.hid (by have := H2.out.1; have := HSZ.out; omega)
  clear B1 R1 HSZ
  go_upto_region 5 with (first
    | (go_at_call 51; refine (SM.out C w2 H2.out.2.1).mono ?_; rintro e w3 ⟨rfl, hP, hg⟩; have H3 := Lib.hid (And.intro hP (And.intro (H2.out.2.2.1.grown hg H2.out.2.2.1.size (fun j e => by cases e; exact Nat.le_of_lt HC1.out)) (H2.out.2.2.2.grown hg (fun e => by have := Option.some.inj e; have := HC1.out; omega)))); clear hP hg SM)
    | (refine wpList_store_row rfl 36 (.tmp 5) (.tmp 18) rfl _ (cA (zeroC 15) none 0 0) rfl rfl 36 _ (heap_alloc_new _ _) (info24 _ _ _ _) rfl (all24 _ _ _ _) ?_; rw [World.setRow_alloc_new]))
  have I0 := Lib.hid (RdI.new 15 ⟨by decide, by decide⟩ H3.out.2.1 H3.out.2.2 H3.out.1 HC1.out)
  clear H2 H3 HC1
  generalize w3.alloc (.cells (cA (zeroC 15) none 0 0) 36) = w4 at I0 ⊢
  generalize w3.heap.size = O at I0 ⊢
  have x0 : w4.cell? ⟨O, 0, none⟩ = some (.int .i64 15) := I0.out.co.w.cell 0
  obtain ⟨v0, hv0⟩ : ∃ v : Int, v = ((wSm 2147483648 s0).1 : Int) := ⟨_, rfl⟩
  obtain ⟨t1, ht1⟩ : ∃ s, s = (wSm 2147483648 s0).2 := ⟨_, rfl⟩
  have Ga0 := rsmall_any C s0 w4 I0.out.rd
  rw [← hv0, ← ht1] at Ga0
  have her := HE.out
  rw [← hv0] at her
  have FZ := fromN_z v0 (by omega) (by have := wSm_le 2147483648 s0; omega)
  have FNa := fun V => refFromNum_any v0 V
  obtain ⟨x, hx⟩ : ∃ x : It6, x = (fromN v0).1 := ⟨_, rfl⟩
  rw [← hx] at FZ
  rw [her, ← hx] at FNa
  have HIT : Hid (rdF limR .item (zeroC 15) s0 = ({ (zeroC 15) with it := x }, none)) := Lib.hid (by
    show ({ (zeroC 15) with it := (fromN ((wSm 2147483648 s0).1 : Int)).1 }, if (fromN ((wSm 2147483648 s0).1 : Int)).2 = 0 then (wSm 2147483648 s0).2 else none) = _
    rw [← hv0, ← hx, her, ← ht1]
    rfl)
  unfold itA at FNa
  have Z1 : CmdZ { (zeroC 15) with it := x } := by
    obtain ⟨a1, a2, a3, a4, a5, a6, a7, a8, a9, a10, a11, a12, a13, a14, a15, a16, a17, a18, a19⟩ := I0.out.co.i.z
    obtain ⟨b1, b2, b3, b4, b5, b6, b7, b8, b9, b10⟩ := FZ
    constructor <;> first | assumption | exact in64_i b1 b2 | exact in64_i b3 b4 | exact in64_i b5 b6 | exact in64_i b7 b8 | exact in64_i b9 b10
  have ZI := Lib.hid Z1
  have G0 := Lib.hid Ga0
  have FN := Lib.hid FNa
  clear Z1 Ga0 FNa FZ her hx hv0 ht1
  obtain ⟨xa, xb, xc, xm, xi, xg⟩ := x
  go_upto_region 41 with (first
    | (go_at_call 51; refine G0.out.mono ?_; rintro e wa0 ⟨rfl, hP, hg⟩; have J0 := Lib.hid (I0.out.move hg hP); clear hP hg G0)
    | (go_at_call 57; refine (FN.out _).mono ?_; rintro e wb0 ⟨rfl, hb⟩; have ba := (Below.refl wb0.heap.size wb0).alloc (Nat.le_refl _) (.cells #[.int .i64 xa, .int .i64 xb, .int .i64 xc, .int .i64 xm, .bool xi, .int .i64 xg] 33); have J1 := Lib.hid ((J0.out.keep hb).keep ba); have HX := Lib.hid (J0.out.keep hb).rd.lt; have N1 := Lib.hid (Whole.new wb0 33 #[.int .i64 xa, .int .i64 xb, .int .i64 xc, .int .i64 xm, .bool xi, .int .i64 xg]); clear hb ba J0 FN))
  clear x0 I0
  generalize wb0.alloc (.cells #[.int .i64 xa, .int .i64 xb, .int .i64 xc, .int .i64 xm, .bool xi, .int .i64 xg] 33) = wc0 at J1 N1 ⊢
  generalize wb0.heap.size = X at N1 HX ⊢
  have FA := Lib.hid (qfail_any C t1 wc0 J1.out.rd)
  go_upto_region 43 with (go_at_call 52; refine FA.out.mono ?_; rintro e wd0 ⟨rfl, hP, hg⟩; have J2 := Lib.hid (J1.out.move hg hP); have N2 := Lib.hid (N1.out.grown hg (fun e => by have := Option.some.inj e; have := HX.out; omega)); clear hP hg FA)
  obtain ⟨y0, y1, y2, y3, y4, y5⟩ := six_cells N2.out
  have f0 := J2.out.co.w.fr 16
  have x0 : wd0.cell? ⟨O, 16, none⟩ = some (.int .i64 0) := J2.out.co.w.cell 16
  have f1 := J2.out.co.w.fr 17
  have x1 : wd0.cell? ⟨O, 17, none⟩ = some (.int .i64 0) := J2.out.co.w.cell 17
  have f2 := J2.out.co.w.fr 18
  have x2 : wd0.cell? ⟨O, 18, none⟩ = some (.int .i64 0) := J2.out.co.w.cell 18
  have f3 := J2.out.co.w.fr 19
  have x3 : wd0.cell? ⟨O, 19, none⟩ = some (.int .i64 0) := J2.out.co.w.cell 19
  have f4 := J2.out.co.w.fr 20
  have x4 : wd0.cell? ⟨O, 20, none⟩ = some (.bool false) := J2.out.co.w.cell 20
  have f5 := J2.out.co.w.fr 21
  have x5 : wd0.cell? ⟨O, 21, none⟩ = some (.int .i64 0) := J2.out.co.w.cell 21
  have HF := Lib.hid (put_item J2.out.co ⟨xa, xb, xc, xm, xi, xg⟩ ZI.out)
  have I1 := Lib.hid (RdI.turn J2.out HF.out.2 HF.out.1)
  go_upto_region 44 with fail
  clear HF y0 y1 y2 y3 y4 y5 x0 x1 x2 x3 x4 x5 f0 f1 f2 f3 f4 f5
  generalize ((((((wd0.setCell ⟨O, 16, none⟩ (.int .i64 xa)).setCell ⟨O, 17, none⟩ (.int .i64 xb)).setCell ⟨O, 18, none⟩ (.int .i64 xc)).setCell ⟨O, 19, none⟩ (.int .i64 xm)).setCell ⟨O, 20, none⟩ (.bool xi)).setCell ⟨O, 21, none⟩ (.int .i64 xg)) = w5 at I1 ⊢
  obtain ⟨v1, hv1⟩ : ∃ v : Int, v = ((wSm 2147483648 none).1 : Int) := ⟨_, rfl⟩
  obtain ⟨s2, hs2⟩ : ∃ s, s = (wSm 2147483648 none).2 := ⟨_, rfl⟩
  have Ga1 := rsmall_any C none w5 I1.out.rd
  rw [← hv1, ← hs2] at Ga1
  have Z1 : Hid (In64 v1) := Lib.hid (by rw [hv1]; exact in64_nat (Nat.le_trans (wSm_le _ _) (by decide)))
  have G1 := Lib.hid Ga1
  have HV1 := Lib.hid (And.intro hv1 hs2)
  clear Ga1 hv1 hs2
  go_upto_region 45 with (go_at_call 51; refine G1.out.mono ?_; rintro e wa1 ⟨rfl, hP, hg⟩; have J1 := Lib.hid (I1.out.move hg hP); have y22 : wa1.cell? ⟨O, 22, none⟩ = some (.int .i64 0) := J1.out.co.w.cell 22; have f22 : wa1.frozen? ⟨O, 22, none⟩ = false := J1.out.co.w.fr 22; clear hP hg G1)
  have P1_0 := RdI.put (c' := { { (zeroC 15) with it := (⟨xa, xb, xc, xm, xi, xg⟩ : It6) } with res := v1 }) (J1.out) 22 (.int .i64 v1) rfl rfl { J1.out.co.i.z with res := Z1.out }
  have I2 := Lib.hid P1_0
  clear P1_0 y22 f22 J1 I1
  generalize (wa1.setCell ⟨O, 22, none⟩ (.int .i64 v1)) = w6 at I2 ⊢
  obtain ⟨v2, hv2⟩ : ∃ v : ByteArray, v = ⟨(wT s2).1.toArray⟩ := ⟨_, rfl⟩
  obtain ⟨s3, hs3⟩ : ∃ s, s = (wT s2).2 := ⟨_, rfl⟩
  have Ga2 := qtext_any C s2 w6 I2.out.rd
  rw [← hv2, ← hs3] at Ga2
  have Z2 : Hid (v2.size ≤ 9223372036854775807) := Lib.hid (by rw [hv2]; rw [Lib.size_mk]; have := wT_len s2; omega)
  have G2 := Lib.hid Ga2
  have HV2 := Lib.hid (And.intro hv2 hs3)
  clear Ga2 hv2 hs3
  go_upto_region 46 with (go_at_call 53; refine G2.out.mono ?_; rintro e wa2 ⟨rfl, hP, hg⟩; have J2 := Lib.hid (I2.out.move hg hP); have y23 : wa2.cell? ⟨O, 23, none⟩ = some (.string ⟨#[]⟩) := J2.out.co.w.cell 23; have f23 : wa2.frozen? ⟨O, 23, none⟩ = false := J2.out.co.w.fr 23; clear hP hg G2)
  have P2_0 := RdI.put (c' := { { { (zeroC 15) with it := (⟨xa, xb, xc, xm, xi, xg⟩ : It6) } with res := v1 } with data := v2 }) (J2.out) 23 (.string v2) rfl rfl { J2.out.co.i.z with data := Z2.out }
  have I3 := Lib.hid P2_0
  clear P2_0 y23 f23 J2 I2
  generalize (wa2.setCell ⟨O, 23, none⟩ (.string v2)) = w7 at I3 ⊢
  have HRA : Hid (decC limR b = ({ { { (zeroC 15) with it := (⟨xa, xb, xc, xm, xi, xg⟩ : It6) } with res := v1 } with data := v2 }, s3)) := Lib.hid (by rw [HV2.out.1, HV2.out.2, HV1.out.1, HV1.out.2]; show rdA limR ((fieldsK ((wSm 2147483648 (some b)).1 : Nat)).getD []) (zeroC ((wSm 2147483648 (some b)).1 : Nat)) (wSm 2147483648 (some b)).2 = _; rw [HKS.out.1, ← HKS.out.2]; show rdA limR [.res, .data] (rdF limR .item (zeroC 15) s0).1 (rdF limR .item (zeroC 15) s0).2 = _; rw [HIT.out]; rfl)
  obtain ⟨c', hc'⟩ : ∃ c' : Cv, c' = ({ { { (zeroC 15) with it := (⟨xa, xb, xc, xm, xi, xg⟩ : It6) } with res := v1 } with data := v2 }) := ⟨_, rfl⟩
  have IZ := Lib.hid (show RdI w C O c' s3 none 0 0 w7 from by rw [hc']; exact I3.out)
  have HRB : Hid (decC limR b = (c', s3)) := Lib.hid (by rw [hc']; exact HRA.out)
  have HK0 : Hid (c'.k ≠ 0) := Lib.hid (by rw [hc']; exact (by decide : (15 : Int) ≠ 0))
  have HOKB : Hid (nb ≤ 65536 → wEnd s3 = 0 → cmdOk c' → CDecR b c' 0) := Lib.hid (fun h1 h3 h4 => by have := decC_ok (L := limR) (b := b) (by rw [HL.out]; exact h1) (by rw [HRB.out]; exact HK0.out) (by rw [HRB.out]; exact h3) (by rw [HRB.out]; exact h4); rw [HRB.out] at this; exact this)
  have HBAD : Hid (¬ (nb ≤ 65536 ∧ wEnd s3 = 0 ∧ cmdOk c') → CDecR b (zeroC 0) 10) := Lib.hid (fun h => decC_bad limR_ok HBN.out (by rw [HL.out, HRB.out]; exact fun hh => h ⟨hh.1, hh.2.2.1, hh.2.2.2⟩))
  have EN := qend_any C s3 w7 IZ.out.rd
  have CK := rcheck_any c' none 0 0 w7 IZ.out.co.i
  clear hc' HRA I3 HRB
  by_cases hlen : 65536 < nb
  · have PR : Hid (CDecR b (zeroC 0) 10) := Lib.hid (HBAD.out (fun h => by omega))
    have el : (65536 : Int) < (nb : Int) := by omega
    clear HOKB HBAD EN CK hlen
    go_wp2_with (refine wpList_store_row rfl 36 (.tmp 2) (.tmp 146) rfl w.heap.size (cA (zeroC 0) none 0 0) rfl rfl 36 (cA (zeroC 0) none 0 0) IZ.out.rs (info24 _ _ _ _) rfl (all24 _ _ _ _) ?_)
    refine bodyPost_ret (results_row2 rfl _ _ w.heap.size 36 (cA (zeroC 0) none 0 0) (0, 0) _ rfl (setRow_heap _ _ _ _ _ _ IZ.out.rs) Tryz.underlying36 rfl (info24 _ _ _ _) (.int .i64 10) rfl) rfl ?_
    exact ⟨⟨_, _, _, _, _, rfl, PR.out, cmdIn_zero _ 0 in64_0⟩, below_row IZ.out.bl (Nat.le_refl _) _⟩
  have el : ¬ ((65536 : Int) < (nb : Int)) := by omega
  by_cases hw0 : wEnd s3 = 0
  case neg =>
    have PR : Hid (CDecR b (zeroC 0) 10) := Lib.hid (HBAD.out (fun h => hw0 h.2.1))
    have he10 : wEnd s3 = 10 := by unfold wEnd at hw0 ⊢; split at hw0 <;> simp_all
    rw [he10] at EN
    have EN := Lib.hid EN
    clear HOKB HBAD CK hw0 he10
    go_wp2_with (first
      | (go_at_call 58; refine EN.out.mono ?_; rintro e w8 ⟨rfl, rfl⟩)
      | (refine wpList_store_row rfl 36 (.tmp 2) (.tmp 146) rfl w.heap.size (cA (zeroC 0) none 0 0) rfl rfl 36 (cA (zeroC 0) none 0 0) IZ.out.rs (info24 _ _ _ _) rfl (all24 _ _ _ _) ?_))
    refine bodyPost_ret (results_row2 rfl _ _ w.heap.size 36 (cA (zeroC 0) none 0 0) (0, 0) _ rfl (setRow_heap _ _ _ _ _ _ IZ.out.rs) Tryz.underlying36 rfl (info24 _ _ _ _) (.int .i64 10) rfl) rfl ?_
    exact ⟨⟨_, _, _, _, _, rfl, PR.out, cmdIn_zero _ 0 in64_0⟩, below_row IZ.out.bl (Nat.le_refl _) _⟩
  rw [hw0] at EN
  have EN := Lib.hid EN
  by_cases hok : cmdOk c'
  case neg =>
    have PR : Hid (CDecR b (zeroC 0) 10) := Lib.hid (HBAD.out (fun h => hok h.2.2))
    rw [ckC_no hok] at CK
    have CK := Lib.hid CK
    clear HOKB HBAD hw0 hok
    go_wp2_with (first
      | (go_at_call 58; refine EN.out.mono ?_; rintro e w8 ⟨rfl, rfl⟩)
      | (refine wpList_load_rowG (by rfl) 36 (.tmp 5) rfl O rfl 36 (cA c' none 0 0) (0, 0) _ IZ.out.co.w Tryz.underlying36 rfl (info24 _ _ _ _) ?_)
      | (go_at_call 31; refine CK.out.mono ?_; rintro e w9 ⟨rfl, hb9⟩; have I9 := Lib.hid (IZ.out.keep hb9); clear hb9)
      | (refine wpList_store_row rfl 36 (.tmp 2) (.tmp 146) rfl w.heap.size (cA (zeroC 0) none 0 0) rfl rfl 36 (cA (zeroC 0) none 0 0) I9.out.rs (info24 _ _ _ _) rfl (all24 _ _ _ _) ?_))
    refine bodyPost_ret (results_row2 rfl _ _ w.heap.size 36 (cA (zeroC 0) none 0 0) (0, 0) _ rfl (setRow_heap _ _ _ _ _ _ I9.out.rs) Tryz.underlying36 rfl (info24 _ _ _ _) (.int .i64 10) rfl) rfl ?_
    exact ⟨⟨_, _, _, _, _, rfl, PR.out, cmdIn_zero _ 0 in64_0⟩, below_row I9.out.bl (Nat.le_refl _) _⟩
  case pos =>
    have PR : Hid (CDecR b c' 0) := Lib.hid (HOKB.out (by omega) hw0 hok)
    have HOK := Lib.hid hok
    rw [ckC_yes hok] at CK
    have CK := Lib.hid CK
    clear HOKB HBAD hw0 hok
    go_wp2_with (first
      | (go_at_call 58; refine EN.out.mono ?_; rintro e w8 ⟨rfl, rfl⟩)
      | (refine wpList_load_rowG (by rfl) 36 (.tmp 5) rfl O rfl 36 (cA c' none 0 0) (0, 0) _ IZ.out.co.w Tryz.underlying36 rfl (info24 _ _ _ _) ?_)
      | (go_at_call 31; refine CK.out.mono ?_; rintro e w9 ⟨rfl, hb9⟩; have I9 := Lib.hid (IZ.out.keep hb9); clear hb9)
      | (refine wpList_load_row rfl 36 (.tmp 5) rfl O rfl 36 (cA c' none 0 0) (0, 0) _ I9.out.co.w Tryz.underlying36 rfl (info24 _ _ _ _) ?_)
      | (refine wpList_store_row rfl 36 (.tmp 2) (.tmp 147) rfl w.heap.size (cA c' none 0 0) rfl rfl 36 (cA (zeroC 0) none 0 0) I9.out.rs (info24 _ _ _ _) rfl (all24 _ _ _ _) ?_))
    refine bodyPost_ret (results_row2 rfl _ _ w.heap.size 36 (cA c' none 0 0) (0, 0) _ rfl (setRow_heap _ _ _ _ _ _ I9.out.rs) Tryz.underlying36 rfl (info24 _ _ _ _) (.int .i64 0) rfl) rfl ?_
    refine ⟨⟨_, _, _, _, _, rfl, PR.out, ⟨I9.out.co.i.d.grown (setRow_grown _ _ _) (fun a ha hs e => ?_), I9.out.co.i.z⟩⟩, below_row I9.out.bl (Nat.le_refl _) _⟩
    exact hr_ne I9.out.rs I9.out.co.i.d.s ((ok_def HOK.out).resolve_left hs) a ha (Option.some.inj e)

set_option maxRecDepth 100000 in
set_option maxHeartbeats 2000000 in
theorem rdec_nil (Ab : Option Addr) (cb : Nat) (w : World) :
    Calls Tryz.prog 15 #[.slice Ab 0 cb] w fun e w' => DecCR [] w w' e := by
  have B1 := Lib.hid ((Below.refl w.heap.size w).alloc (Nat.le_refl _) (.cells (cA (zeroC 0) none 0 0) 36))
  have R1 := Lib.hid (Whole.new w 36 (cA (zeroC 0) none 0 0))
  go_enter Tryz.func15, Tryz.ntmps15
  go_upto_region 1 with fail
  rw [← zero24 0]
  generalize w.alloc (.cells (cA (zeroC 0) none 0 0) 36) = w1 at B1 R1 ⊢
  go_wp2_with (refine wpList_store_row rfl 36 (.tmp 2) (.tmp 13) rfl w.heap.size (cA (zeroC 0) none 0 0) rfl rfl 36 (cA (zeroC 0) none 0 0) R1.out (info24 _ _ _ _) rfl (all24 _ _ _ _) ?_)
  refine bodyPost_ret (results_row2 rfl _ _ w.heap.size 36 (cA (zeroC 0) none 0 0) (0, 0) _ rfl (setRow_heap _ _ _ _ _ _ R1.out) Tryz.underlying36 rfl (info24 _ _ _ _) (.int .i64 0) rfl) rfl ?_
  exact ⟨⟨_, _, _, _, _, rfl, dec_empty, cmdIn_zero _ 0 in64_0⟩, below_row B1.out (Nat.le_refl _) _⟩

end Go.Proofs.YtgjnmfmbheejoaaGreatDoor
