/- A command read from bytes, by the reference. Condition: the bytes are no longer than an int can say. -/
import Derived.Test.YtgjnmfmbheejoaaGreatDoorDfRDec
import Derived.Test.YtgjnmfmbheejoaaGreatDoorCmRD0
import Derived.Test.YtgjnmfmbheejoaaGreatDoorCmRD1
import Derived.Test.YtgjnmfmbheejoaaGreatDoorCmRD2
import Derived.Test.YtgjnmfmbheejoaaGreatDoorCmRD3
import Derived.Test.YtgjnmfmbheejoaaGreatDoorCmRD4
import Derived.Test.YtgjnmfmbheejoaaGreatDoorCmRD14
import Derived.Test.YtgjnmfmbheejoaaGreatDoorCmRD15
namespace Go.Proofs.YtgjnmfmbheejoaaGreatDoor
open Go.RowKit Go.Shelf

set_option maxRecDepth 100000 in
set_option maxHeartbeats 8000000 in
theorem rdec_11a (Ab : Option Addr) (nb cb : Nat) (b : List UInt8) (w : World) (hb : SlB w Ab nb b) (hn : nb ≤ 1000000000000) (h0 : nb ≠ 0) (hk : (wSm 2147483648 (some b)).1 = 11) (her : (decV (wT (wSm 2147483648 (wSm 2147483648 (wSm 2147483648 (some b)).2).2).2).1).2 = 0) :
    Calls Tryz.prog 15 #[.slice Ab nb cb] w fun e w' => DecCR b w w' e := by
  have B1 := Lib.hid ((Below.refl w.heap.size w).alloc (Nat.le_refl _) (.cells (cA (zeroC 0) none 0 0) 36))
  have R1 := Lib.hid (Whole.new w 36 (cA (zeroC 0) none 0 0))
  have HSZ := Lib.hid (World.size_alloc w (.cells (cA (zeroC 0) none 0 0) 36))
  have RD := Lib.hid (rread_any Ab nb cb b _ (hb.keep B1.out) hn)
  have HL := Lib.hid hb.1
  have HBN : Hid (b ≠ []) := Lib.hid (fun e => h0 (by rw [← hb.1, e]; rfl))
  have e0 : ((nb : Int) == 0) = false := by rw [beq_eq_false_iff_ne]; omega
  obtain ⟨s0, hs0⟩ : ∃ s, s = (wSm 2147483648 (some b)).2 := ⟨_, rfl⟩
  have SMa := fun (C : Nat) (V : World) (h : RdQ V C (some b)) => rsmall_any C (some b) V h
  rw [← hs0] at her
  rw [hk, ← hs0] at SMa
  have SM := Lib.hid SMa
  clear SMa
  have HKS := Lib.hid (And.intro hk hs0)
  have HE0 := Lib.hid her
  clear hb hn h0 hk hs0 her
  go_enter Tryz.func15, Tryz.ntmps15
  go_upto_region 1 with fail
  rw [← zero24 0]
  generalize w.alloc (.cells (cA (zeroC 0) none 0 0) 36) = w1 at B1 R1 HSZ RD ⊢
  go_upto_region 4 with (go_at_call 50; refine RD.out.mono ?_; rintro e w2 ⟨⟨C, rfl, hC, hP⟩, hb⟩; have H2 := Lib.hid (And.intro hC (And.intro hP (And.intro (B1.out.trans (hb.mono B1.out.size)) (R1.out.keep hb)))); clear hC hP hb RD)
  have HC1 : Hid (w.heap.size < C) := Lib.hid (by have := H2.out.1; have := HSZ.out; omega)
  clear B1 R1 HSZ
  go_upto_region 5 with (first
    | (go_at_call 51; refine (SM.out C w2 H2.out.2.1).mono ?_; rintro e w3 ⟨rfl, hP, hg⟩; have H3 := Lib.hid (And.intro hP (And.intro (H2.out.2.2.1.grown hg H2.out.2.2.1.size (fun j e => by cases e; exact Nat.le_of_lt HC1.out)) (H2.out.2.2.2.grown hg (fun e => by have := Option.some.inj e; have := HC1.out; omega)))); clear hP hg SM)
    | (refine wpList_store_row rfl 36 (.tmp 5) (.tmp 18) rfl _ (cA (zeroC 11) none 0 0) rfl rfl 36 _ (heap_alloc_new _ _) (info24 _ _ _ _) rfl (all24 _ _ _ _) ?_; rw [World.setRow_alloc_new]))
  have I0 := Lib.hid (RdI.new 11 ⟨by decide, by decide⟩ H3.out.2.1 H3.out.2.2 H3.out.1 HC1.out)
  clear H2 H3 HC1
  generalize w3.alloc (.cells (cA (zeroC 11) none 0 0) 36) = w4 at I0 ⊢
  generalize w3.heap.size = O at I0 ⊢
  have x0 : w4.cell? ⟨O, 0, none⟩ = some (.int .i64 11) := I0.out.co.w.cell 0
  obtain ⟨v0, hv0⟩ : ∃ v : Int, v = ((wSm 2147483648 s0).1 : Int) := ⟨_, rfl⟩
  obtain ⟨s1, hs1⟩ : ∃ s, s = (wSm 2147483648 s0).2 := ⟨_, rfl⟩
  have Ga0 := rsmall_any C s0 w4 I0.out.rd
  rw [← hv0, ← hs1] at Ga0
  have Z0 : Hid (In64 v0) := Lib.hid (by rw [hv0]; exact in64_nat (Nat.le_trans (wSm_le _ _) (by decide)))
  have G0 := Lib.hid Ga0
  have HV0 := Lib.hid (And.intro hv0 hs1)
  clear Ga0 hv0 hs1
  go_upto_region 26 with (go_at_call 51; refine G0.out.mono ?_; rintro e wa0 ⟨rfl, hP, hg⟩; have J0 := Lib.hid (I0.out.move hg hP); have y1 : wa0.cell? ⟨O, 1, none⟩ = some (.int .i64 0) := J0.out.co.w.cell 1; have f1 : wa0.frozen? ⟨O, 1, none⟩ = false := J0.out.co.w.fr 1; clear hP hg G0)
  have P0_0 := RdI.put (c' := { (zeroC 11) with call := v0 }) (J0.out) 1 (.int .i64 v0) rfl rfl { J0.out.co.i.z with call := Z0.out }
  have I1 := Lib.hid P0_0
  clear P0_0 y1 f1 J0 I0 x0
  generalize (wa0.setCell ⟨O, 1, none⟩ (.int .i64 v0)) = w5 at I1 ⊢
  obtain ⟨v1, hv1⟩ : ∃ v : Int, v = ((wSm 2147483648 s1).1 : Int) := ⟨_, rfl⟩
  obtain ⟨s2, hs2⟩ : ∃ s, s = (wSm 2147483648 s1).2 := ⟨_, rfl⟩
  have Ga1 := rsmall_any C s1 w5 I1.out.rd
  rw [← hv1, ← hs2] at Ga1
  have Z1 : Hid (In64 v1) := Lib.hid (by rw [hv1]; exact in64_nat (Nat.le_trans (wSm_le _ _) (by decide)))
  have G1 := Lib.hid Ga1
  have HV1 := Lib.hid (And.intro hv1 hs2)
  clear Ga1 hv1 hs2
  go_upto_region 27 with (go_at_call 51; refine G1.out.mono ?_; rintro e wa1 ⟨rfl, hP, hg⟩; have J1 := Lib.hid (I1.out.move hg hP); have y2 : wa1.cell? ⟨O, 2, none⟩ = some (.int .i64 0) := J1.out.co.w.cell 2; have f2 : wa1.frozen? ⟨O, 2, none⟩ = false := J1.out.co.w.fr 2; clear hP hg G1)
  have P1_0 := RdI.put (c' := { { (zeroC 11) with call := v0 } with saga := v1 }) (J1.out) 2 (.int .i64 v1) rfl rfl { J1.out.co.i.z with saga := Z1.out }
  have I2 := Lib.hid P1_0
  clear P1_0 y2 f2 J1 I1
  generalize (wa1.setCell ⟨O, 2, none⟩ (.int .i64 v1)) = w6 at I2 ⊢
  have HP2 : Hid (rdA limR [.call, .saga] (zeroC 11) s0 = ({ { (zeroC 11) with call := v0 } with saga := v1 }, s2)) := Lib.hid (by rw [HV1.out.1, HV1.out.2, HV0.out.1, HV0.out.2]; rfl)
  obtain ⟨c2, hc2⟩ : ∃ c2 : Cv, c2 = { { (zeroC 11) with call := v0 } with saga := v1 } := ⟨_, rfl⟩
  rw [← hc2] at HP2 I2
  clear hc2
  obtain ⟨s, hs⟩ : ∃ s : ByteArray, s = ⟨(wT s2).1.toArray⟩ := ⟨_, rfl⟩
  have hsl : s.data.toList = (wT s2).1 := by rw [hs]
  have hsz : s.size ≤ 65536 := by rw [hs, Lib.size_mk]; exact wT_len s2
  obtain ⟨t1, ht1⟩ : ∃ x, x = (wT s2).2 := ⟨_, rfl⟩
  have HR : Hid (∀ d er, DecR s.data.toList d er → rdF limR .defn c2 s2 = ({ c2 with d := d }, if er = 0 then t1 else none)) := Lib.hid (fun d er h => by
    rw [hsl] at h
    have h2 := decV_of h
    show (({ c2 with d := (decV (wT s2).1).1 } : Cv), if (decV (wT s2).1).2 = 0 then (wT s2).2 else none) = _
    rw [h2, ht1])
  have HE : Hid (∀ d er, DecR s.data.toList d er → er = 0) := Lib.hid (fun d er h => by
    have h2 := decV_of h
    have h3 := HE0.out
    rw [← HV0.out.2, ← HV1.out.2, ← hsl, h2] at h3
    exact h3)
  have T1a := qtext_any C s2 w6 I2.out.rd
  rw [← hs, ← ht1] at T1a
  have T1 := Lib.hid T1a
  have hcv := conv_str s
  have DC := Lib.hid (fun (V : World) (k : Nat) => refDecode_new (some ⟨V.heap.size, 0, none⟩) s.size k s.data.toList (Lib.bytesWorld V 5 s) (slB_conv s V) (by omega))
  have HBW := Lib.hid (fun (V : World) => below_conv s V)
  clear T1a hs hsl hsz ht1 HE0
  unfold DecodeN dV at DC
  go_upto_region 28 with (first
    | (go_at_call 53; refine T1.out.mono ?_; rintro e wa ⟨rfl, hP, hg⟩; have J0 := Lib.hid (I2.out.move hg hP); clear hP hg T1)
    | (go_at_call 56; refine (DC.out wa _).mono ?_; rintro e wb ⟨⟨d, A2, n2, m2, er, rfl, hdr, hda, hA2⟩, hb⟩; obtain rfl := HE.out d er hdr; have HDR := Lib.hid hdr; have ba := (Below.refl wb.heap.size wb).alloc (Nat.le_refl _) (.cells #[.string d.n, .int .i64 d.r, .int .i64 d.dl, .slice A2 n2 m2] 31); have HDA := Lib.hid (And.intro (hda.keep ba) (fun (a : Addr) (ha : A2 = some a) => (show O < a.block from Nat.lt_of_lt_of_le J0.out.co.lt (Nat.le_trans (HBW.out wa).size (hA2 a ha))))); have J1 := Lib.hid (((J0.out.keep (HBW.out wa)).keep hb).keep ba); have HX := Lib.hid (((J0.out.keep (HBW.out wa)).keep hb).rd.lt); have N1 := Lib.hid (Whole.new wb 31 #[.string d.n, .int .i64 d.r, .int .i64 d.dl, .slice A2 n2 m2]); clear hdr hda hA2 hb ba J0 DC))
  clear I2 hcv HBW HE
  generalize wb.alloc (.cells #[.string d.n, .int .i64 d.r, .int .i64 d.dl, .slice A2 n2 m2] 31) = wc0 at J1 N1 HDA ⊢
  generalize wb.heap.size = X at N1 HX ⊢
  go_upto_region 30 with fail
  obtain ⟨⟨y0, y1, y2, y3⟩, _⟩ := whole4 N1.out
  have f0 := J1.out.co.w.fr 12
  have x0 := J1.out.co.w.cell 12
  have f1 := J1.out.co.w.fr 13
  have x1 := J1.out.co.w.cell 13
  have f2 := J1.out.co.w.fr 14
  have x2 := J1.out.co.w.cell 14
  have f3 := J1.out.co.w.fr 15
  have x3 := J1.out.co.w.cell 15
  have HF := Lib.hid (put_def J1.out.co d A2 n2 m2 HDA.out.1 (fun a ha => Nat.ne_of_gt (HDA.out.2 a ha)))
  have I3 := Lib.hid (RdI.turn J1.out HF.out.2 HF.out.1)
  obtain ⟨g0, hg0⟩ : ∃ g0, (cA c2 none 0 0)[12]? = some g0 := ⟨_, rfl⟩
  obtain ⟨g1, hg1⟩ : ∃ g1, (cA c2 none 0 0)[13]? = some g1 := ⟨_, rfl⟩
  obtain ⟨g2, hg2⟩ : ∃ g2, (cA c2 none 0 0)[14]? = some g2 := ⟨_, rfl⟩
  obtain ⟨g3, hg3⟩ : ∃ g3, (cA c2 none 0 0)[15]? = some g3 := ⟨_, rfl⟩
  rw [hg0] at x0
  rw [hg1] at x1
  rw [hg2] at x2
  rw [hg3] at x3
  clear hg0 hg1 hg2 hg3
  go_upto_region 46 with fail
  clear HF y0 y1 y2 y3 x0 x1 x2 x3 f0 f1 f2 f3
  generalize ((((wc0.setCell ⟨O, 12, none⟩ (.string d.n)).setCell ⟨O, 13, none⟩ (.int .i64 d.r)).setCell ⟨O, 14, none⟩ (.int .i64 d.dl)).setCell ⟨O, 15, none⟩ (.slice A2 n2 m2)) = w7 at I3 ⊢
  have HRA : Hid (decC limR b = ({ c2 with d := d }, t1)) := Lib.hid (by have h := HR.out d 0 HDR.out; rw [if_pos rfl] at h; show rdA limR ((fieldsK ((wSm 2147483648 (some b)).1 : Nat)).getD []) (zeroC ((wSm 2147483648 (some b)).1 : Nat)) (wSm 2147483648 (some b)).2 = _; rw [HKS.out.1, ← HKS.out.2]; show rdF limR .defn (rdA limR [.call, .saga] (zeroC 11) s0).1 (rdA limR [.call, .saga] (zeroC 11) s0).2 = _; rw [HP2.out]; exact h)
  have HKC : Hid (c2.k = 11) := Lib.hid (by have h := rdA_k limR [.call, .saga] (zeroC 11) s0; rw [HP2.out] at h; exact h)
  obtain ⟨c', hc'⟩ : ∃ c' : Cv, c' = ({ c2 with d := d }) := ⟨_, rfl⟩
  have IZ := Lib.hid (show RdI w C O c' t1 A2 n2 m2 w7 from by rw [hc']; exact I3.out)
  have HRB : Hid (decC limR b = (c', t1)) := Lib.hid (by rw [hc']; exact HRA.out)
  have HK0 : Hid (c'.k ≠ 0) := Lib.hid (by rw [hc']; show c2.k ≠ 0; rw [HKC.out]; decide)
  have HOKB : Hid (nb ≤ 65536 → wEnd t1 = 0 → cmdOk c' → CDecR b c' 0) := Lib.hid (fun h1 h3 h4 => by have := decC_ok (L := limR) (b := b) (by rw [HL.out]; exact h1) (by rw [HRB.out]; exact HK0.out) (by rw [HRB.out]; exact h3) (by rw [HRB.out]; exact h4); rw [HRB.out] at this; exact this)
  have HBAD : Hid (¬ (nb ≤ 65536 ∧ wEnd t1 = 0 ∧ cmdOk c') → CDecR b (zeroC 0) 10) := Lib.hid (fun h => decC_bad limR_ok HBN.out (by rw [HL.out, HRB.out]; exact fun hh => h ⟨hh.1, hh.2.2.1, hh.2.2.2⟩))
  have EN := qend_any C t1 w7 IZ.out.rd
  have CK := rcheck_any c' A2 n2 m2 w7 IZ.out.co.i
  clear hc' HRA I3 HRB
  by_cases hlen : 65536 < nb
  · have PR : Hid (CDecR b (zeroC 0) 10) := Lib.hid (HBAD.out (fun h => by omega))
    have el : (65536 : Int) < (nb : Int) := by omega
    clear HOKB HBAD EN CK hlen
    go_wp2_with (refine wpList_store_row rfl 36 (.tmp 2) (.tmp 146) rfl w.heap.size (cA (zeroC 0) none 0 0) rfl rfl 36 (cA (zeroC 0) none 0 0) IZ.out.rs (info24 _ _ _ _) rfl (all24 _ _ _ _) ?_)
    refine bodyPost_ret (results_row2 rfl _ _ w.heap.size 36 (cA (zeroC 0) none 0 0) (0, 0) _ rfl (setRow_heap _ _ _ _ _ _ IZ.out.rs) Tryz.underlying36 rfl (info24 _ _ _ _) (.int .i64 10) rfl) rfl ?_
    exact ⟨⟨_, _, _, _, _, rfl, PR.out, cmdIn_zero _ 0 in64_0⟩, below_row IZ.out.bl (Nat.le_refl _) _⟩
  have el : ¬ ((65536 : Int) < (nb : Int)) := by omega
  by_cases hw0 : wEnd t1 = 0
  case neg =>
    have PR : Hid (CDecR b (zeroC 0) 10) := Lib.hid (HBAD.out (fun h => hw0 h.2.1))
    have he10 : wEnd t1 = 10 := by unfold wEnd at hw0 ⊢; split at hw0 <;> simp_all
    rw [he10] at EN
    have EN := Lib.hid EN
    clear HOKB HBAD CK hw0 he10
    go_wp2_with (first
      | (go_at_call 58; refine EN.out.mono ?_; rintro e w8 ⟨rfl, rfl⟩)
      | (refine wpList_store_row rfl 36 (.tmp 2) (.tmp 146) rfl w.heap.size (cA (zeroC 0) none 0 0) rfl rfl 36 (cA (zeroC 0) none 0 0) IZ.out.rs (info24 _ _ _ _) rfl (all24 _ _ _ _) ?_))
    refine bodyPost_ret (results_row2 rfl _ _ w.heap.size 36 (cA (zeroC 0) none 0 0) (0, 0) _ rfl (setRow_heap _ _ _ _ _ _ IZ.out.rs) Tryz.underlying36 rfl (info24 _ _ _ _) (.int .i64 10) rfl) rfl ?_
    exact ⟨⟨_, _, _, _, _, rfl, PR.out, cmdIn_zero _ 0 in64_0⟩, below_row IZ.out.bl (Nat.le_refl _) _⟩
  rw [hw0] at EN
  have EN := Lib.hid EN
  by_cases hok : cmdOk c'
  case neg =>
    have PR : Hid (CDecR b (zeroC 0) 10) := Lib.hid (HBAD.out (fun h => hok h.2.2))
    rw [ckC_no hok] at CK
    have CK := Lib.hid CK
    clear HOKB HBAD hw0 hok
    go_wp2_with (first
      | (go_at_call 58; refine EN.out.mono ?_; rintro e w8 ⟨rfl, rfl⟩)
      | (refine wpList_load_rowG (by rfl) 36 (.tmp 5) rfl O rfl 36 (cA c' A2 n2 m2) (0, 0) _ IZ.out.co.w Tryz.underlying36 rfl (info24 _ _ _ _) ?_)
      | (go_at_call 31; refine CK.out.mono ?_; rintro e w9 ⟨rfl, hb9⟩; have I9 := Lib.hid (IZ.out.keep hb9); clear hb9)
      | (refine wpList_store_row rfl 36 (.tmp 2) (.tmp 146) rfl w.heap.size (cA (zeroC 0) none 0 0) rfl rfl 36 (cA (zeroC 0) none 0 0) I9.out.rs (info24 _ _ _ _) rfl (all24 _ _ _ _) ?_))
    refine bodyPost_ret (results_row2 rfl _ _ w.heap.size 36 (cA (zeroC 0) none 0 0) (0, 0) _ rfl (setRow_heap _ _ _ _ _ _ I9.out.rs) Tryz.underlying36 rfl (info24 _ _ _ _) (.int .i64 10) rfl) rfl ?_
    exact ⟨⟨_, _, _, _, _, rfl, PR.out, cmdIn_zero _ 0 in64_0⟩, below_row I9.out.bl (Nat.le_refl _) _⟩
  case pos =>
    have PR : Hid (CDecR b c' 0) := Lib.hid (HOKB.out (by omega) hw0 hok)
    have HOK := Lib.hid hok
    rw [ckC_yes hok] at CK
    have CK := Lib.hid CK
    clear HOKB HBAD hw0 hok
    go_wp2_with (first
      | (go_at_call 58; refine EN.out.mono ?_; rintro e w8 ⟨rfl, rfl⟩)
      | (refine wpList_load_rowG (by rfl) 36 (.tmp 5) rfl O rfl 36 (cA c' A2 n2 m2) (0, 0) _ IZ.out.co.w Tryz.underlying36 rfl (info24 _ _ _ _) ?_)
      | (go_at_call 31; refine CK.out.mono ?_; rintro e w9 ⟨rfl, hb9⟩; have I9 := Lib.hid (IZ.out.keep hb9); clear hb9)
      | (refine wpList_load_row rfl 36 (.tmp 5) rfl O rfl 36 (cA c' A2 n2 m2) (0, 0) _ I9.out.co.w Tryz.underlying36 rfl (info24 _ _ _ _) ?_)
      | (refine wpList_store_row rfl 36 (.tmp 2) (.tmp 147) rfl w.heap.size (cA c' A2 n2 m2) rfl rfl 36 (cA (zeroC 0) none 0 0) I9.out.rs (info24 _ _ _ _) rfl (all24 _ _ _ _) ?_))
    refine bodyPost_ret (results_row2 rfl _ _ w.heap.size 36 (cA c' A2 n2 m2) (0, 0) _ rfl (setRow_heap _ _ _ _ _ _ I9.out.rs) Tryz.underlying36 rfl (info24 _ _ _ _) (.int .i64 0) rfl) rfl ?_
    refine ⟨⟨_, _, _, _, _, rfl, PR.out, ⟨I9.out.co.i.d.grown (setRow_grown _ _ _) (fun a ha hs e => ?_), I9.out.co.i.z⟩⟩, below_row I9.out.bl (Nat.le_refl _) _⟩
    exact hr_ne I9.out.rs I9.out.co.i.d.s ((ok_def HOK.out).resolve_left hs) a ha (Option.some.inj e)

set_option maxRecDepth 100000 in
set_option maxHeartbeats 8000000 in
theorem rdec_11b (Ab : Option Addr) (nb cb : Nat) (b : List UInt8) (w : World) (hb : SlB w Ab nb b) (hn : nb ≤ 1000000000000) (h0 : nb ≠ 0) (hk : (wSm 2147483648 (some b)).1 = 11) (her : (decV (wT (wSm 2147483648 (wSm 2147483648 (wSm 2147483648 (some b)).2).2).2).1).2 = 10) :
    Calls Tryz.prog 15 #[.slice Ab nb cb] w fun e w' => DecCR b w w' e := by
  have B1 := Lib.hid ((Below.refl w.heap.size w).alloc (Nat.le_refl _) (.cells (cA (zeroC 0) none 0 0) 36))
  have R1 := Lib.hid (Whole.new w 36 (cA (zeroC 0) none 0 0))
  have HSZ := Lib.hid (World.size_alloc w (.cells (cA (zeroC 0) none 0 0) 36))
  have RD := Lib.hid (rread_any Ab nb cb b _ (hb.keep B1.out) hn)
  have HL := Lib.hid hb.1
  have HBN : Hid (b ≠ []) := Lib.hid (fun e => h0 (by rw [← hb.1, e]; rfl))
  have e0 : ((nb : Int) == 0) = false := by rw [beq_eq_false_iff_ne]; omega
  obtain ⟨s0, hs0⟩ : ∃ s, s = (wSm 2147483648 (some b)).2 := ⟨_, rfl⟩
  have SMa := fun (C : Nat) (V : World) (h : RdQ V C (some b)) => rsmall_any C (some b) V h
  rw [← hs0] at her
  rw [hk, ← hs0] at SMa
  have SM := Lib.hid SMa
  clear SMa
  have HKS := Lib.hid (And.intro hk hs0)
  have HE0 := Lib.hid her
  clear hb hn h0 hk hs0 her
  go_enter Tryz.func15, Tryz.ntmps15
  go_upto_region 1 with fail
  rw [← zero24 0]
  generalize w.alloc (.cells (cA (zeroC 0) none 0 0) 36) = w1 at B1 R1 HSZ RD ⊢
  go_upto_region 4 with (go_at_call 50; refine RD.out.mono ?_; rintro e w2 ⟨⟨C, rfl, hC, hP⟩, hb⟩; have H2 := Lib.hid (And.intro hC (And.intro hP (And.intro (B1.out.trans (hb.mono B1.out.size)) (R1.out.keep hb)))); clear hC hP hb RD)
  have HC1 : Hid (w.heap.size < C) := Lib.hid (by have := H2.out.1; have := HSZ.out; omega)
  clear B1 R1 HSZ
  go_upto_region 5 with (first
    | (go_at_call 51; refine (SM.out C w2 H2.out.2.1).mono ?_; rintro e w3 ⟨rfl, hP, hg⟩; have H3 := Lib.hid (And.intro hP (And.intro (H2.out.2.2.1.grown hg H2.out.2.2.1.size (fun j e => by cases e; exact Nat.le_of_lt HC1.out)) (H2.out.2.2.2.grown hg (fun e => by have := Option.some.inj e; have := HC1.out; omega)))); clear hP hg SM)
    | (refine wpList_store_row rfl 36 (.tmp 5) (.tmp 18) rfl _ (cA (zeroC 11) none 0 0) rfl rfl 36 _ (heap_alloc_new _ _) (info24 _ _ _ _) rfl (all24 _ _ _ _) ?_; rw [World.setRow_alloc_new]))
  have I0 := Lib.hid (RdI.new 11 ⟨by decide, by decide⟩ H3.out.2.1 H3.out.2.2 H3.out.1 HC1.out)
  clear H2 H3 HC1
  generalize w3.alloc (.cells (cA (zeroC 11) none 0 0) 36) = w4 at I0 ⊢
  generalize w3.heap.size = O at I0 ⊢
  have x0 : w4.cell? ⟨O, 0, none⟩ = some (.int .i64 11) := I0.out.co.w.cell 0
  obtain ⟨v0, hv0⟩ : ∃ v : Int, v = ((wSm 2147483648 s0).1 : Int) := ⟨_, rfl⟩
  obtain ⟨s1, hs1⟩ : ∃ s, s = (wSm 2147483648 s0).2 := ⟨_, rfl⟩
  have Ga0 := rsmall_any C s0 w4 I0.out.rd
  rw [← hv0, ← hs1] at Ga0
  have Z0 : Hid (In64 v0) := Lib.hid (by rw [hv0]; exact in64_nat (Nat.le_trans (wSm_le _ _) (by decide)))
  have G0 := Lib.hid Ga0
  have HV0 := Lib.hid (And.intro hv0 hs1)
  clear Ga0 hv0 hs1
  go_upto_region 26 with (go_at_call 51; refine G0.out.mono ?_; rintro e wa0 ⟨rfl, hP, hg⟩; have J0 := Lib.hid (I0.out.move hg hP); have y1 : wa0.cell? ⟨O, 1, none⟩ = some (.int .i64 0) := J0.out.co.w.cell 1; have f1 : wa0.frozen? ⟨O, 1, none⟩ = false := J0.out.co.w.fr 1; clear hP hg G0)
  have P0_0 := RdI.put (c' := { (zeroC 11) with call := v0 }) (J0.out) 1 (.int .i64 v0) rfl rfl { J0.out.co.i.z with call := Z0.out }
  have I1 := Lib.hid P0_0
  clear P0_0 y1 f1 J0 I0 x0
  generalize (wa0.setCell ⟨O, 1, none⟩ (.int .i64 v0)) = w5 at I1 ⊢
  obtain ⟨v1, hv1⟩ : ∃ v : Int, v = ((wSm 2147483648 s1).1 : Int) := ⟨_, rfl⟩
  obtain ⟨s2, hs2⟩ : ∃ s, s = (wSm 2147483648 s1).2 := ⟨_, rfl⟩
  have Ga1 := rsmall_any C s1 w5 I1.out.rd
  rw [← hv1, ← hs2] at Ga1
  have Z1 : Hid (In64 v1) := Lib.hid (by rw [hv1]; exact in64_nat (Nat.le_trans (wSm_le _ _) (by decide)))
  have G1 := Lib.hid Ga1
  have HV1 := Lib.hid (And.intro hv1 hs2)
  clear Ga1 hv1 hs2
  go_upto_region 27 with (go_at_call 51; refine G1.out.mono ?_; rintro e wa1 ⟨rfl, hP, hg⟩; have J1 := Lib.hid (I1.out.move hg hP); have y2 : wa1.cell? ⟨O, 2, none⟩ = some (.int .i64 0) := J1.out.co.w.cell 2; have f2 : wa1.frozen? ⟨O, 2, none⟩ = false := J1.out.co.w.fr 2; clear hP hg G1)
  have P1_0 := RdI.put (c' := { { (zeroC 11) with call := v0 } with saga := v1 }) (J1.out) 2 (.int .i64 v1) rfl rfl { J1.out.co.i.z with saga := Z1.out }
  have I2 := Lib.hid P1_0
  clear P1_0 y2 f2 J1 I1
  generalize (wa1.setCell ⟨O, 2, none⟩ (.int .i64 v1)) = w6 at I2 ⊢
  have HP2 : Hid (rdA limR [.call, .saga] (zeroC 11) s0 = ({ { (zeroC 11) with call := v0 } with saga := v1 }, s2)) := Lib.hid (by rw [HV1.out.1, HV1.out.2, HV0.out.1, HV0.out.2]; rfl)
  obtain ⟨c2, hc2⟩ : ∃ c2 : Cv, c2 = { { (zeroC 11) with call := v0 } with saga := v1 } := ⟨_, rfl⟩
  rw [← hc2] at HP2 I2
  clear hc2
  obtain ⟨s, hs⟩ : ∃ s : ByteArray, s = ⟨(wT s2).1.toArray⟩ := ⟨_, rfl⟩
  have hsl : s.data.toList = (wT s2).1 := by rw [hs]
  have hsz : s.size ≤ 65536 := by rw [hs, Lib.size_mk]; exact wT_len s2
  obtain ⟨t1, ht1⟩ : ∃ x, x = (wT s2).2 := ⟨_, rfl⟩
  have HR : Hid (∀ d er, DecR s.data.toList d er → rdF limR .defn c2 s2 = ({ c2 with d := d }, if er = 0 then t1 else none)) := Lib.hid (fun d er h => by
    rw [hsl] at h
    have h2 := decV_of h
    show (({ c2 with d := (decV (wT s2).1).1 } : Cv), if (decV (wT s2).1).2 = 0 then (wT s2).2 else none) = _
    rw [h2, ht1])
  have HE : Hid (∀ d er, DecR s.data.toList d er → er = 10) := Lib.hid (fun d er h => by
    have h2 := decV_of h
    have h3 := HE0.out
    rw [← HV0.out.2, ← HV1.out.2, ← hsl, h2] at h3
    exact h3)
  have T1a := qtext_any C s2 w6 I2.out.rd
  rw [← hs, ← ht1] at T1a
  have T1 := Lib.hid T1a
  have hcv := conv_str s
  have DC := Lib.hid (fun (V : World) (k : Nat) => refDecode_new (some ⟨V.heap.size, 0, none⟩) s.size k s.data.toList (Lib.bytesWorld V 5 s) (slB_conv s V) (by omega))
  have HBW := Lib.hid (fun (V : World) => below_conv s V)
  clear T1a hs hsl hsz ht1 HE0
  unfold DecodeN dV at DC
  go_upto_region 28 with (first
    | (go_at_call 53; refine T1.out.mono ?_; rintro e wa ⟨rfl, hP, hg⟩; have J0 := Lib.hid (I2.out.move hg hP); clear hP hg T1)
    | (go_at_call 56; refine (DC.out wa _).mono ?_; rintro e wb ⟨⟨d, A2, n2, m2, er, rfl, hdr, hda, hA2⟩, hb⟩; obtain rfl := HE.out d er hdr; have HDR := Lib.hid hdr; have ba := (Below.refl wb.heap.size wb).alloc (Nat.le_refl _) (.cells #[.string d.n, .int .i64 d.r, .int .i64 d.dl, .slice A2 n2 m2] 31); have HDA := Lib.hid (And.intro (hda.keep ba) (fun (a : Addr) (ha : A2 = some a) => (show O < a.block from Nat.lt_of_lt_of_le J0.out.co.lt (Nat.le_trans (HBW.out wa).size (hA2 a ha))))); have J1 := Lib.hid (((J0.out.keep (HBW.out wa)).keep hb).keep ba); have HX := Lib.hid (((J0.out.keep (HBW.out wa)).keep hb).rd.lt); have N1 := Lib.hid (Whole.new wb 31 #[.string d.n, .int .i64 d.r, .int .i64 d.dl, .slice A2 n2 m2]); clear hdr hda hA2 hb ba J0 DC))
  clear I2 hcv HBW HE
  generalize wb.alloc (.cells #[.string d.n, .int .i64 d.r, .int .i64 d.dl, .slice A2 n2 m2] 31) = wc0 at J1 N1 HDA ⊢
  generalize wb.heap.size = X at N1 HX ⊢
  have FA := Lib.hid (qfail_any C t1 wc0 J1.out.rd)
  go_upto_region 30 with (go_at_call 52; refine FA.out.mono ?_; rintro e wd0 ⟨rfl, hP, hg⟩; have J2 := Lib.hid (J1.out.move hg hP); have N2 := Lib.hid (N1.out.grown hg (fun e => by have := Option.some.inj e; have := HX.out; omega)); have HD2 := Lib.hid (And.intro (HDA.out.1.grown hg (fun a ha _ e => by have h1 := HDA.out.2 a ha; have h2 := J1.out.o2; have h3 := Option.some.inj e; omega)) HDA.out.2); clear hP hg FA)
  obtain ⟨⟨y0, y1, y2, y3⟩, _⟩ := whole4 N2.out
  have f0 := J2.out.co.w.fr 12
  have x0 := J2.out.co.w.cell 12
  have f1 := J2.out.co.w.fr 13
  have x1 := J2.out.co.w.cell 13
  have f2 := J2.out.co.w.fr 14
  have x2 := J2.out.co.w.cell 14
  have f3 := J2.out.co.w.fr 15
  have x3 := J2.out.co.w.cell 15
  have HF := Lib.hid (put_def J2.out.co d A2 n2 m2 HD2.out.1 (fun a ha => Nat.ne_of_gt (HD2.out.2 a ha)))
  have I3 := Lib.hid (RdI.turn J2.out HF.out.2 HF.out.1)
  obtain ⟨g0, hg0⟩ : ∃ g0, (cA c2 none 0 0)[12]? = some g0 := ⟨_, rfl⟩
  obtain ⟨g1, hg1⟩ : ∃ g1, (cA c2 none 0 0)[13]? = some g1 := ⟨_, rfl⟩
  obtain ⟨g2, hg2⟩ : ∃ g2, (cA c2 none 0 0)[14]? = some g2 := ⟨_, rfl⟩
  obtain ⟨g3, hg3⟩ : ∃ g3, (cA c2 none 0 0)[15]? = some g3 := ⟨_, rfl⟩
  rw [hg0] at x0
  rw [hg1] at x1
  rw [hg2] at x2
  rw [hg3] at x3
  clear hg0 hg1 hg2 hg3
  go_upto_region 46 with fail
  clear HF y0 y1 y2 y3 x0 x1 x2 x3 f0 f1 f2 f3
  generalize ((((wd0.setCell ⟨O, 12, none⟩ (.string d.n)).setCell ⟨O, 13, none⟩ (.int .i64 d.r)).setCell ⟨O, 14, none⟩ (.int .i64 d.dl)).setCell ⟨O, 15, none⟩ (.slice A2 n2 m2)) = w7 at I3 ⊢
  have HRA : Hid (decC limR b = ({ c2 with d := d }, none)) := Lib.hid (by have h := HR.out d 10 HDR.out; rw [if_neg (by decide)] at h; show rdA limR ((fieldsK ((wSm 2147483648 (some b)).1 : Nat)).getD []) (zeroC ((wSm 2147483648 (some b)).1 : Nat)) (wSm 2147483648 (some b)).2 = _; rw [HKS.out.1, ← HKS.out.2]; show rdF limR .defn (rdA limR [.call, .saga] (zeroC 11) s0).1 (rdA limR [.call, .saga] (zeroC 11) s0).2 = _; rw [HP2.out]; exact h)
  have HKC : Hid (c2.k = 11) := Lib.hid (by have h := rdA_k limR [.call, .saga] (zeroC 11) s0; rw [HP2.out] at h; exact h)
  obtain ⟨c', hc'⟩ : ∃ c' : Cv, c' = ({ c2 with d := d }) := ⟨_, rfl⟩
  have IZ := Lib.hid (show RdI w C O c' none A2 n2 m2 w7 from by rw [hc']; exact I3.out)
  have HRB : Hid (decC limR b = (c', none)) := Lib.hid (by rw [hc']; exact HRA.out)
  have HK0 : Hid (c'.k ≠ 0) := Lib.hid (by rw [hc']; show c2.k ≠ 0; rw [HKC.out]; decide)
  have HOKB : Hid (nb ≤ 65536 → wEnd none = 0 → cmdOk c' → CDecR b c' 0) := Lib.hid (fun h1 h3 h4 => by have := decC_ok (L := limR) (b := b) (by rw [HL.out]; exact h1) (by rw [HRB.out]; exact HK0.out) (by rw [HRB.out]; exact h3) (by rw [HRB.out]; exact h4); rw [HRB.out] at this; exact this)
  have HBAD : Hid (¬ (nb ≤ 65536 ∧ wEnd none = 0 ∧ cmdOk c') → CDecR b (zeroC 0) 10) := Lib.hid (fun h => decC_bad limR_ok HBN.out (by rw [HL.out, HRB.out]; exact fun hh => h ⟨hh.1, hh.2.2.1, hh.2.2.2⟩))
  have EN := qend_any C none w7 IZ.out.rd
  have CK := rcheck_any c' A2 n2 m2 w7 IZ.out.co.i
  clear hc' HRA I3 HRB
  by_cases hlen : 65536 < nb
  · have PR : Hid (CDecR b (zeroC 0) 10) := Lib.hid (HBAD.out (fun h => by omega))
    have el : (65536 : Int) < (nb : Int) := by omega
    clear HOKB HBAD EN CK hlen
    go_wp2_with (refine wpList_store_row rfl 36 (.tmp 2) (.tmp 146) rfl w.heap.size (cA (zeroC 0) none 0 0) rfl rfl 36 (cA (zeroC 0) none 0 0) IZ.out.rs (info24 _ _ _ _) rfl (all24 _ _ _ _) ?_)
    refine bodyPost_ret (results_row2 rfl _ _ w.heap.size 36 (cA (zeroC 0) none 0 0) (0, 0) _ rfl (setRow_heap _ _ _ _ _ _ IZ.out.rs) Tryz.underlying36 rfl (info24 _ _ _ _) (.int .i64 10) rfl) rfl ?_
    exact ⟨⟨_, _, _, _, _, rfl, PR.out, cmdIn_zero _ 0 in64_0⟩, below_row IZ.out.bl (Nat.le_refl _) _⟩
  have el : ¬ ((65536 : Int) < (nb : Int)) := by omega
  by_cases hw0 : wEnd none = 0
  case neg =>
    have PR : Hid (CDecR b (zeroC 0) 10) := Lib.hid (HBAD.out (fun h => hw0 h.2.1))
    have he10 : wEnd none = 10 := by unfold wEnd at hw0 ⊢; split at hw0 <;> simp_all
    rw [he10] at EN
    have EN := Lib.hid EN
    clear HOKB HBAD CK hw0 he10
    go_wp2_with (first
      | (go_at_call 58; refine EN.out.mono ?_; rintro e w8 ⟨rfl, rfl⟩)
      | (refine wpList_store_row rfl 36 (.tmp 2) (.tmp 146) rfl w.heap.size (cA (zeroC 0) none 0 0) rfl rfl 36 (cA (zeroC 0) none 0 0) IZ.out.rs (info24 _ _ _ _) rfl (all24 _ _ _ _) ?_))
    refine bodyPost_ret (results_row2 rfl _ _ w.heap.size 36 (cA (zeroC 0) none 0 0) (0, 0) _ rfl (setRow_heap _ _ _ _ _ _ IZ.out.rs) Tryz.underlying36 rfl (info24 _ _ _ _) (.int .i64 10) rfl) rfl ?_
    exact ⟨⟨_, _, _, _, _, rfl, PR.out, cmdIn_zero _ 0 in64_0⟩, below_row IZ.out.bl (Nat.le_refl _) _⟩
  rw [hw0] at EN
  have EN := Lib.hid EN
  by_cases hok : cmdOk c'
  case neg =>
    have PR : Hid (CDecR b (zeroC 0) 10) := Lib.hid (HBAD.out (fun h => hok h.2.2))
    rw [ckC_no hok] at CK
    have CK := Lib.hid CK
    clear HOKB HBAD hw0 hok
    go_wp2_with (first
      | (go_at_call 58; refine EN.out.mono ?_; rintro e w8 ⟨rfl, rfl⟩)
      | (refine wpList_load_rowG (by rfl) 36 (.tmp 5) rfl O rfl 36 (cA c' A2 n2 m2) (0, 0) _ IZ.out.co.w Tryz.underlying36 rfl (info24 _ _ _ _) ?_)
      | (go_at_call 31; refine CK.out.mono ?_; rintro e w9 ⟨rfl, hb9⟩; have I9 := Lib.hid (IZ.out.keep hb9); clear hb9)
      | (refine wpList_store_row rfl 36 (.tmp 2) (.tmp 146) rfl w.heap.size (cA (zeroC 0) none 0 0) rfl rfl 36 (cA (zeroC 0) none 0 0) I9.out.rs (info24 _ _ _ _) rfl (all24 _ _ _ _) ?_))
    refine bodyPost_ret (results_row2 rfl _ _ w.heap.size 36 (cA (zeroC 0) none 0 0) (0, 0) _ rfl (setRow_heap _ _ _ _ _ _ I9.out.rs) Tryz.underlying36 rfl (info24 _ _ _ _) (.int .i64 10) rfl) rfl ?_
    exact ⟨⟨_, _, _, _, _, rfl, PR.out, cmdIn_zero _ 0 in64_0⟩, below_row I9.out.bl (Nat.le_refl _) _⟩
  case pos =>
    have PR : Hid (CDecR b c' 0) := Lib.hid (HOKB.out (by omega) hw0 hok)
    have HOK := Lib.hid hok
    rw [ckC_yes hok] at CK
    have CK := Lib.hid CK
    clear HOKB HBAD hw0 hok
    go_wp2_with (first
      | (go_at_call 58; refine EN.out.mono ?_; rintro e w8 ⟨rfl, rfl⟩)
      | (refine wpList_load_rowG (by rfl) 36 (.tmp 5) rfl O rfl 36 (cA c' A2 n2 m2) (0, 0) _ IZ.out.co.w Tryz.underlying36 rfl (info24 _ _ _ _) ?_)
      | (go_at_call 31; refine CK.out.mono ?_; rintro e w9 ⟨rfl, hb9⟩; have I9 := Lib.hid (IZ.out.keep hb9); clear hb9)
      | (refine wpList_load_row rfl 36 (.tmp 5) rfl O rfl 36 (cA c' A2 n2 m2) (0, 0) _ I9.out.co.w Tryz.underlying36 rfl (info24 _ _ _ _) ?_)
      | (refine wpList_store_row rfl 36 (.tmp 2) (.tmp 147) rfl w.heap.size (cA c' A2 n2 m2) rfl rfl 36 (cA (zeroC 0) none 0 0) I9.out.rs (info24 _ _ _ _) rfl (all24 _ _ _ _) ?_))
    refine bodyPost_ret (results_row2 rfl _ _ w.heap.size 36 (cA c' A2 n2 m2) (0, 0) _ rfl (setRow_heap _ _ _ _ _ _ I9.out.rs) Tryz.underlying36 rfl (info24 _ _ _ _) (.int .i64 0) rfl) rfl ?_
    refine ⟨⟨_, _, _, _, _, rfl, PR.out, ⟨I9.out.co.i.d.grown (setRow_grown _ _ _) (fun a ha hs e => ?_), I9.out.co.i.z⟩⟩, below_row I9.out.bl (Nat.le_refl _) _⟩
    exact hr_ne I9.out.rs I9.out.co.i.d.s ((ok_def HOK.out).resolve_left hs) a ha (Option.some.inj e)

/-- A command read from bytes, by the reference. -/
theorem rdecode_any (Ab : Option Addr) (nb cb : Nat) (b : List UInt8) (w : World) (hb : SlB w Ab nb b) (hn : nb ≤ 1000000000000) :
    Calls Tryz.prog 15 #[.slice Ab nb cb] w fun e w' => DecCR b w w' e := by
  by_cases h0 : nb = 0
  · subst h0
    rw [show b = [] from List.eq_nil_of_length_eq_zero hb.1]
    exact rdec_nil Ab cb w
  obtain ⟨k, hk⟩ : ∃ k, (wSm 2147483648 (some b)).1 = k := ⟨_, rfl⟩
  by_cases g0 : k = 0
  · exact rdec_0 Ab nb cb b w hb hn h0 (hk.trans g0)
  by_cases g1 : k = 1
  · exact rdec_1 Ab nb cb b w hb hn h0 (hk.trans g1)
  by_cases g2 : k = 2
  · exact rdec_2 Ab nb cb b w hb hn h0 (hk.trans g2)
  by_cases g3 : k = 3
  · exact rdec_3 Ab nb cb b w hb hn h0 (hk.trans g3)
  by_cases g4 : k = 4
  · exact rdec_4 Ab nb cb b w hb hn h0 (hk.trans g4)
  by_cases g12 : k = 12
  · exact rdec_12 Ab nb cb b w hb hn h0 (hk.trans g12)
  by_cases g13 : k = 13
  · exact rdec_13 Ab nb cb b w hb hn h0 (hk.trans g13)
  by_cases g14 : k = 14
  · exact rdec_14 Ab nb cb b w hb hn h0 (hk.trans g14)
  by_cases h11 : k = 11
  · rcases decV_rel (wT (wSm 2147483648 (wSm 2147483648 (wSm 2147483648 (some b)).2).2).2).1 with ⟨h, _⟩ | ⟨h, _⟩
    · exact rdec_11a Ab nb cb b w hb hn h0 (hk.trans h11) h
    · exact rdec_11b Ab nb cb b w hb hn h0 (hk.trans h11) h
  by_cases h15 : k = 15
  · have hf : (fromN ((wSm 2147483648 (wSm 2147483648 (some b)).2).1 : Int)).2 = 0 ∨ (fromN ((wSm 2147483648 (wSm 2147483648 (some b)).2).1 : Int)).2 = 3 := by unfold fromN; split <;> simp
    rcases hf with h | h
    · exact rdec_15a Ab nb cb b w hb hn h0 (hk.trans h15) h
    · exact rdec_15b Ab nb cb b w hb hn h0 (hk.trans h15) h
  refine rdec_n Ab nb cb b w hb hn h0 (k : Int) (by rw [hk]) ?_
  unfold fieldsK
  rw [if_neg (by omega), if_neg (by omega), if_neg (by omega), if_neg (by omega), if_neg (by omega), if_neg (by omega), if_neg (by omega), if_neg (by omega), if_neg (by omega), if_neg (by omega)]

end Go.Proofs.YtgjnmfmbheejoaaGreatDoor
