/- A command read from bytes, by the reference. Condition: the bytes are no longer than an int can say. -/
import Derived.Test.YtgjnmfmbheejoaaGreatDoorCmRk
namespace Go.Proofs.YtgjnmfmbheejoaaGreatDoor
open Go.RowKit Go.Shelf

set_option maxRecDepth 100000 in
set_option maxHeartbeats 8000000 in
theorem rdec_0 (Ab : Option Addr) (nb cb : Nat) (b : List UInt8) (w : World) (hb : SlB w Ab nb b) (hn : nb ≤ 1000000000000) (h0 : nb ≠ 0) (hk : (wSm 2147483648 (some b)).1 = 0) :
    Calls Tryz.prog 15 #[.slice Ab nb cb] w fun e w' => DecCR b w w' e := by
  have B1 := Lib.hid ((Below.refl w.heap.size w).alloc (Nat.le_refl _) (.cells (cA (zeroC 0) none 0 0) 36))
  have R1 := Lib.hid (Whole.new w 36 (cA (zeroC 0) none 0 0))
  have HSZ := Lib.hid (World.size_alloc w (.cells (cA (zeroC 0) none 0 0) 36))
  have RD := Lib.hid (rread_any Ab nb cb b _ (hb.keep B1.out) hn)
  have HL := Lib.hid hb.1
  have HBN : Hid (b ≠ []) := Lib.hid (fun e => h0 (by rw [← hb.1, e]; rfl))
  have e0 : ((nb : Int) == 0) = false := by rw [beq_eq_false_iff_ne]; omega
  obtain ⟨s0, hs0⟩ : ∃ s, s = (wSm 2147483648 (some b)).2 := ⟨_, rfl⟩
  have SMa := fun (C : Nat) (V : World) (h : RdQ V C (some b)) => rsmall_any C (some b) V h
  rw [hk, ← hs0] at SMa
  have SM := Lib.hid SMa
  clear SMa
  have HKS := Lib.hid (And.intro hk hs0)
  clear hb hn h0 hk hs0
  go_enter Tryz.func15, Tryz.ntmps15
  go_upto_region 1 with fail
  rw [← zero24 0]
  generalize w.alloc (.cells (cA (zeroC 0) none 0 0) 36) = w1 at B1 R1 HSZ RD ⊢
  go_upto_region 4 with (go_at_call 50; refine RD.out.mono ?_; rintro e w2 ⟨⟨C, rfl, hC, hP⟩, hb⟩; have H2 := Lib.hid (And.intro hC (And.intro hP (And.intro (B1.out.trans (hb.mono B1.out.size)) (R1.out.keep hb)))); clear hC hP hb RD)
  have HC1 : Hid (w.heap.size < C) := Lib.hid (by have := H2.out.1; have := HSZ.out; omega)
  clear B1 R1 HSZ
  go_upto_region 5 with (first
    | (go_at_call 51; refine (SM.out C w2 H2.out.2.1).mono ?_; rintro e w3 ⟨rfl, hP, hg⟩; have H3 := Lib.hid (And.intro hP (And.intro (H2.out.2.2.1.grown hg H2.out.2.2.1.size (fun j e => by cases e; exact Nat.le_of_lt HC1.out)) (H2.out.2.2.2.grown hg (fun e => by have := Option.some.inj e; have := HC1.out; omega)))); clear hP hg SM)
    | (refine wpList_store_row rfl 36 (.tmp 5) (.tmp 18) rfl _ (cA (zeroC 0) none 0 0) rfl rfl 36 _ (heap_alloc_new _ _) (info24 _ _ _ _) rfl (all24 _ _ _ _) ?_; rw [World.setRow_alloc_new]))
  have I0 := Lib.hid (RdI.new 0 ⟨by decide, by decide⟩ H3.out.2.1 H3.out.2.2 H3.out.1 HC1.out)
  clear H2 H3 HC1
  generalize w3.alloc (.cells (cA (zeroC 0) none 0 0) 36) = w4 at I0 ⊢
  generalize w3.heap.size = O at I0 ⊢
  have x0 : w4.cell? ⟨O, 0, none⟩ = some (.int .i64 0) := I0.out.co.w.cell 0
  have FL := Lib.hid (qfail_any C s0 w4 I0.out.rd)
  go_upto_region 46 with (go_at_call 52; refine FL.out.mono ?_; rintro e w5 ⟨rfl, hP, hg⟩; have IZ := Lib.hid (I0.out.move hg hP); clear hP hg FL)
  have HBAD : Hid (CDecR b (zeroC 0) 10) := Lib.hid (decC_bad limR_ok HBN.out (fun hh => hh.2.1 (by show ((rdA limR ((fieldsK ((wSm 2147483648 (some b)).1 : Nat)).getD []) (zeroC ((wSm 2147483648 (some b)).1 : Nat)) (wSm 2147483648 (some b)).2).1).k = 0; rw [HKS.out.1]; rfl)))
  have EN := Lib.hid (show Calls Tryz.prog 58 #[.pointer (some ⟨C, 0, none⟩)] w5 fun e w' => e = .returned (.int .i64 10) ∧ w5 = w' from qend_any C none w5 IZ.out.rd)
  clear x0 I0
  by_cases hlen : 65536 < nb
  · have PR : Hid (CDecR b (zeroC 0) 10) := Lib.hid HBAD.out
    have el : (65536 : Int) < (nb : Int) := by omega
    clear HBAD EN hlen
    go_wp2_with (refine wpList_store_row rfl 36 (.tmp 2) (.tmp 146) rfl w.heap.size (cA (zeroC 0) none 0 0) rfl rfl 36 (cA (zeroC 0) none 0 0) IZ.out.rs (info24 _ _ _ _) rfl (all24 _ _ _ _) ?_)
    refine bodyPost_ret (results_row2 rfl _ _ w.heap.size 36 (cA (zeroC 0) none 0 0) (0, 0) _ rfl (setRow_heap _ _ _ _ _ _ IZ.out.rs) Tryz.underlying36 rfl (info24 _ _ _ _) (.int .i64 10) rfl) rfl ?_
    exact ⟨⟨_, _, _, _, _, rfl, PR.out, cmdIn_zero _ 0 in64_0⟩, below_row IZ.out.bl (Nat.le_refl _) _⟩
  have el : ¬ ((65536 : Int) < (nb : Int)) := by omega
  have PR : Hid (CDecR b (zeroC 0) 10) := Lib.hid HBAD.out
  clear HBAD
  go_wp2_with (first
    | (go_at_call 58; refine EN.out.mono ?_; rintro e w8 ⟨rfl, rfl⟩)
    | (refine wpList_store_row rfl 36 (.tmp 2) (.tmp 146) rfl w.heap.size (cA (zeroC 0) none 0 0) rfl rfl 36 (cA (zeroC 0) none 0 0) IZ.out.rs (info24 _ _ _ _) rfl (all24 _ _ _ _) ?_))
  refine bodyPost_ret (results_row2 rfl _ _ w.heap.size 36 (cA (zeroC 0) none 0 0) (0, 0) _ rfl (setRow_heap _ _ _ _ _ _ IZ.out.rs) Tryz.underlying36 rfl (info24 _ _ _ _) (.int .i64 10) rfl) rfl ?_
  exact ⟨⟨_, _, _, _, _, rfl, PR.out, cmdIn_zero _ 0 in64_0⟩, below_row IZ.out.bl (Nat.le_refl _) _⟩

set_option maxRecDepth 100000 in
set_option maxHeartbeats 8000000 in
theorem rdec_n (Ab : Option Addr) (nb cb : Nat) (b : List UInt8) (w : World) (hb : SlB w Ab nb b) (hn : nb ≤ 1000000000000) (h0 : nb ≠ 0) (z : Int) (hk : ((wSm 2147483648 (some b)).1 : Int) = z) (hf : fieldsK z = none) :
    Calls Tryz.prog 15 #[.slice Ab nb cb] w fun e w' => DecCR b w w' e := by
  have B1 := Lib.hid ((Below.refl w.heap.size w).alloc (Nat.le_refl _) (.cells (cA (zeroC 0) none 0 0) 36))
  have R1 := Lib.hid (Whole.new w 36 (cA (zeroC 0) none 0 0))
  have HSZ := Lib.hid (World.size_alloc w (.cells (cA (zeroC 0) none 0 0) 36))
  have RD := Lib.hid (rread_any Ab nb cb b _ (hb.keep B1.out) hn)
  have HL := Lib.hid hb.1
  have HBN : Hid (b ≠ []) := Lib.hid (fun e => h0 (by rw [← hb.1, e]; rfl))
  have e0 : ((nb : Int) == 0) = false := by rw [beq_eq_false_iff_ne]; omega
  obtain ⟨s0, hs0⟩ : ∃ s, s = (wSm 2147483648 (some b)).2 := ⟨_, rfl⟩
  have SMa := fun (C : Nat) (V : World) (h : RdQ V C (some b)) => rsmall_any C (some b) V h
  rw [hk, ← hs0] at SMa
  have SM := Lib.hid SMa
  clear SMa
  have HKS := Lib.hid (And.intro hk hs0)
  have HZ : Hid (In64 z) := Lib.hid (by rw [← hk]; exact in64_nat (Nat.le_trans (wSm_le _ _) (by decide)))
  have HF := Lib.hid hf
  have n0 : (z == 0) = false := beq_eq_false_iff_ne.2 (fun e => by rw [e] at hf; exact absurd hf (by decide))
  have n1 : (z == 1) = false := beq_eq_false_iff_ne.2 (fun e => by rw [e] at hf; exact absurd hf (by decide))
  have n2 : (z == 2) = false := beq_eq_false_iff_ne.2 (fun e => by rw [e] at hf; exact absurd hf (by decide))
  have n3 : (z == 3) = false := beq_eq_false_iff_ne.2 (fun e => by rw [e] at hf; exact absurd hf (by decide))
  have n4 : (z == 4) = false := beq_eq_false_iff_ne.2 (fun e => by rw [e] at hf; exact absurd hf (by decide))
  have n11 : (z == 11) = false := beq_eq_false_iff_ne.2 (fun e => by rw [e] at hf; exact absurd hf (by decide))
  have n12 : (z == 12) = false := beq_eq_false_iff_ne.2 (fun e => by rw [e] at hf; exact absurd hf (by decide))
  have n13 : (z == 13) = false := beq_eq_false_iff_ne.2 (fun e => by rw [e] at hf; exact absurd hf (by decide))
  have n14 : (z == 14) = false := beq_eq_false_iff_ne.2 (fun e => by rw [e] at hf; exact absurd hf (by decide))
  have n15 : (z == 15) = false := beq_eq_false_iff_ne.2 (fun e => by rw [e] at hf; exact absurd hf (by decide))
  clear hb hn h0 hk hs0 hf
  go_enter Tryz.func15, Tryz.ntmps15
  go_upto_region 1 with fail
  rw [← zero24 0]
  generalize w.alloc (.cells (cA (zeroC 0) none 0 0) 36) = w1 at B1 R1 HSZ RD ⊢
  go_upto_region 4 with (go_at_call 50; refine RD.out.mono ?_; rintro e w2 ⟨⟨C, rfl, hC, hP⟩, hb⟩; have H2 := Lib.hid (And.intro hC (And.intro hP (And.intro (B1.out.trans (hb.mono B1.out.size)) (R1.out.keep hb)))); clear hC hP hb RD)
  have HC1 : Hid (w.heap.size < C) := Lib.hid (by have := H2.out.1; have := HSZ.out; omega)
  clear B1 R1 HSZ
  go_upto_region 5 with (first
    | (go_at_call 51; refine (SM.out C w2 H2.out.2.1).mono ?_; rintro e w3 ⟨rfl, hP, hg⟩; have H3 := Lib.hid (And.intro hP (And.intro (H2.out.2.2.1.grown hg H2.out.2.2.1.size (fun j e => by cases e; exact Nat.le_of_lt HC1.out)) (H2.out.2.2.2.grown hg (fun e => by have := Option.some.inj e; have := HC1.out; omega)))); clear hP hg SM)
    | (refine wpList_store_row rfl 36 (.tmp 5) (.tmp 18) rfl _ (cA (zeroC z) none 0 0) rfl rfl 36 _ (heap_alloc_new _ _) (info24 _ _ _ _) rfl (all24 _ _ _ _) ?_; rw [World.setRow_alloc_new]))
  have I0 := Lib.hid (RdI.new z HZ.out H3.out.2.1 H3.out.2.2 H3.out.1 HC1.out)
  clear H2 H3 HC1
  generalize w3.alloc (.cells (cA (zeroC z) none 0 0) 36) = w4 at I0 ⊢
  generalize w3.heap.size = O at I0 ⊢
  have x0 : w4.cell? ⟨O, 0, none⟩ = some (.int .i64 z) := I0.out.co.w.cell 0
  have HN0 : Hid (z ≠ 0) := Lib.hid (beq_eq_false_iff_ne.1 n0)
  go_upto_region 46 with fail
  clear x0
  have HRA : Hid (decC limR b = (zeroC z, s0)) := Lib.hid (by rw [HKS.out.2]; show rdA limR ((fieldsK ((wSm 2147483648 (some b)).1 : Nat)).getD []) (zeroC ((wSm 2147483648 (some b)).1 : Nat)) (wSm 2147483648 (some b)).2 = _; rw [HKS.out.1, HF.out]; rfl)
  obtain ⟨c', hc'⟩ : ∃ c' : Cv, c' = (zeroC z) := ⟨_, rfl⟩
  have IZ := Lib.hid (show RdI w C O c' s0 none 0 0 w4 from by rw [hc']; exact I0.out)
  have HRB : Hid (decC limR b = (c', s0)) := Lib.hid (by rw [hc']; exact HRA.out)
  have HK0 : Hid (c'.k ≠ 0) := Lib.hid (by rw [hc']; exact HN0.out)
  have HOKB : Hid (nb ≤ 65536 → wEnd s0 = 0 → cmdOk c' → CDecR b c' 0) := Lib.hid (fun h1 h3 h4 => by have := decC_ok (L := limR) (b := b) (by rw [HL.out]; exact h1) (by rw [HRB.out]; exact HK0.out) (by rw [HRB.out]; exact h3) (by rw [HRB.out]; exact h4); rw [HRB.out] at this; exact this)
  have HBAD : Hid (¬ (nb ≤ 65536 ∧ wEnd s0 = 0 ∧ cmdOk c') → CDecR b (zeroC 0) 10) := Lib.hid (fun h => decC_bad limR_ok HBN.out (by rw [HL.out, HRB.out]; exact fun hh => h ⟨hh.1, hh.2.2.1, hh.2.2.2⟩))
  have EN := qend_any C s0 w4 IZ.out.rd
  have CK := rcheck_any c' none 0 0 w4 IZ.out.co.i
  clear hc' HRA I0 HRB
  by_cases hlen : 65536 < nb
  · have PR : Hid (CDecR b (zeroC 0) 10) := Lib.hid (HBAD.out (fun h => by omega))
    have el : (65536 : Int) < (nb : Int) := by omega
    clear HOKB HBAD EN CK hlen
    go_wp2_with (refine wpList_store_row rfl 36 (.tmp 2) (.tmp 146) rfl w.heap.size (cA (zeroC 0) none 0 0) rfl rfl 36 (cA (zeroC 0) none 0 0) IZ.out.rs (info24 _ _ _ _) rfl (all24 _ _ _ _) ?_)
    refine bodyPost_ret (results_row2 rfl _ _ w.heap.size 36 (cA (zeroC 0) none 0 0) (0, 0) _ rfl (setRow_heap _ _ _ _ _ _ IZ.out.rs) Tryz.underlying36 rfl (info24 _ _ _ _) (.int .i64 10) rfl) rfl ?_
    exact ⟨⟨_, _, _, _, _, rfl, PR.out, cmdIn_zero _ 0 in64_0⟩, below_row IZ.out.bl (Nat.le_refl _) _⟩
  have el : ¬ ((65536 : Int) < (nb : Int)) := by omega
  by_cases hw0 : wEnd s0 = 0
  case neg =>
    have PR : Hid (CDecR b (zeroC 0) 10) := Lib.hid (HBAD.out (fun h => hw0 h.2.1))
    have he10 : wEnd s0 = 10 := by unfold wEnd at hw0 ⊢; split at hw0 <;> simp_all
    rw [he10] at EN
    have EN := Lib.hid EN
    clear HOKB HBAD CK hw0 he10
    go_wp2_with (first
      | (go_at_call 58; refine EN.out.mono ?_; rintro e w8 ⟨rfl, rfl⟩)
      | (refine wpList_store_row rfl 36 (.tmp 2) (.tmp 146) rfl w.heap.size (cA (zeroC 0) none 0 0) rfl rfl 36 (cA (zeroC 0) none 0 0) IZ.out.rs (info24 _ _ _ _) rfl (all24 _ _ _ _) ?_))
    refine bodyPost_ret (results_row2 rfl _ _ w.heap.size 36 (cA (zeroC 0) none 0 0) (0, 0) _ rfl (setRow_heap _ _ _ _ _ _ IZ.out.rs) Tryz.underlying36 rfl (info24 _ _ _ _) (.int .i64 10) rfl) rfl ?_
    exact ⟨⟨_, _, _, _, _, rfl, PR.out, cmdIn_zero _ 0 in64_0⟩, below_row IZ.out.bl (Nat.le_refl _) _⟩
  rw [hw0] at EN
  have EN := Lib.hid EN
  by_cases hok : cmdOk c'
  case neg =>
    have PR : Hid (CDecR b (zeroC 0) 10) := Lib.hid (HBAD.out (fun h => hok h.2.2))
    rw [ckC_no hok] at CK
    have CK := Lib.hid CK
    clear HOKB HBAD hw0 hok
    go_wp2_with (first
      | (go_at_call 58; refine EN.out.mono ?_; rintro e w8 ⟨rfl, rfl⟩)
      | (refine wpList_load_rowG (by rfl) 36 (.tmp 5) rfl O rfl 36 (cA c' none 0 0) (0, 0) _ IZ.out.co.w Tryz.underlying36 rfl (info24 _ _ _ _) ?_)
      | (go_at_call 31; refine CK.out.mono ?_; rintro e w9 ⟨rfl, hb9⟩; have I9 := Lib.hid (IZ.out.keep hb9); clear hb9)
      | (refine wpList_store_row rfl 36 (.tmp 2) (.tmp 146) rfl w.heap.size (cA (zeroC 0) none 0 0) rfl rfl 36 (cA (zeroC 0) none 0 0) I9.out.rs (info24 _ _ _ _) rfl (all24 _ _ _ _) ?_))
    refine bodyPost_ret (results_row2 rfl _ _ w.heap.size 36 (cA (zeroC 0) none 0 0) (0, 0) _ rfl (setRow_heap _ _ _ _ _ _ I9.out.rs) Tryz.underlying36 rfl (info24 _ _ _ _) (.int .i64 10) rfl) rfl ?_
    exact ⟨⟨_, _, _, _, _, rfl, PR.out, cmdIn_zero _ 0 in64_0⟩, below_row I9.out.bl (Nat.le_refl _) _⟩
  case pos =>
    have PR : Hid (CDecR b c' 0) := Lib.hid (HOKB.out (by omega) hw0 hok)
    have HOK := Lib.hid hok
    rw [ckC_yes hok] at CK
    have CK := Lib.hid CK
    clear HOKB HBAD hw0 hok
    go_wp2_with (first
      | (go_at_call 58; refine EN.out.mono ?_; rintro e w8 ⟨rfl, rfl⟩)
      | (refine wpList_load_rowG (by rfl) 36 (.tmp 5) rfl O rfl 36 (cA c' none 0 0) (0, 0) _ IZ.out.co.w Tryz.underlying36 rfl (info24 _ _ _ _) ?_)
      | (go_at_call 31; refine CK.out.mono ?_; rintro e w9 ⟨rfl, hb9⟩; have I9 := Lib.hid (IZ.out.keep hb9); clear hb9)
      | (refine wpList_load_row rfl 36 (.tmp 5) rfl O rfl 36 (cA c' none 0 0) (0, 0) _ I9.out.co.w Tryz.underlying36 rfl (info24 _ _ _ _) ?_)
      | (refine wpList_store_row rfl 36 (.tmp 2) (.tmp 147) rfl w.heap.size (cA c' none 0 0) rfl rfl 36 (cA (zeroC 0) none 0 0) I9.out.rs (info24 _ _ _ _) rfl (all24 _ _ _ _) ?_))
    refine bodyPost_ret (results_row2 rfl _ _ w.heap.size 36 (cA c' none 0 0) (0, 0) _ rfl (setRow_heap _ _ _ _ _ _ I9.out.rs) Tryz.underlying36 rfl (info24 _ _ _ _) (.int .i64 0) rfl) rfl ?_
    refine ⟨⟨_, _, _, _, _, rfl, PR.out, ⟨I9.out.co.i.d.grown (setRow_grown _ _ _) (fun a ha hs e => ?_), I9.out.co.i.z⟩⟩, below_row I9.out.bl (Nat.le_refl _) _⟩
    exact hr_ne I9.out.rs I9.out.co.i.d.s ((ok_def HOK.out).resolve_left hs) a ha (Option.some.inj e)

end Go.Proofs.YtgjnmfmbheejoaaGreatDoor
