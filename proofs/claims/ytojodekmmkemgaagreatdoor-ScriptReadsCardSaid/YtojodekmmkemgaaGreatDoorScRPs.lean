/- A text read as an operation, by the reference. Condition: the text is no longer than a million bytes. -/
import Derived.Test.YtojodekmmkemgaaGreatDoorScRNu
import Derived.Test.YtojodekmmkemgaaGreatDoorScRPr
import Derived.Test.YtojodekmmkemgaaGreatDoorScPa
import Derived.Test.YtojodekmmkemgaaGreatDoorRpS
namespace Go.Proofs.YtojodekmmkemgaaGreatDoor
open Go.RowKit Go.Shelf

/-- What Parse holds in memory: its result, and the operation that it reads. -/
structure RpI (w : World) (O : Nat) (cc : Ov) (A : Option Addr) (n m : Nat) (W : World) : Prop where
  bl : Below w.heap.size w W
  wv : Whole W w.heap.size 34 (oA (zeroO 0 0) none 0 0)
  wo : Whole W O 34 (oA cc A n m)
  d : DefAt W A n m cc.d
  ha : ∀ a : Addr, A = some a → O < a.block
  vo : w.heap.size < O
theorem RpI.keep {w W W' : World} {O : Nat} {cc : Ov} {A : Option Addr} {n m : Nat} (h : RpI w O cc A n m W) (hb : Below W.heap.size W W') : RpI w O cc A n m W' :=
  ⟨h.bl.trans (hb.mono h.bl.size), h.wv.keep hb, h.wo.keep hb, h.d.keep hb, h.ha, h.vo⟩
theorem RpI.turn {w W W' : World} {O : Nat} {cc cc2 : Ov} {A A2 : Option Addr} {n m n2 m2 : Nat} (h : RpI w O cc A n m W) (hg : W.grownBy W' (some O)) (hw : Whole W' O 34 (oA cc2 A2 n2 m2)) (hd : DefAt W A2 n2 m2 cc2.d) (ha : ∀ a : Addr, A2 = some a → O < a.block) : RpI w O cc2 A2 n2 m2 W' := by
  have ho := h.vo
  exact ⟨h.bl.grown hg h.bl.size (fun k e => by cases e; omega), h.wv.grown hg (fun e => by have := Option.some.inj e; omega), hw, hd.grown hg (fun a e _ => fun e2 => by have := ha a e; have := Option.some.inj e2; omega), ha, ho⟩
theorem RpI.put_k {w W : World} {O : Nat} {cc : Ov} {A : Option Addr} {n m : Nat} (h : RpI w O cc A n m W) (v : Int) : RpI w O { cc with k := v } A n m (W.setCell ⟨O, 0, none⟩ (.int .i64 v)) :=
  h.turn (grown_set (World.grownBy.refl W (some O)) 0 _) (h.wo.put 0 (.int .i64 v)) h.d h.ha
theorem RpI.put_m {w W : World} {O : Nat} {cc : Ov} {A : Option Addr} {n m : Nat} (h : RpI w O cc A n m W) (v : Int) : RpI w O { cc with m := v } A n m (W.setCell ⟨O, 2, none⟩ (.int .i64 v)) :=
  h.turn (grown_set (World.grownBy.refl W (some O)) 2 _) (h.wo.put 2 (.int .i64 v)) h.d h.ha
theorem RpI.put_key {w W : World} {O : Nat} {cc : Ov} {A : Option Addr} {n m : Nat} (h : RpI w O cc A n m W) (v : ByteArray) : RpI w O { cc with key := v } A n m (W.setCell ⟨O, 3, none⟩ (.string v)) :=
  h.turn (grown_set (World.grownBy.refl W (some O)) 3 _) (h.wo.put 3 (.string v)) h.d h.ha
theorem RpI.put_rng {w W : World} {O : Nat} {cc : Ov} {A : Option Addr} {n m : Nat} (h : RpI w O cc A n m W) (f t : ByteArray) : RpI w O { cc with f := f, t := t } A n m ((W.setCell ⟨O, 4, none⟩ (.string f)).setCell ⟨O, 5, none⟩ (.string t)) :=
  h.turn (grown_set (grown_set (World.grownBy.refl W (some O)) 4 _) 5 _) ((h.wo.put 4 (.string f)).put 5 (.string t)) h.d h.ha
theorem RpI.put_def {w W : World} {O : Nat} {cc : Ov} {A A2 : Option Addr} {n m n2 m2 : Nat} (h : RpI w O cc A n m W) (d : Dv) (hd : DefAt W A2 n2 m2 d) (ha : ∀ a : Addr, A2 = some a → O < a.block) : RpI w O { cc with d := d } A2 n2 m2 ((((W.setCell ⟨O, 6, none⟩ (.string d.n)).setCell ⟨O, 7, none⟩ (.int .i64 d.r)).setCell ⟨O, 8, none⟩ (.int .i64 d.dl)).setCell ⟨O, 9, none⟩ (.slice A2 n2 m2)) :=
  h.turn (grown_set (grown_set (grown_set (grown_set (World.grownBy.refl W (some O)) 6 _) 7 _) 8 _) 9 _) ((((h.wo.put 6 (.string d.n)).put 7 (.int .i64 d.r)).put 8 (.int .i64 d.dl)).put 9 (.slice A2 n2 m2)) hd ha
/-- The kind found so far. -/
def kUp (l : List UInt8) (i : Nat) : Int := if kindW l ≤ i then (kindW l : Int) else 0
theorem kUp_zero (l : List UInt8) : kUp l 0 = 0 := by unfold kUp; split <;> omega
theorem kUp_full (l : List UInt8) : kUp l 12 = (kindW l : Int) := by
  unfold kUp
  rw [if_pos (by rcases kindW_or l with h | h <;> omega)]
theorem kUp_hit {l : List UInt8} {i : Nat} (hi : i < 12) (h : wordO ((i : Int) + 1) = l) : kUp l (i + 1) = (i : Int) + 1 := by
  have := kindW_word (i + 1) (by omega) (by omega)
  rw [show (((i + 1 : Nat) : Int)) = (i : Int) + 1 by omega, h] at this
  unfold kUp
  rw [this, if_pos (Nat.le_refl _)]
  omega
theorem kUp_miss {l : List UInt8} {i : Nat} (h : wordO ((i : Int) + 1) ≠ l) : kUp l (i + 1) = kUp l i := by
  have h2 : kindW l ≠ i + 1 := fun e => by
    rcases kindW_or l with h0 | ⟨_, _, h3⟩
    · omega
    · rw [e] at h3
      exact h (by rw [← h3, show (((i + 1 : Nat) : Int)) = (i : Int) + 1 by omega])
  unfold kUp
  by_cases h3 : kindW l ≤ i
  · rw [if_pos h3, if_pos (by omega)]
  · rw [if_neg h3, if_neg (by omega)]
theorem numD_le (l : List UInt8) : numD l ≤ 9999999 := by
  unfold numD
  split
  · rename_i h; exact dv_le7 h.1 h.2
  · omega
theorem cut_le (l : List UInt8) : (firstW l).length ≤ l.length ∧ (afterW l).length ≤ l.length := by
  have h := congrArg List.length (cutW_back l)
  rw [List.length_append] at h
  refine ⟨by omega, ?_⟩
  unfold afterW
  cases e : restW l with
  | none => exact Nat.zero_le _
  | some r => rw [e] at h; simp only [sepL, List.length_cons] at h; simp only [Option.getD_some]; omega
theorem opz_mk {k n m : Int} {key f t : ByteArray} {d : Dv} (hk : 0 ≤ k ∧ k ≤ 12) (hn : 0 ≤ n ∧ n ≤ 9999999) (hm : 0 ≤ m ∧ m ≤ 9999999) (h1 : key.size ≤ 1000000) (h2 : f.size ≤ 1000000) (h3 : t.size ≤ 1000000) : OpZ ⟨k, n, m, key, f, t, d⟩ :=
  ⟨by unfold In64; dsimp only; omega, by unfold In64; dsimp only; omega, by unfold In64; dsimp only; omega, Nat.le_trans h1 (by decide), Nat.le_trans h2 (by decide), Nat.le_trans h3 (by decide)⟩
theorem rng_sz {s : List UInt8} {f t : ByteArray} {e : Int} (h : ParRg s f t e) : f.size ≤ 1000000 ∧ t.size ≤ 1000000 := by
  rcases h with ⟨_, h, _⟩ | ⟨_, rfl, rfl, _⟩
  · have h1 := Rg.okS_sz (okR_left h)
    have h2 := Rg.okS_sz (okR_right h)
    omega
  · exact ⟨Nat.zero_le _, Nat.zero_le _⟩
theorem sz0 : (⟨#[]⟩ : ByteArray).size ≤ 1000000 := Nat.zero_le _
set_option maxRecDepth 100000 in
set_option maxHeartbeats 16000000 in
theorem roparse_any (s : ByteArray) (w : World) (hs : s.size ≤ 1000000) :
    Calls Tryz.prog 29 #[.string s] w fun e w' => OParR s.data.toList w e w' := by
  have B1 := Lib.hid ((Below.refl w.heap.size w).alloc (Nat.le_refl _) (.cells (oA (zeroO 0 0) none 0 0) 34))
  have V1 := Lib.hid (Whole.new w 34 (oA (zeroO 0 0) none 0 0))
  have HSZ := Lib.hid (World.size_alloc w (.cells (oA (zeroO 0 0) none 0 0) 34))
  have hu := Tryz.underlying34
  obtain ⟨l0, hl0⟩ : ∃ l, l = s.data.toList := ⟨_, rfl⟩
  have HL0 := Lib.hid hl0
  have hlz : l0.length ≤ 1000000 := by rw [hl0, ← Lib.size_eq]; exact hs
  have k0 := cut_le l0
  have k1 := cut_le (afterW l0)
  have k2 := cut_le (afterW (afterW l0))
  have C0 := Lib.hid (fun (W : World) => rcut_any s W hs)
  rw [← hl0] at C0 ⊢
  have HLZ := Lib.hid (And.intro hlz (And.intro k0 (And.intro k1 k2)))
  have HSS := Lib.hid hs
  clear hl0 hs hlz k0 k1 k2
  rw [zero10] at B1 V1 HSZ
  go_enter Tryz.func29, Tryz.ntmps29
  go_upto_region 1 with fail
  rw [← zero10] at B1 V1 HSZ
  rw [← zero10]
  generalize w.alloc (.cells (oA (zeroO 0 0) none 0 0) 34) = w1 at B1 V1 HSZ ⊢
  go_upto_region 2 with (go_at_call 68; refine (C0.out _).mono ?_; rintro e w2 ⟨⟨x0, r0, rfl, hx0, hr0⟩, hb⟩; have I2 := Lib.hid (And.intro (B1.out.trans (hb.mono B1.out.size)) (And.intro (V1.out.keep hb) (Nat.le_trans (Nat.le_of_eq HSZ.out.symm) hb.size))); have HX0 := Lib.hid hx0; have HR0 := Lib.hid hr0; clear hb hx0 hr0 C0)
  clear B1 V1 HSZ
  have C1 := Lib.hid (fun (W : World) => rcut_any r0 W (by rw [Lib.size_eq, HR0.out]; have := HLZ.out; omega))
  go_upto_region 3 with (go_at_call 68; refine (C1.out _).mono ?_; rintro e w3 ⟨⟨x1, r1, rfl, hx1, hr1⟩, hb⟩; have I3 := Lib.hid (And.intro (I2.out.1.trans (hb.mono I2.out.1.size)) (And.intro (I2.out.2.1.keep hb) (Nat.le_trans I2.out.2.2 hb.size))); have HX1 := Lib.hid (hx1.trans (by rw [HR0.out])); have HR1 := Lib.hid (hr1.trans (by rw [HR0.out])); clear hb hx1 hr1 C1)
  clear I2
  have C2 := Lib.hid (fun (W : World) => rcut_any r1 W (by rw [Lib.size_eq, HR1.out]; have := HLZ.out; omega))
  go_upto_region 4 with (go_at_call 68; refine (C2.out _).mono ?_; rintro e w4 ⟨⟨x2, x3, rfl, hx2, hx3⟩, hb⟩; have I4 := Lib.hid (And.intro (I3.out.1.trans (hb.mono I3.out.1.size)) (And.intro (I3.out.2.1.keep hb) (Nat.le_trans I3.out.2.2 hb.size))); have HX2 := Lib.hid (hx2.trans (by rw [HR1.out])); have HX3 := Lib.hid (hx3.trans (by rw [HR1.out])); clear hb hx2 hx3 C2)
  clear I3
  obtain ⟨nn, hnn⟩ : ∃ nn : Int, nn = (numD x1.data.toList : Nat) := ⟨_, rfl⟩
  have hnb : 0 ≤ nn ∧ nn ≤ 9999999 := by rw [hnn]; have := numD_le x1.data.toList; omega
  have N1 := fun (W : World) => rnum_any x1 W (by rw [Lib.size_eq, HX1.out]; have := HLZ.out; omega)
  rw [← hnn] at N1
  have N1 := Lib.hid N1
  have HNN := Lib.hid hnn
  have HNB := Lib.hid hnb
  have I5 : Hid (RpI w w4.heap.size (zeroO 0 nn) none 0 0 (w4.alloc (.cells (oA (zeroO 0 nn) none 0 0) 34))) := by
    have ba := (Below.refl w4.heap.size w4).alloc (Nat.le_refl _) (.cells (oA (zeroO 0 nn) none 0 0) 34)
    exact Lib.hid ⟨I4.out.1.trans (ba.mono I4.out.1.size), I4.out.2.1.keep ba, Whole.new w4 _ _, defAt_zeroO _, (fun a e => by cases e), I4.out.2.2⟩
  clear hnn hnb I4
  go_upto_region 5 with (first
    | (go_at_call 69; refine (N1.out _).mono ?_; rintro e w5 ⟨rfl, hw5⟩; rw [hw5]; clear hw5 N1)
    | (refine wpList_store_row rfl 34 (.tmp 9) (.tmp 30) rfl _ (oA (zeroO 0 nn) none 0 0) rfl rfl 34 _ (heap_alloc_new _ _) (info10 _ _ _ _) rfl (all10 _ _ _ _) ?_; rw [World.setRow_alloc_new]))
  generalize w4.alloc (.cells (oA (zeroO 0 nn) none 0 0) 34) = w6 at I5 ⊢
  generalize w4.heap.size = O at I5 ⊢
  obtain ⟨lw, hlw⟩ : ∃ l, l = x0.data.toList := ⟨_, rfl⟩
  have HLW := Lib.hid hlw
  clear hlw
  have hk00 : kUp lw 0 = 0 := kUp_zero lw
  go_wp2_with fail
  go_loopw [10] (fun iv wr => ∃ i : Nat, i ≤ 12 ∧ iv = .int .i64 i ∧ Hid (RpI w O (zeroO (kUp lw i) nn) none 0 0 wr)) (fun iv _ => 12 - (intOf iv).toNat)
  case atStart => exact ⟨0, by omega, rfl, Lib.hid (by rw [hk00]; exact I5.out)⟩
  case round =>
    obtain ⟨i, hi, rfl, HI⟩ := hrel
    clear hk00 I5
    have WH := Lib.hid (fun (W : World) => wordsT_any 0 (by decide) W)
    by_cases hi12 : i < 12
    · have hiI : (i : Int) < 12 := by omega
      have hi0 : ¬ ((12 : Int) ≤ (i : Int)) := by omega
      have hi1 : ¬ ((i : Int) < 0) := by omega
      have hi2 : (0 : Int) ≤ (i : Int) := by omega
      have hwi : IntKind.i64.wrap ((i : Int) + 1) = (i : Int) + 1 := IntWalk.i64_in _ (by omega)
      obtain ⟨kk, hkk⟩ : ∃ kk, kk = kUp lw i := ⟨_, rfl⟩
      rw [← hkk] at HI
      have HKK := Lib.hid hkk
      obtain ⟨wd, hwd⟩ : ∃ x : ByteArray, x = ⟨(wordO ((i : Int) + 1)).toArray⟩ := ⟨_, rfl⟩
      have WI := fun (W : World) => wordsT_any i hi12 W
      rw [← hwd] at WI
      have WI := Lib.hid WI
      have HWD : Hid (wd.data.toList = wordO ((i : Int) + 1)) := Lib.hid (by rw [hwd])
      clear hwd hkk
      by_cases hw : wordO ((i : Int) + 1) = lw
      · have heq : (wd.toList == x0.toList) = true := by rw [ByteArray.toList_eq, ByteArray.toList_eq, HWD.out, hw, HLW.out]; exact beq_self_eq_true _
        have HK1 := Lib.hid (kUp_hit hi12 hw)
        clear hw
        go_upto_region 9 with (first
          | (go_at_call 58; refine (WH.out _).mono ?_; rintro e w7 ⟨rfl, hb, _⟩; have J7 := Lib.hid (HI.out.keep hb); clear hb WH)
          | (go_at_call 58; refine (WI.out _).mono ?_; rintro e w8 ⟨rfl, hb, hcw⟩; have J8 := Lib.hid (J7.out.keep hb); clear hb WI))
        clear hcw heq J7 HI
        have y0 : w8.cell? ⟨O, 0, none⟩ = some (.int .i64 kk) := J8.out.wo.cell 0
        have f0 := J8.out.wo.fr 0
        have J9 := Lib.hid (J8.out.put_k ((i : Int) + 1))
        clear J8
        go_wp2_with fail
        go_roundw
        case rel => exact ⟨i + 1, by omega, by go_num, Lib.hid (by rw [HK1.out]; exact J9.out)⟩
        case measure => simp [intOf]; omega
      · have heq : (wd.toList == x0.toList) = false := key_ne.2 (fun e => hw (by rw [← HWD.out, e, HLW.out]))
        have HK1 := Lib.hid (kUp_miss hw)
        clear hw
        go_wp2_with (first
          | (go_at_call 58; refine (WH.out _).mono ?_; rintro e w7 ⟨rfl, hb, _⟩; have J7 := Lib.hid (HI.out.keep hb); clear hb WH)
          | (go_at_call 58; refine (WI.out _).mono ?_; rintro e w8 ⟨rfl, hb, hcw⟩; have J8 := Lib.hid (J7.out.keep hb); clear hb WI))
        go_roundw
        case rel => exact ⟨i + 1, by omega, by go_num, Lib.hid (by rw [HK1.out, ← HKK.out]; exact J8.out)⟩
        case measure => simp [intOf]; omega
    · obtain rfl : i = 12 := by omega
      rw [kUp_full] at HI
      obtain ⟨k, hk⟩ : ∃ k : Nat, k = kindW lw := ⟨_, rfl⟩
      have hk12 : k ≤ 12 := by rw [hk]; rcases kindW_or lw with h | h <;> omega
      rw [← hk] at HI
      have HK := Lib.hid hk
      have HK12 := Lib.hid hk12
      have HRV : Hid (refV l0 = tailR k nn x2.data.toList x3.data.toList) := Lib.hid (by unfold refV; rw [HX2.out, HX3.out, HK.out, HLW.out, HX0.out, HNN.out, HX1.out])
      clear hk hi12 hi
      go_upto_region 10 with (go_at_call 58; refine (WH.out _).mono ?_; rintro e w7 ⟨rfl, hb, _⟩; have J7 := Lib.hid (HI.out.keep hb); clear hb WH)
      clear HI
      have y0 : w7.cell? ⟨O, 0, none⟩ = some (.int .i64 (k : Int)) := J7.out.wo.cell 0
      go_upto_region 11 with fail
      clear y0
      have h2z : x2.size ≤ 1000000 := by rw [Lib.size_eq, HX2.out]; have := HLZ.out; omega
      have h3z : x3.size ≤ 1000000 := by rw [Lib.size_eq, HX3.out]; have := HLZ.out; omega
      obtain ⟨m2, hm2⟩ : ∃ m2 : Int, m2 = (numD x2.data.toList : Nat) := ⟨_, rfl⟩
      obtain ⟨m3, hm3⟩ : ∃ m3 : Int, m3 = (numD x3.data.toList : Nat) := ⟨_, rfl⟩
      have M2 := fun (W : World) => rnum_any x2 W h2z
      rw [← hm2] at M2
      have M2 := Lib.hid M2
      have M3 := fun (W : World) => rnum_any x3 W h3z
      rw [← hm3] at M3
      have M3 := Lib.hid M3
      have HM2 : Hid (m2 = (numD x2.data.toList : Nat) ∧ 0 ≤ m2 ∧ m2 ≤ 9999999) := Lib.hid ⟨hm2, by rw [hm2]; have := numD_le x2.data.toList; omega⟩
      have HM3 : Hid (m3 = (numD x3.data.toList : Nat) ∧ 0 ≤ m3 ∧ m3 ≤ 9999999) := Lib.hid ⟨hm3, by rw [hm3]; have := numD_le x3.data.toList; omega⟩
      have H2Z := Lib.hid h2z
      have H3Z := Lib.hid h3z
      clear hm2 hm3 h2z h3z
      have hg : (¬ (k = 6 ∨ k = 9 ∨ k = 10) ∧ ¬ k = 8 ∧ ¬ k = 11 ∧ ¬ k = 12) ∨ k = 6 ∨ k = 9 ∨ k = 10 ∨ k = 8 ∨ k = 11 ∨ k = 12 := by omega
      rcases hg with h1 | h1 | h1 | h1 | h1 | h1 | h1
      · skip
        have e6 : ((k : Int) == 6) = false := by rw [beq_eq_false_iff_ne]; omega
        have e9 : ((k : Int) == 9) = false := by rw [beq_eq_false_iff_ne]; omega
        have e10 : ((k : Int) == 10) = false := by rw [beq_eq_false_iff_ne]; omega
        have e8 : ((k : Int) == 8) = false := by rw [beq_eq_false_iff_ne]; omega
        have e11 : ((k : Int) == 11) = false := by rw [beq_eq_false_iff_ne]; omega
        have e12 : ((k : Int) == 12) = false := by rw [beq_eq_false_iff_ne]; omega
        obtain ⟨cc, hcc⟩ : ∃ cc : Ov, cc = zeroO (k : Int) nn := ⟨_, rfl⟩
        have HCC : Hid (refV l0 = cc) := Lib.hid (by rw [HRV.out, hcc]; unfold tailR; rw [if_neg h1.1, if_neg h1.2.1, if_neg h1.2.2.1, if_neg h1.2.2.2])
        have HOZ : Hid (OpZ cc) := Lib.hid (by rw [hcc]; exact opz_mk (show (0 : Int) ≤ (k : Int) ∧ (k : Int) ≤ 12 by have := HK12.out; omega) HNB.out (show (0 : Int) ≤ 0 ∧ (0 : Int) ≤ 9999999 by decide) sz0 sz0 sz0)
        rw [← hcc] at J7
        clear hcc h1
        go_upto_region 23 with fail
        have HIN := Lib.hid (show OpIn w7 cc none 0 0 from ⟨J7.out.d, HOZ.out⟩)
        obtain ⟨L, hL⟩ : ∃ L, L = oA cc none 0 0 := ⟨_, rfl⟩
        have hi2 : (Tryz.prog.info? 34).map (·.size) = some L.size := by rw [hL]; exact info10 cc none 0 0
        have ha2 : L.all (·.oneCell') = true := by rw [hL]; exact all10 cc none 0 0
        have HLL := Lib.hid hL
        have PR := roprint_any cc none 0 0 w7 HIN.out
        rw [← hL] at PR
        have WO : Hid (Whole w7 O 34 L) := Lib.hid (by rw [hL]; exact J7.out.wo)
        clear hL
        by_cases hgood : opOk cc ∧ textO cc = l0
        · have HG : Hid (ParO l0 cc 0) := Lib.hid (Or.inl ⟨rfl, hgood.1, hgood.2⟩)
          rw [ckO_yes hgood.1, txtO_yes hgood.1, hgood.2, HL0.out, ba_eta] at PR
          have PR := Lib.hid PR
          have hse : (s.toList == s.toList) = true := beq_self_eq_true _
          clear hgood
          go_upto_region 24 with (first
            | (refine wpList_load_row (by rfl) 34 (.tmp 9) (by rfl) _ (by rfl) 34 L (0, 0) _ WO.out hu (by rfl) hi2 ?_)
            | (go_at_call 23; refine PR.out.mono ?_; rintro e w20 ⟨rfl, hb⟩; have K1 := Lib.hid (And.intro (J7.out.keep hb) (WO.out.keep hb)); clear hb PR))
          go_wp2_with (first
            | (refine wpList_load_row (by rfl) 34 (.tmp 9) (by rfl) _ (by rfl) 34 L (0, 0) _ K1.out.2 hu (by rfl) hi2 ?_)
            | (refine wpList_store_row (by rfl) 34 (.tmp 2) (.tmp 94) (by rfl) w.heap.size L (by rfl) (by rfl) 34 (oA (zeroO 0 0) none 0 0) K1.out.1.wv hi2 (by rw [HLL.out]; rfl) ha2 ?_))
          refine bodyPost_ret (results_row2 (by rfl) _ _ w.heap.size 34 L (0, 0) _ (by rfl) (setRow_heap _ _ _ _ _ _ K1.out.1.wv) hu (by rfl) hi2 (.int .i64 0) (by rfl)) (by rfl) ?_
          rw [HLL.out]
          have hG := setRow_grown w20 w.heap.size (oA cc none 0 0)
          exact ⟨cc, 0, none, 0, 0, rfl, HG.out, ⟨K1.out.1.d.grown hG (fun a e _ e2 => by have h4 := K1.out.1.ha a e; have h5 := K1.out.1.vo; have := Option.some.inj e2; omega), HOZ.out⟩, below_row K1.out.1.bl (Nat.le_refl _) _, fun a e => by have h4 := K1.out.1.ha a e; have h5 := K1.out.1.vo; omega⟩
        · have HG : Hid (ParO l0 (zeroO 0 0) 10) := Lib.hid (refV_bad (by rw [HCC.out]; exact hgood))
          have hi0 : (Tryz.prog.info? 34).map (·.size) = some (oA (zeroO 0 0) none 0 0).size := info10 _ _ _ _
          have ha0 : (oA (zeroO 0 0) none 0 0).all (·.oneCell') = true := all10 _ _ _ _
          obtain ⟨tx, htx⟩ : ∃ t : ByteArray, t = ⟨(txtO cc).toArray⟩ := ⟨_, rfl⟩
          rw [← htx] at PR
          have hcase : (ckO cc = 2) ∨ (ckO cc = 0 ∧ (tx.toList == s.toList) = false) := by
            by_cases ok : opOk cc
            · refine Or.inr ⟨ckO_yes ok, key_ne.2 (fun e => hgood ⟨ok, ?_⟩)⟩
              rw [HL0.out, ← e, htx, txtO_yes ok]
            · exact Or.inl (ckO_no ok)
          clear hgood htx
          rcases hcase with h9 | ⟨h9, hne⟩
          all_goals
            rw [h9] at PR
            have PR := Lib.hid PR
            clear h9
            go_upto_region 24 with (first
              | (refine wpList_load_row (by rfl) 34 (.tmp 9) (by rfl) _ (by rfl) 34 L (0, 0) _ WO.out hu (by rfl) hi2 ?_)
              | (go_at_call 23; refine PR.out.mono ?_; rintro e w20 ⟨rfl, hb⟩; have K1 := Lib.hid (J7.out.keep hb); clear hb PR))
            go_wp2_with (refine wpList_store_row (by rfl) 34 (.tmp 2) (.tmp 93) (by rfl) w.heap.size (oA (zeroO 0 0) none 0 0) (by rfl) (by rfl) 34 (oA (zeroO 0 0) none 0 0) K1.out.wv hi0 (by rfl) ha0 ?_)
            refine bodyPost_ret (results_row2 (by rfl) _ _ w.heap.size 34 (oA (zeroO 0 0) none 0 0) (0, 0) _ (by rfl) (setRow_heap _ _ _ _ _ _ K1.out.wv) hu (by rfl) hi0 (.int .i64 10) (by rfl)) (by rfl) ?_
            exact ⟨zeroO 0 0, 10, none, 0, 0, rfl, HG.out, opin_zero _, below_row K1.out.bl (Nat.le_refl _) _, fun a e => by cases e⟩
      · skip
        have e6 : ((k : Int) == 6) = true := by rw [h1]; rfl
        obtain ⟨cc, hcc⟩ : ∃ cc : Ov, cc = { zeroO (k : Int) nn with m := m2 } := ⟨_, rfl⟩
        have HCC : Hid (refV l0 = cc) := Lib.hid (by rw [HRV.out, hcc, HM2.out.1]; unfold tailR; rw [if_pos (by omega)])
        have HOZ : Hid (OpZ cc) := Lib.hid (by rw [hcc]; exact opz_mk (show (0 : Int) ≤ (k : Int) ∧ (k : Int) ≤ 12 by have := HK12.out; omega) HNB.out HM2.out.2 sz0 sz0 sz0)
        have J8 := Lib.hid (J7.out.put_m m2)
        rw [← hcc] at J8
        have y2 : w7.cell? ⟨O, 2, none⟩ = some (.int .i64 0) := J7.out.wo.cell 2
        have f2 := J7.out.wo.fr 2
        clear hcc h1
        go_upto_region 23 with (go_at_call 69; refine (M2.out _).mono ?_; rintro e w8 ⟨rfl, hw8⟩; rw [hw8]; clear hw8 M2)
        clear y2 f2
        generalize w7.setCell ⟨O, 2, none⟩ (.int .i64 m2) = w9 at J8 ⊢
        have HIN := Lib.hid (show OpIn w9 cc none 0 0 from ⟨J8.out.d, HOZ.out⟩)
        obtain ⟨L, hL⟩ : ∃ L, L = oA cc none 0 0 := ⟨_, rfl⟩
        have hi2 : (Tryz.prog.info? 34).map (·.size) = some L.size := by rw [hL]; exact info10 cc none 0 0
        have ha2 : L.all (·.oneCell') = true := by rw [hL]; exact all10 cc none 0 0
        have HLL := Lib.hid hL
        have PR := roprint_any cc none 0 0 w9 HIN.out
        rw [← hL] at PR
        have WO : Hid (Whole w9 O 34 L) := Lib.hid (by rw [hL]; exact J8.out.wo)
        clear hL
        by_cases hgood : opOk cc ∧ textO cc = l0
        · have HG : Hid (ParO l0 cc 0) := Lib.hid (Or.inl ⟨rfl, hgood.1, hgood.2⟩)
          rw [ckO_yes hgood.1, txtO_yes hgood.1, hgood.2, HL0.out, ba_eta] at PR
          have PR := Lib.hid PR
          have hse : (s.toList == s.toList) = true := beq_self_eq_true _
          clear hgood
          go_upto_region 24 with (first
            | (refine wpList_load_row (by rfl) 34 (.tmp 9) (by rfl) _ (by rfl) 34 L (0, 0) _ WO.out hu (by rfl) hi2 ?_)
            | (go_at_call 23; refine PR.out.mono ?_; rintro e w20 ⟨rfl, hb⟩; have K1 := Lib.hid (And.intro (J8.out.keep hb) (WO.out.keep hb)); clear hb PR))
          go_wp2_with (first
            | (refine wpList_load_row (by rfl) 34 (.tmp 9) (by rfl) _ (by rfl) 34 L (0, 0) _ K1.out.2 hu (by rfl) hi2 ?_)
            | (refine wpList_store_row (by rfl) 34 (.tmp 2) (.tmp 94) (by rfl) w.heap.size L (by rfl) (by rfl) 34 (oA (zeroO 0 0) none 0 0) K1.out.1.wv hi2 (by rw [HLL.out]; rfl) ha2 ?_))
          refine bodyPost_ret (results_row2 (by rfl) _ _ w.heap.size 34 L (0, 0) _ (by rfl) (setRow_heap _ _ _ _ _ _ K1.out.1.wv) hu (by rfl) hi2 (.int .i64 0) (by rfl)) (by rfl) ?_
          rw [HLL.out]
          have hG := setRow_grown w20 w.heap.size (oA cc none 0 0)
          exact ⟨cc, 0, none, 0, 0, rfl, HG.out, ⟨K1.out.1.d.grown hG (fun a e _ e2 => by have h4 := K1.out.1.ha a e; have h5 := K1.out.1.vo; have := Option.some.inj e2; omega), HOZ.out⟩, below_row K1.out.1.bl (Nat.le_refl _) _, fun a e => by have h4 := K1.out.1.ha a e; have h5 := K1.out.1.vo; omega⟩
        · have HG : Hid (ParO l0 (zeroO 0 0) 10) := Lib.hid (refV_bad (by rw [HCC.out]; exact hgood))
          have hi0 : (Tryz.prog.info? 34).map (·.size) = some (oA (zeroO 0 0) none 0 0).size := info10 _ _ _ _
          have ha0 : (oA (zeroO 0 0) none 0 0).all (·.oneCell') = true := all10 _ _ _ _
          obtain ⟨tx, htx⟩ : ∃ t : ByteArray, t = ⟨(txtO cc).toArray⟩ := ⟨_, rfl⟩
          rw [← htx] at PR
          have hcase : (ckO cc = 2) ∨ (ckO cc = 0 ∧ (tx.toList == s.toList) = false) := by
            by_cases ok : opOk cc
            · refine Or.inr ⟨ckO_yes ok, key_ne.2 (fun e => hgood ⟨ok, ?_⟩)⟩
              rw [HL0.out, ← e, htx, txtO_yes ok]
            · exact Or.inl (ckO_no ok)
          clear hgood htx
          rcases hcase with h9 | ⟨h9, hne⟩
          all_goals
            rw [h9] at PR
            have PR := Lib.hid PR
            clear h9
            go_upto_region 24 with (first
              | (refine wpList_load_row (by rfl) 34 (.tmp 9) (by rfl) _ (by rfl) 34 L (0, 0) _ WO.out hu (by rfl) hi2 ?_)
              | (go_at_call 23; refine PR.out.mono ?_; rintro e w20 ⟨rfl, hb⟩; have K1 := Lib.hid (J8.out.keep hb); clear hb PR))
            go_wp2_with (refine wpList_store_row (by rfl) 34 (.tmp 2) (.tmp 93) (by rfl) w.heap.size (oA (zeroO 0 0) none 0 0) (by rfl) (by rfl) 34 (oA (zeroO 0 0) none 0 0) K1.out.wv hi0 (by rfl) ha0 ?_)
            refine bodyPost_ret (results_row2 (by rfl) _ _ w.heap.size 34 (oA (zeroO 0 0) none 0 0) (0, 0) _ (by rfl) (setRow_heap _ _ _ _ _ _ K1.out.wv) hu (by rfl) hi0 (.int .i64 10) (by rfl)) (by rfl) ?_
            exact ⟨zeroO 0 0, 10, none, 0, 0, rfl, HG.out, opin_zero _, below_row K1.out.bl (Nat.le_refl _) _, fun a e => by cases e⟩
      · skip
        have e6 : ((k : Int) == 6) = false := by rw [h1]; rfl
        have e9 : ((k : Int) == 9) = true := by rw [h1]; rfl
        obtain ⟨cc, hcc⟩ : ∃ cc : Ov, cc = { zeroO (k : Int) nn with m := m2 } := ⟨_, rfl⟩
        have HCC : Hid (refV l0 = cc) := Lib.hid (by rw [HRV.out, hcc, HM2.out.1]; unfold tailR; rw [if_pos (by omega)])
        have HOZ : Hid (OpZ cc) := Lib.hid (by rw [hcc]; exact opz_mk (show (0 : Int) ≤ (k : Int) ∧ (k : Int) ≤ 12 by have := HK12.out; omega) HNB.out HM2.out.2 sz0 sz0 sz0)
        have J8 := Lib.hid (J7.out.put_m m2)
        rw [← hcc] at J8
        have y2 : w7.cell? ⟨O, 2, none⟩ = some (.int .i64 0) := J7.out.wo.cell 2
        have f2 := J7.out.wo.fr 2
        clear hcc h1
        go_upto_region 23 with (go_at_call 69; refine (M2.out _).mono ?_; rintro e w8 ⟨rfl, hw8⟩; rw [hw8]; clear hw8 M2)
        clear y2 f2
        generalize w7.setCell ⟨O, 2, none⟩ (.int .i64 m2) = w9 at J8 ⊢
        have HIN := Lib.hid (show OpIn w9 cc none 0 0 from ⟨J8.out.d, HOZ.out⟩)
        obtain ⟨L, hL⟩ : ∃ L, L = oA cc none 0 0 := ⟨_, rfl⟩
        have hi2 : (Tryz.prog.info? 34).map (·.size) = some L.size := by rw [hL]; exact info10 cc none 0 0
        have ha2 : L.all (·.oneCell') = true := by rw [hL]; exact all10 cc none 0 0
        have HLL := Lib.hid hL
        have PR := roprint_any cc none 0 0 w9 HIN.out
        rw [← hL] at PR
        have WO : Hid (Whole w9 O 34 L) := Lib.hid (by rw [hL]; exact J8.out.wo)
        clear hL
        by_cases hgood : opOk cc ∧ textO cc = l0
        · have HG : Hid (ParO l0 cc 0) := Lib.hid (Or.inl ⟨rfl, hgood.1, hgood.2⟩)
          rw [ckO_yes hgood.1, txtO_yes hgood.1, hgood.2, HL0.out, ba_eta] at PR
          have PR := Lib.hid PR
          have hse : (s.toList == s.toList) = true := beq_self_eq_true _
          clear hgood
          go_upto_region 24 with (first
            | (refine wpList_load_row (by rfl) 34 (.tmp 9) (by rfl) _ (by rfl) 34 L (0, 0) _ WO.out hu (by rfl) hi2 ?_)
            | (go_at_call 23; refine PR.out.mono ?_; rintro e w20 ⟨rfl, hb⟩; have K1 := Lib.hid (And.intro (J8.out.keep hb) (WO.out.keep hb)); clear hb PR))
          go_wp2_with (first
            | (refine wpList_load_row (by rfl) 34 (.tmp 9) (by rfl) _ (by rfl) 34 L (0, 0) _ K1.out.2 hu (by rfl) hi2 ?_)
            | (refine wpList_store_row (by rfl) 34 (.tmp 2) (.tmp 94) (by rfl) w.heap.size L (by rfl) (by rfl) 34 (oA (zeroO 0 0) none 0 0) K1.out.1.wv hi2 (by rw [HLL.out]; rfl) ha2 ?_))
          refine bodyPost_ret (results_row2 (by rfl) _ _ w.heap.size 34 L (0, 0) _ (by rfl) (setRow_heap _ _ _ _ _ _ K1.out.1.wv) hu (by rfl) hi2 (.int .i64 0) (by rfl)) (by rfl) ?_
          rw [HLL.out]
          have hG := setRow_grown w20 w.heap.size (oA cc none 0 0)
          exact ⟨cc, 0, none, 0, 0, rfl, HG.out, ⟨K1.out.1.d.grown hG (fun a e _ e2 => by have h4 := K1.out.1.ha a e; have h5 := K1.out.1.vo; have := Option.some.inj e2; omega), HOZ.out⟩, below_row K1.out.1.bl (Nat.le_refl _) _, fun a e => by have h4 := K1.out.1.ha a e; have h5 := K1.out.1.vo; omega⟩
        · have HG : Hid (ParO l0 (zeroO 0 0) 10) := Lib.hid (refV_bad (by rw [HCC.out]; exact hgood))
          have hi0 : (Tryz.prog.info? 34).map (·.size) = some (oA (zeroO 0 0) none 0 0).size := info10 _ _ _ _
          have ha0 : (oA (zeroO 0 0) none 0 0).all (·.oneCell') = true := all10 _ _ _ _
          obtain ⟨tx, htx⟩ : ∃ t : ByteArray, t = ⟨(txtO cc).toArray⟩ := ⟨_, rfl⟩
          rw [← htx] at PR
          have hcase : (ckO cc = 2) ∨ (ckO cc = 0 ∧ (tx.toList == s.toList) = false) := by
            by_cases ok : opOk cc
            · refine Or.inr ⟨ckO_yes ok, key_ne.2 (fun e => hgood ⟨ok, ?_⟩)⟩
              rw [HL0.out, ← e, htx, txtO_yes ok]
            · exact Or.inl (ckO_no ok)
          clear hgood htx
          rcases hcase with h9 | ⟨h9, hne⟩
          all_goals
            rw [h9] at PR
            have PR := Lib.hid PR
            clear h9
            go_upto_region 24 with (first
              | (refine wpList_load_row (by rfl) 34 (.tmp 9) (by rfl) _ (by rfl) 34 L (0, 0) _ WO.out hu (by rfl) hi2 ?_)
              | (go_at_call 23; refine PR.out.mono ?_; rintro e w20 ⟨rfl, hb⟩; have K1 := Lib.hid (J8.out.keep hb); clear hb PR))
            go_wp2_with (refine wpList_store_row (by rfl) 34 (.tmp 2) (.tmp 93) (by rfl) w.heap.size (oA (zeroO 0 0) none 0 0) (by rfl) (by rfl) 34 (oA (zeroO 0 0) none 0 0) K1.out.wv hi0 (by rfl) ha0 ?_)
            refine bodyPost_ret (results_row2 (by rfl) _ _ w.heap.size 34 (oA (zeroO 0 0) none 0 0) (0, 0) _ (by rfl) (setRow_heap _ _ _ _ _ _ K1.out.wv) hu (by rfl) hi0 (.int .i64 10) (by rfl)) (by rfl) ?_
            exact ⟨zeroO 0 0, 10, none, 0, 0, rfl, HG.out, opin_zero _, below_row K1.out.bl (Nat.le_refl _) _, fun a e => by cases e⟩
      · skip
        have e6 : ((k : Int) == 6) = false := by rw [h1]; rfl
        have e9 : ((k : Int) == 9) = false := by rw [h1]; rfl
        have e10 : ((k : Int) == 10) = true := by rw [h1]; rfl
        obtain ⟨cc, hcc⟩ : ∃ cc : Ov, cc = { zeroO (k : Int) nn with m := m2 } := ⟨_, rfl⟩
        have HCC : Hid (refV l0 = cc) := Lib.hid (by rw [HRV.out, hcc, HM2.out.1]; unfold tailR; rw [if_pos (by omega)])
        have HOZ : Hid (OpZ cc) := Lib.hid (by rw [hcc]; exact opz_mk (show (0 : Int) ≤ (k : Int) ∧ (k : Int) ≤ 12 by have := HK12.out; omega) HNB.out HM2.out.2 sz0 sz0 sz0)
        have J8 := Lib.hid (J7.out.put_m m2)
        rw [← hcc] at J8
        have y2 : w7.cell? ⟨O, 2, none⟩ = some (.int .i64 0) := J7.out.wo.cell 2
        have f2 := J7.out.wo.fr 2
        clear hcc h1
        go_upto_region 23 with (go_at_call 69; refine (M2.out _).mono ?_; rintro e w8 ⟨rfl, hw8⟩; rw [hw8]; clear hw8 M2)
        clear y2 f2
        generalize w7.setCell ⟨O, 2, none⟩ (.int .i64 m2) = w9 at J8 ⊢
        have HIN := Lib.hid (show OpIn w9 cc none 0 0 from ⟨J8.out.d, HOZ.out⟩)
        obtain ⟨L, hL⟩ : ∃ L, L = oA cc none 0 0 := ⟨_, rfl⟩
        have hi2 : (Tryz.prog.info? 34).map (·.size) = some L.size := by rw [hL]; exact info10 cc none 0 0
        have ha2 : L.all (·.oneCell') = true := by rw [hL]; exact all10 cc none 0 0
        have HLL := Lib.hid hL
        have PR := roprint_any cc none 0 0 w9 HIN.out
        rw [← hL] at PR
        have WO : Hid (Whole w9 O 34 L) := Lib.hid (by rw [hL]; exact J8.out.wo)
        clear hL
        by_cases hgood : opOk cc ∧ textO cc = l0
        · have HG : Hid (ParO l0 cc 0) := Lib.hid (Or.inl ⟨rfl, hgood.1, hgood.2⟩)
          rw [ckO_yes hgood.1, txtO_yes hgood.1, hgood.2, HL0.out, ba_eta] at PR
          have PR := Lib.hid PR
          have hse : (s.toList == s.toList) = true := beq_self_eq_true _
          clear hgood
          go_upto_region 24 with (first
            | (refine wpList_load_row (by rfl) 34 (.tmp 9) (by rfl) _ (by rfl) 34 L (0, 0) _ WO.out hu (by rfl) hi2 ?_)
            | (go_at_call 23; refine PR.out.mono ?_; rintro e w20 ⟨rfl, hb⟩; have K1 := Lib.hid (And.intro (J8.out.keep hb) (WO.out.keep hb)); clear hb PR))
          go_wp2_with (first
            | (refine wpList_load_row (by rfl) 34 (.tmp 9) (by rfl) _ (by rfl) 34 L (0, 0) _ K1.out.2 hu (by rfl) hi2 ?_)
            | (refine wpList_store_row (by rfl) 34 (.tmp 2) (.tmp 94) (by rfl) w.heap.size L (by rfl) (by rfl) 34 (oA (zeroO 0 0) none 0 0) K1.out.1.wv hi2 (by rw [HLL.out]; rfl) ha2 ?_))
          refine bodyPost_ret (results_row2 (by rfl) _ _ w.heap.size 34 L (0, 0) _ (by rfl) (setRow_heap _ _ _ _ _ _ K1.out.1.wv) hu (by rfl) hi2 (.int .i64 0) (by rfl)) (by rfl) ?_
          rw [HLL.out]
          have hG := setRow_grown w20 w.heap.size (oA cc none 0 0)
          exact ⟨cc, 0, none, 0, 0, rfl, HG.out, ⟨K1.out.1.d.grown hG (fun a e _ e2 => by have h4 := K1.out.1.ha a e; have h5 := K1.out.1.vo; have := Option.some.inj e2; omega), HOZ.out⟩, below_row K1.out.1.bl (Nat.le_refl _) _, fun a e => by have h4 := K1.out.1.ha a e; have h5 := K1.out.1.vo; omega⟩
        · have HG : Hid (ParO l0 (zeroO 0 0) 10) := Lib.hid (refV_bad (by rw [HCC.out]; exact hgood))
          have hi0 : (Tryz.prog.info? 34).map (·.size) = some (oA (zeroO 0 0) none 0 0).size := info10 _ _ _ _
          have ha0 : (oA (zeroO 0 0) none 0 0).all (·.oneCell') = true := all10 _ _ _ _
          obtain ⟨tx, htx⟩ : ∃ t : ByteArray, t = ⟨(txtO cc).toArray⟩ := ⟨_, rfl⟩
          rw [← htx] at PR
          have hcase : (ckO cc = 2) ∨ (ckO cc = 0 ∧ (tx.toList == s.toList) = false) := by
            by_cases ok : opOk cc
            · refine Or.inr ⟨ckO_yes ok, key_ne.2 (fun e => hgood ⟨ok, ?_⟩)⟩
              rw [HL0.out, ← e, htx, txtO_yes ok]
            · exact Or.inl (ckO_no ok)
          clear hgood htx
          rcases hcase with h9 | ⟨h9, hne⟩
          all_goals
            rw [h9] at PR
            have PR := Lib.hid PR
            clear h9
            go_upto_region 24 with (first
              | (refine wpList_load_row (by rfl) 34 (.tmp 9) (by rfl) _ (by rfl) 34 L (0, 0) _ WO.out hu (by rfl) hi2 ?_)
              | (go_at_call 23; refine PR.out.mono ?_; rintro e w20 ⟨rfl, hb⟩; have K1 := Lib.hid (J8.out.keep hb); clear hb PR))
            go_wp2_with (refine wpList_store_row (by rfl) 34 (.tmp 2) (.tmp 93) (by rfl) w.heap.size (oA (zeroO 0 0) none 0 0) (by rfl) (by rfl) 34 (oA (zeroO 0 0) none 0 0) K1.out.wv hi0 (by rfl) ha0 ?_)
            refine bodyPost_ret (results_row2 (by rfl) _ _ w.heap.size 34 (oA (zeroO 0 0) none 0 0) (0, 0) _ (by rfl) (setRow_heap _ _ _ _ _ _ K1.out.wv) hu (by rfl) hi0 (.int .i64 10) (by rfl)) (by rfl) ?_
            exact ⟨zeroO 0 0, 10, none, 0, 0, rfl, HG.out, opin_zero _, below_row K1.out.bl (Nat.le_refl _) _, fun a e => by cases e⟩
      · skip
        have e6 : ((k : Int) == 6) = false := by rw [h1]; rfl
        have e9 : ((k : Int) == 9) = false := by rw [h1]; rfl
        have e10 : ((k : Int) == 10) = false := by rw [h1]; rfl
        have e8 : ((k : Int) == 8) = true := by rw [h1]; rfl
        have J8 := Lib.hid (J7.out.put_m m2)
        have y2 : w7.cell? ⟨O, 2, none⟩ = some (.int .i64 0) := J7.out.wo.cell 2
        have f2 := J7.out.wo.fr 2
        go_upto_region 17 with (go_at_call 69; refine (M2.out _).mono ?_; rintro e w8 ⟨rfl, hw8⟩; rw [hw8]; clear hw8 M2)
        clear y2 f2
        generalize w7.setCell ⟨O, 2, none⟩ (.int .i64 m2) = w9 at J8 ⊢
        have DP := refParse_any x3 w9 H3Z.out
        unfold ParseF dV at DP
        have DP := Lib.hid DP
        have HOL := Lib.hid J8.out.wo.lt
        go_upto_region 23 with (go_at_call 70; refine DP.out.mono ?_; rintro e w10 ⟨⟨d, A3, n3, c3, er, rfl, hpr, hda, hfr⟩, hb⟩; have HPR := Lib.hid hpr; have J9 := Lib.hid (J8.out.keep hb); have y6 : w10.cell? ⟨O, 6, none⟩ = some (.string ⟨#[]⟩) := J9.out.wo.cell 6; have y7 : w10.cell? ⟨O, 7, none⟩ = some (.int .i64 0) := J9.out.wo.cell 7; have y8 : w10.cell? ⟨O, 8, none⟩ = some (.int .i64 0) := J9.out.wo.cell 8; have y9 : w10.cell? ⟨O, 9, none⟩ = some (.slice none 0 0) := J9.out.wo.cell 9; have f6 := J9.out.wo.fr 6; have f7 := J9.out.wo.fr 7; have f8 := J9.out.wo.fr 8; have f9 := J9.out.wo.fr 9; have J10 := Lib.hid (J9.out.put_def d hda (fun a e => Nat.lt_of_lt_of_le HOL.out (hfr a e))); clear hpr hda hfr hb DP)
        clear y6 y7 y8 y9 f6 f7 f8 f9 J8 J9
        generalize (((w10.setCell ⟨O, 6, none⟩ (.string d.n)).setCell ⟨O, 7, none⟩ (.int .i64 d.r)).setCell ⟨O, 8, none⟩ (.int .i64 d.dl)).setCell ⟨O, 9, none⟩ (.slice A3 n3 c3) = w11 at J10 ⊢
        obtain ⟨cc, hcc⟩ : ∃ cc : Ov, cc = { { zeroO (k : Int) nn with m := m2 } with d := d } := ⟨_, rfl⟩
        have HCC : Hid (refV l0 = cc) := Lib.hid (by rw [HRV.out, hcc, HM2.out.1]; unfold tailR; rw [if_neg (by omega), if_pos h1, parV_of HPR.out])
        have HOZ : Hid (OpZ cc) := Lib.hid (by rw [hcc]; exact opz_mk (show (0 : Int) ≤ (k : Int) ∧ (k : Int) ≤ 12 by have := HK12.out; omega) HNB.out HM2.out.2 sz0 sz0 sz0)
        rw [← hcc] at J10
        clear hcc h1
        have HIN := Lib.hid (show OpIn w11 cc A3 n3 c3 from ⟨J10.out.d, HOZ.out⟩)
        obtain ⟨L, hL⟩ : ∃ L, L = oA cc A3 n3 c3 := ⟨_, rfl⟩
        have hi2 : (Tryz.prog.info? 34).map (·.size) = some L.size := by rw [hL]; exact info10 cc A3 n3 c3
        have ha2 : L.all (·.oneCell') = true := by rw [hL]; exact all10 cc A3 n3 c3
        have HLL := Lib.hid hL
        have PR := roprint_any cc A3 n3 c3 w11 HIN.out
        rw [← hL] at PR
        have WO : Hid (Whole w11 O 34 L) := Lib.hid (by rw [hL]; exact J10.out.wo)
        clear hL
        by_cases hgood : opOk cc ∧ textO cc = l0
        · have HG : Hid (ParO l0 cc 0) := Lib.hid (Or.inl ⟨rfl, hgood.1, hgood.2⟩)
          rw [ckO_yes hgood.1, txtO_yes hgood.1, hgood.2, HL0.out, ba_eta] at PR
          have PR := Lib.hid PR
          have hse : (s.toList == s.toList) = true := beq_self_eq_true _
          clear hgood
          go_upto_region 24 with (first
            | (refine wpList_load_row (by rfl) 34 (.tmp 9) (by rfl) _ (by rfl) 34 L (0, 0) _ WO.out hu (by rfl) hi2 ?_)
            | (go_at_call 23; refine PR.out.mono ?_; rintro e w20 ⟨rfl, hb⟩; have K1 := Lib.hid (And.intro (J10.out.keep hb) (WO.out.keep hb)); clear hb PR))
          go_wp2_with (first
            | (refine wpList_load_row (by rfl) 34 (.tmp 9) (by rfl) _ (by rfl) 34 L (0, 0) _ K1.out.2 hu (by rfl) hi2 ?_)
            | (refine wpList_store_row (by rfl) 34 (.tmp 2) (.tmp 94) (by rfl) w.heap.size L (by rfl) (by rfl) 34 (oA (zeroO 0 0) none 0 0) K1.out.1.wv hi2 (by rw [HLL.out]; rfl) ha2 ?_))
          refine bodyPost_ret (results_row2 (by rfl) _ _ w.heap.size 34 L (0, 0) _ (by rfl) (setRow_heap _ _ _ _ _ _ K1.out.1.wv) hu (by rfl) hi2 (.int .i64 0) (by rfl)) (by rfl) ?_
          rw [HLL.out]
          have hG := setRow_grown w20 w.heap.size (oA cc A3 n3 c3)
          exact ⟨cc, 0, A3, n3, c3, rfl, HG.out, ⟨K1.out.1.d.grown hG (fun a e _ e2 => by have h4 := K1.out.1.ha a e; have h5 := K1.out.1.vo; have := Option.some.inj e2; omega), HOZ.out⟩, below_row K1.out.1.bl (Nat.le_refl _) _, fun a e => by have h4 := K1.out.1.ha a e; have h5 := K1.out.1.vo; omega⟩
        · have HG : Hid (ParO l0 (zeroO 0 0) 10) := Lib.hid (refV_bad (by rw [HCC.out]; exact hgood))
          have hi0 : (Tryz.prog.info? 34).map (·.size) = some (oA (zeroO 0 0) none 0 0).size := info10 _ _ _ _
          have ha0 : (oA (zeroO 0 0) none 0 0).all (·.oneCell') = true := all10 _ _ _ _
          obtain ⟨tx, htx⟩ : ∃ t : ByteArray, t = ⟨(txtO cc).toArray⟩ := ⟨_, rfl⟩
          rw [← htx] at PR
          have hcase : (ckO cc = 2) ∨ (ckO cc = 0 ∧ (tx.toList == s.toList) = false) := by
            by_cases ok : opOk cc
            · refine Or.inr ⟨ckO_yes ok, key_ne.2 (fun e => hgood ⟨ok, ?_⟩)⟩
              rw [HL0.out, ← e, htx, txtO_yes ok]
            · exact Or.inl (ckO_no ok)
          clear hgood htx
          rcases hcase with h9 | ⟨h9, hne⟩
          all_goals
            rw [h9] at PR
            have PR := Lib.hid PR
            clear h9
            go_upto_region 24 with (first
              | (refine wpList_load_row (by rfl) 34 (.tmp 9) (by rfl) _ (by rfl) 34 L (0, 0) _ WO.out hu (by rfl) hi2 ?_)
              | (go_at_call 23; refine PR.out.mono ?_; rintro e w20 ⟨rfl, hb⟩; have K1 := Lib.hid (J10.out.keep hb); clear hb PR))
            go_wp2_with (refine wpList_store_row (by rfl) 34 (.tmp 2) (.tmp 93) (by rfl) w.heap.size (oA (zeroO 0 0) none 0 0) (by rfl) (by rfl) 34 (oA (zeroO 0 0) none 0 0) K1.out.wv hi0 (by rfl) ha0 ?_)
            refine bodyPost_ret (results_row2 (by rfl) _ _ w.heap.size 34 (oA (zeroO 0 0) none 0 0) (0, 0) _ (by rfl) (setRow_heap _ _ _ _ _ _ K1.out.wv) hu (by rfl) hi0 (.int .i64 10) (by rfl)) (by rfl) ?_
            exact ⟨zeroO 0 0, 10, none, 0, 0, rfl, HG.out, opin_zero _, below_row K1.out.bl (Nat.le_refl _) _, fun a e => by cases e⟩
      · skip
        have e6 : ((k : Int) == 6) = false := by rw [h1]; rfl
        have e9 : ((k : Int) == 9) = false := by rw [h1]; rfl
        have e10 : ((k : Int) == 10) = false := by rw [h1]; rfl
        have e8 : ((k : Int) == 8) = false := by rw [h1]; rfl
        have e11 : ((k : Int) == 11) = true := by rw [h1]; rfl
        obtain ⟨cc, hcc⟩ : ∃ cc : Ov, cc = { zeroO (k : Int) nn with key := x2 } := ⟨_, rfl⟩
        have HCC : Hid (refV l0 = cc) := Lib.hid (by rw [HRV.out, hcc]; unfold tailR; rw [if_neg (by omega), if_neg (by omega), if_pos h1, ba_eta])
        have HOZ : Hid (OpZ cc) := Lib.hid (by rw [hcc]; exact opz_mk (show (0 : Int) ≤ (k : Int) ∧ (k : Int) ≤ 12 by have := HK12.out; omega) HNB.out (show (0 : Int) ≤ 0 ∧ (0 : Int) ≤ 9999999 by decide) H2Z.out sz0 sz0)
        have J8 := Lib.hid (J7.out.put_key x2)
        rw [← hcc] at J8
        have y3 : w7.cell? ⟨O, 3, none⟩ = some (.string ⟨#[]⟩) := J7.out.wo.cell 3
        have f3 := J7.out.wo.fr 3
        clear hcc h1
        go_upto_region 23 with fail
        clear y3 f3
        generalize w7.setCell ⟨O, 3, none⟩ (.string x2) = w9 at J8 ⊢
        have HIN := Lib.hid (show OpIn w9 cc none 0 0 from ⟨J8.out.d, HOZ.out⟩)
        obtain ⟨L, hL⟩ : ∃ L, L = oA cc none 0 0 := ⟨_, rfl⟩
        have hi2 : (Tryz.prog.info? 34).map (·.size) = some L.size := by rw [hL]; exact info10 cc none 0 0
        have ha2 : L.all (·.oneCell') = true := by rw [hL]; exact all10 cc none 0 0
        have HLL := Lib.hid hL
        have PR := roprint_any cc none 0 0 w9 HIN.out
        rw [← hL] at PR
        have WO : Hid (Whole w9 O 34 L) := Lib.hid (by rw [hL]; exact J8.out.wo)
        clear hL
        by_cases hgood : opOk cc ∧ textO cc = l0
        · have HG : Hid (ParO l0 cc 0) := Lib.hid (Or.inl ⟨rfl, hgood.1, hgood.2⟩)
          rw [ckO_yes hgood.1, txtO_yes hgood.1, hgood.2, HL0.out, ba_eta] at PR
          have PR := Lib.hid PR
          have hse : (s.toList == s.toList) = true := beq_self_eq_true _
          clear hgood
          go_upto_region 24 with (first
            | (refine wpList_load_row (by rfl) 34 (.tmp 9) (by rfl) _ (by rfl) 34 L (0, 0) _ WO.out hu (by rfl) hi2 ?_)
            | (go_at_call 23; refine PR.out.mono ?_; rintro e w20 ⟨rfl, hb⟩; have K1 := Lib.hid (And.intro (J8.out.keep hb) (WO.out.keep hb)); clear hb PR))
          go_wp2_with (first
            | (refine wpList_load_row (by rfl) 34 (.tmp 9) (by rfl) _ (by rfl) 34 L (0, 0) _ K1.out.2 hu (by rfl) hi2 ?_)
            | (refine wpList_store_row (by rfl) 34 (.tmp 2) (.tmp 94) (by rfl) w.heap.size L (by rfl) (by rfl) 34 (oA (zeroO 0 0) none 0 0) K1.out.1.wv hi2 (by rw [HLL.out]; rfl) ha2 ?_))
          refine bodyPost_ret (results_row2 (by rfl) _ _ w.heap.size 34 L (0, 0) _ (by rfl) (setRow_heap _ _ _ _ _ _ K1.out.1.wv) hu (by rfl) hi2 (.int .i64 0) (by rfl)) (by rfl) ?_
          rw [HLL.out]
          have hG := setRow_grown w20 w.heap.size (oA cc none 0 0)
          exact ⟨cc, 0, none, 0, 0, rfl, HG.out, ⟨K1.out.1.d.grown hG (fun a e _ e2 => by have h4 := K1.out.1.ha a e; have h5 := K1.out.1.vo; have := Option.some.inj e2; omega), HOZ.out⟩, below_row K1.out.1.bl (Nat.le_refl _) _, fun a e => by have h4 := K1.out.1.ha a e; have h5 := K1.out.1.vo; omega⟩
        · have HG : Hid (ParO l0 (zeroO 0 0) 10) := Lib.hid (refV_bad (by rw [HCC.out]; exact hgood))
          have hi0 : (Tryz.prog.info? 34).map (·.size) = some (oA (zeroO 0 0) none 0 0).size := info10 _ _ _ _
          have ha0 : (oA (zeroO 0 0) none 0 0).all (·.oneCell') = true := all10 _ _ _ _
          obtain ⟨tx, htx⟩ : ∃ t : ByteArray, t = ⟨(txtO cc).toArray⟩ := ⟨_, rfl⟩
          rw [← htx] at PR
          have hcase : (ckO cc = 2) ∨ (ckO cc = 0 ∧ (tx.toList == s.toList) = false) := by
            by_cases ok : opOk cc
            · refine Or.inr ⟨ckO_yes ok, key_ne.2 (fun e => hgood ⟨ok, ?_⟩)⟩
              rw [HL0.out, ← e, htx, txtO_yes ok]
            · exact Or.inl (ckO_no ok)
          clear hgood htx
          rcases hcase with h9 | ⟨h9, hne⟩
          all_goals
            rw [h9] at PR
            have PR := Lib.hid PR
            clear h9
            go_upto_region 24 with (first
              | (refine wpList_load_row (by rfl) 34 (.tmp 9) (by rfl) _ (by rfl) 34 L (0, 0) _ WO.out hu (by rfl) hi2 ?_)
              | (go_at_call 23; refine PR.out.mono ?_; rintro e w20 ⟨rfl, hb⟩; have K1 := Lib.hid (J8.out.keep hb); clear hb PR))
            go_wp2_with (refine wpList_store_row (by rfl) 34 (.tmp 2) (.tmp 93) (by rfl) w.heap.size (oA (zeroO 0 0) none 0 0) (by rfl) (by rfl) 34 (oA (zeroO 0 0) none 0 0) K1.out.wv hi0 (by rfl) ha0 ?_)
            refine bodyPost_ret (results_row2 (by rfl) _ _ w.heap.size 34 (oA (zeroO 0 0) none 0 0) (0, 0) _ (by rfl) (setRow_heap _ _ _ _ _ _ K1.out.wv) hu (by rfl) hi0 (.int .i64 10) (by rfl)) (by rfl) ?_
            exact ⟨zeroO 0 0, 10, none, 0, 0, rfl, HG.out, opin_zero _, below_row K1.out.bl (Nat.le_refl _) _, fun a e => by cases e⟩
      · skip
        have e6 : ((k : Int) == 6) = false := by rw [h1]; rfl
        have e9 : ((k : Int) == 9) = false := by rw [h1]; rfl
        have e10 : ((k : Int) == 10) = false := by rw [h1]; rfl
        have e8 : ((k : Int) == 8) = false := by rw [h1]; rfl
        have e11 : ((k : Int) == 11) = false := by rw [h1]; rfl
        have e12 : ((k : Int) == 12) = true := by rw [h1]; rfl
        have RP : Hid (Calls Tryz.prog 71 #[.string x2] w7 fun e w' => ∃ fr tr er, e = .returned (.tuple #[.agg #[.string fr, .string tr], .int .i64 er]) ∧ ParRg x2.data.toList fr tr er ∧ Below w7.heap.size w7 w') := Lib.hid ((Rg.refParse_any x2 w7 H2Z.out).mono (fun e w' ⟨he, hb⟩ => by
          obtain ⟨fr, tr, er, h1, h2⟩ := Rg.parseV_rel x2.data.toList
          exact ⟨fr, tr, er, by rw [he]; exact congrArg _ h1, h2, hb⟩))
        go_upto_region 22 with (go_at_call 71; refine RP.out.mono ?_; rintro e w8 ⟨fr, tr, er, rfl, hpr, hb⟩; have HPR := Lib.hid hpr; have J8 := Lib.hid (J7.out.keep hb); have z4 : w8.cell? ⟨O, 4, none⟩ = some (.string ⟨#[]⟩) := J8.out.wo.cell 4; have z5 : w8.cell? ⟨O, 5, none⟩ = some (.string ⟨#[]⟩) := J8.out.wo.cell 5; have f4 := J8.out.wo.fr 4; have f5 := J8.out.wo.fr 5; have J9 := Lib.hid (J8.out.put_rng fr tr); clear hpr hb RP)
        clear z4 z5 f4 f5 J8
        generalize (w8.setCell ⟨O, 4, none⟩ (.string fr)).setCell ⟨O, 5, none⟩ (.string tr) = w9 at J9 ⊢
        obtain ⟨cc, hcc⟩ : ∃ cc : Ov, cc = { { zeroO (k : Int) nn with f := fr, t := tr } with m := m3 } := ⟨_, rfl⟩
        have HSM := Lib.hid ((rngV_rel x2.data.toList).same HPR.out)
        have HCC : Hid (refV l0 = cc) := Lib.hid (by rw [HRV.out, hcc, HM3.out.1]; unfold tailR; rw [if_neg (by omega), if_neg (by omega), if_neg (by omega), if_pos h1, HSM.out.1, HSM.out.2.1])
        have HRZ := Lib.hid (rng_sz HPR.out)
        have HOZ : Hid (OpZ cc) := Lib.hid (by rw [hcc]; exact opz_mk (show (0 : Int) ≤ (k : Int) ∧ (k : Int) ≤ 12 by have := HK12.out; omega) HNB.out HM3.out.2 sz0 HRZ.out.1 HRZ.out.2)
        have J10 := Lib.hid (J9.out.put_m m3)
        rw [← hcc] at J10
        have y2 : w9.cell? ⟨O, 2, none⟩ = some (.int .i64 0) := J9.out.wo.cell 2
        have f2 := J9.out.wo.fr 2
        clear hcc h1
        go_upto_region 23 with (go_at_call 69; refine (M3.out _).mono ?_; rintro e w12 ⟨rfl, hw8⟩; rw [hw8]; clear hw8 M3)
        clear y2 f2
        generalize w9.setCell ⟨O, 2, none⟩ (.int .i64 m3) = w11 at J10 ⊢
        have HIN := Lib.hid (show OpIn w11 cc none 0 0 from ⟨J10.out.d, HOZ.out⟩)
        obtain ⟨L, hL⟩ : ∃ L, L = oA cc none 0 0 := ⟨_, rfl⟩
        have hi2 : (Tryz.prog.info? 34).map (·.size) = some L.size := by rw [hL]; exact info10 cc none 0 0
        have ha2 : L.all (·.oneCell') = true := by rw [hL]; exact all10 cc none 0 0
        have HLL := Lib.hid hL
        have PR := roprint_any cc none 0 0 w11 HIN.out
        rw [← hL] at PR
        have WO : Hid (Whole w11 O 34 L) := Lib.hid (by rw [hL]; exact J10.out.wo)
        clear hL
        by_cases hgood : opOk cc ∧ textO cc = l0
        · have HG : Hid (ParO l0 cc 0) := Lib.hid (Or.inl ⟨rfl, hgood.1, hgood.2⟩)
          rw [ckO_yes hgood.1, txtO_yes hgood.1, hgood.2, HL0.out, ba_eta] at PR
          have PR := Lib.hid PR
          have hse : (s.toList == s.toList) = true := beq_self_eq_true _
          clear hgood
          go_upto_region 24 with (first
            | (refine wpList_load_row (by rfl) 34 (.tmp 9) (by rfl) _ (by rfl) 34 L (0, 0) _ WO.out hu (by rfl) hi2 ?_)
            | (go_at_call 23; refine PR.out.mono ?_; rintro e w20 ⟨rfl, hb⟩; have K1 := Lib.hid (And.intro (J10.out.keep hb) (WO.out.keep hb)); clear hb PR))
          go_wp2_with (first
            | (refine wpList_load_row (by rfl) 34 (.tmp 9) (by rfl) _ (by rfl) 34 L (0, 0) _ K1.out.2 hu (by rfl) hi2 ?_)
            | (refine wpList_store_row (by rfl) 34 (.tmp 2) (.tmp 94) (by rfl) w.heap.size L (by rfl) (by rfl) 34 (oA (zeroO 0 0) none 0 0) K1.out.1.wv hi2 (by rw [HLL.out]; rfl) ha2 ?_))
          refine bodyPost_ret (results_row2 (by rfl) _ _ w.heap.size 34 L (0, 0) _ (by rfl) (setRow_heap _ _ _ _ _ _ K1.out.1.wv) hu (by rfl) hi2 (.int .i64 0) (by rfl)) (by rfl) ?_
          rw [HLL.out]
          have hG := setRow_grown w20 w.heap.size (oA cc none 0 0)
          exact ⟨cc, 0, none, 0, 0, rfl, HG.out, ⟨K1.out.1.d.grown hG (fun a e _ e2 => by have h4 := K1.out.1.ha a e; have h5 := K1.out.1.vo; have := Option.some.inj e2; omega), HOZ.out⟩, below_row K1.out.1.bl (Nat.le_refl _) _, fun a e => by have h4 := K1.out.1.ha a e; have h5 := K1.out.1.vo; omega⟩
        · have HG : Hid (ParO l0 (zeroO 0 0) 10) := Lib.hid (refV_bad (by rw [HCC.out]; exact hgood))
          have hi0 : (Tryz.prog.info? 34).map (·.size) = some (oA (zeroO 0 0) none 0 0).size := info10 _ _ _ _
          have ha0 : (oA (zeroO 0 0) none 0 0).all (·.oneCell') = true := all10 _ _ _ _
          obtain ⟨tx, htx⟩ : ∃ t : ByteArray, t = ⟨(txtO cc).toArray⟩ := ⟨_, rfl⟩
          rw [← htx] at PR
          have hcase : (ckO cc = 2) ∨ (ckO cc = 0 ∧ (tx.toList == s.toList) = false) := by
            by_cases ok : opOk cc
            · refine Or.inr ⟨ckO_yes ok, key_ne.2 (fun e => hgood ⟨ok, ?_⟩)⟩
              rw [HL0.out, ← e, htx, txtO_yes ok]
            · exact Or.inl (ckO_no ok)
          clear hgood htx
          rcases hcase with h9 | ⟨h9, hne⟩
          all_goals
            rw [h9] at PR
            have PR := Lib.hid PR
            clear h9
            go_upto_region 24 with (first
              | (refine wpList_load_row (by rfl) 34 (.tmp 9) (by rfl) _ (by rfl) 34 L (0, 0) _ WO.out hu (by rfl) hi2 ?_)
              | (go_at_call 23; refine PR.out.mono ?_; rintro e w20 ⟨rfl, hb⟩; have K1 := Lib.hid (J10.out.keep hb); clear hb PR))
            go_wp2_with (refine wpList_store_row (by rfl) 34 (.tmp 2) (.tmp 93) (by rfl) w.heap.size (oA (zeroO 0 0) none 0 0) (by rfl) (by rfl) 34 (oA (zeroO 0 0) none 0 0) K1.out.wv hi0 (by rfl) ha0 ?_)
            refine bodyPost_ret (results_row2 (by rfl) _ _ w.heap.size 34 (oA (zeroO 0 0) none 0 0) (0, 0) _ (by rfl) (setRow_heap _ _ _ _ _ _ K1.out.wv) hu (by rfl) hi0 (.int .i64 10) (by rfl)) (by rfl) ?_
            exact ⟨zeroO 0 0, 10, none, 0, 0, rfl, HG.out, opin_zero _, below_row K1.out.bl (Nat.le_refl _) _, fun a e => by cases e⟩
end Go.Proofs.YtojodekmmkemgaaGreatDoor
