/- CmdsTexts returns true at every input. Conditions: as the statement's own. -/
import Derived.Test.YtgjnmfmbheejoaaGreatDoorCmUse
import Derived.Test.YtgjnmfmbheejoaaGreatDoorCmMd
import Derived.Test.YtgjnmfmbheejoaaGreatDoorCmTxS
import Derived.Test.YtgjnmfmbheejoaaGreatDoorCmOk
import Derived.Test.YtgjnmfmbheejoaaGreatDoorCmWrk
namespace Go.Proofs.YtgjnmfmbheejoaaGreatDoor
open Go.RowKit Go.Shelf

theorem skeep5 {w0 wc w2 : World} {B : Nat} {a1 a2 a3 a4 a5 : Addr} {x1 x2 x3 x4 x5 : Value} (hH : wc.cell? a1 = some x1 ∧ wc.cell? a2 = some x2 ∧ wc.cell? a3 = some x3 ∧ wc.cell? a4 = some x4 ∧ wc.cell? a5 = some x5 ∧ Below B w0 wc ∧ B ≤ wc.heap.size) (hb : Below wc.heap.size wc w2) : w2.cell? a1 = some x1 ∧ w2.cell? a2 = some x2 ∧ w2.cell? a3 = some x3 ∧ w2.cell? a4 = some x4 ∧ w2.cell? a5 = some x5 ∧ Below B w0 w2 ∧ B ≤ w2.heap.size :=
  ⟨bcell hH.1 hb, bcell hH.2.1 hb, bcell hH.2.2.1 hb, bcell hH.2.2.2.1 hb, bcell hH.2.2.2.2.1 hb, hH.2.2.2.2.2.1.trans (hb.mono hH.2.2.2.2.2.2), Nat.le_trans hH.2.2.2.2.2.2 hb.size⟩
theorem sb5 {w0 wc : World} {B : Nat} {a1 a2 a3 a4 a5 : Addr} {x1 x2 x3 x4 x5 : Value} (hH : wc.cell? a1 = some x1 ∧ wc.cell? a2 = some x2 ∧ wc.cell? a3 = some x3 ∧ wc.cell? a4 = some x4 ∧ wc.cell? a5 = some x5 ∧ Below B w0 wc ∧ B ≤ wc.heap.size) : Below B w0 wc := hH.2.2.2.2.2.1
theorem idx_first (b : UInt8) (r : List UInt8) (n : Int) (hn : (b.toNat : Int) = n) : ∀ W : World, (Instr.index 9 (.string ⟨(b :: r).toArray⟩) (.int .i64 0)).run Tryz.prog W = .ok (.int .u8 n) W := fun W => by
  have hl : 0 < (⟨(b :: r).toArray⟩ : ByteArray).size := by rw [Lib.size_mk]; simp
  rw [run_index_string _ _ _ _ _ Tryz.underlying9, dif_pos ⟨by omega, by omega⟩]
  rw [← hn]
  rfl
theorem info8t (x : Nv) : (Tryz.prog.info? 62).map (·.size) = some (nA x).size := by kernel_rfl
set_option maxRecDepth 100000 in
set_option maxHeartbeats 16000000 in
theorem cmdsTexts_any (x : Nv) (hz : NvZ x) (w : World) (hE : DfE w) (hK : KndE w) (hT : TxE w) :
    Calls Tryz.prog 11 #[.agg (nA x)] w fun e w' => e = .returned (.bool true) ∧ Below w.heap.size w w' := by
  have HE := Lib.hid hE
  have HK := Lib.hid hK
  obtain ⟨c, hc⟩ : ∃ c, c = madeC x := ⟨_, rfl⟩
  have HOK : Hid (cmdOk c) := Lib.hid (by rw [hc]; exact madeC_ok x hz.data)
  obtain ⟨t, ht⟩ : ∃ t, t = x.kind % 10 := ⟨_, rfl⟩
  have HTK : Hid (t < 10 ∧ c.k = (kindsL[t]?).getD 0) := Lib.hid ⟨by omega, by rw [hc, madeC_k, ht]; rfl⟩
  have MD := Lib.hid (fun W (h : Below w.heap.size w W) => made_any x hz W (hK.keep h))
  unfold MadeR at MD
  rw [← hc] at MD
  have WK := Lib.hid (fun (W : World) (hb : Below w.heap.size w W) => works_any W (hE.keep hb))
  have I1 := Lib.hid (And.intro ((Below.refl w.heap.size w).alloc (Nat.le_refl _) (.cells (nA x) 62)) (Whole.new w 62 (nA x)))
  obtain ⟨s, hs⟩ : ∃ s : ByteArray, s = ⟨(textC c).toArray⟩ := ⟨_, rfl⟩
  have TX := fun W (h : Below w.heap.size w W) A n m (hi : CmdIn W c A n m) => txtok_any c A n m W (hE.keep h) hi HOK.out
  have SP := fun W (h : Below w.heap.size w W) => split_any c W (hE.keep h) HOK.out
  have CN : ∀ W, Calls Tryz.prog 43 #[.string s, .string ⟨#[10]⟩] W fun e w' => e = .returned (.bool false) ∧ W = w' := fun W => by
    refine (Tryz.strings_Contains_one s 10 W).mono ?_
    rintro e w' ⟨rfl, rfl⟩
    have h := no_line HOK.out
    rw [hs]
    exact ⟨by rw [show (⟨(textC c).toArray⟩ : ByteArray).data.toList = textC c from rfl, h], rfl⟩
  obtain ⟨q, hq⟩ : ∃ q : Nat, q = (wordsC c).length := ⟨_, rfl⟩
  rw [← hs] at TX SP
  rw [← hq] at SP
  have SP := Lib.hid SP
  have TX := Lib.hid TX
  have CN := Lib.hid CN
  have LN := Lib.hid (fun W (h : Below w.heap.size w W) => line_any W (hT.keep h))
  have SH : Hid (∀ A n m W, Calls Tryz.prog 32 #[.agg (cA c A n m)] W fun e w' => e = .returned (.bool (decide ((t : Int) < 5))) ∧ Below W.heap.size W w') := Lib.hid (fun A n m W => by
    have h := shard_any c A n m W
    rw [HTK.out.2, shard_t t HTK.out.1] at h
    exact h)
  have HQ : Hid (q = (wordsC c).length) := Lib.hid hq
  have HQ0 : Hid (0 < q) := Lib.hid (by rw [hq]; unfold wordsC; simp)
  clear hz hE hK hc hT ht hs hq
  go_enter Tryz.func11, Tryz.ntmps11
  go_upto_region 1 with fail
  generalize w.alloc (.cells (nA x) 62) = w1 at I1 ⊢
  have MD := Lib.hid (MD.out w1 I1.out.1)
  go_upto_region 2 with (first
    | (refine wpList_load_row (by rfl) 62 (.tmp 1) (by rfl) _ (by rfl) 62 (nA x) (0, 0) _ I1.out.2 Tryz.underlying62 (by rfl) (info8t x) ?_)
    | (go_at_call 36; refine MD.out.mono ?_; rintro e w2 ⟨⟨A, na, m, rfl, hi⟩, hb⟩; have ba := (Below.refl w2.heap.size w2).alloc (Nat.le_refl _) (.cells (cA c A na m) 36); have b2 := I1.out.1.trans (hb.mono I1.out.1.size); have I2 := Lib.hid (And.intro (b2.trans (ba.mono b2.size)) (CmdAt.new hi)); clear hi hb ba b2 MD)
    | (refine wpList_store_row (by rfl) 36 (.tmp 3) (.tmp 17) (by rfl) _ (cA c A na m) (by rfl) (by rfl) 36 _ (heap_alloc_new _ _) (info24 _ _ _ _) (by rfl) (all24 _ _ _ _) ?_; rw [World.setRow_alloc_new]))
  clear I1
  generalize w2.alloc (.cells (cA c A na m) 36) = w3 at I2 ⊢
  generalize w2.heap.size = P at I2 ⊢
  have TX := Lib.hid (TX.out w3 I2.out.1 A na m I2.out.2.i)
  go_upto_region 3 with (first
    | (refine wpList_load_row (by rfl) 36 (.tmp 3) (by rfl) _ (by rfl) 36 (cA c A na m) (0, 0) _ I2.out.2.w Tryz.underlying36 (by rfl) (info24 c A na m) ?_)
    | (go_at_call 28; refine TX.out.mono ?_; rintro e w4 ⟨rfl, hb⟩; have I3 := Lib.hid (And.intro (I2.out.1.trans (hb.mono I2.out.1.size)) (I2.out.2.keep hb)); clear hb))
  clear I2 TX
  have SP := Lib.hid (SP.out w4 I3.out.1)
  go_upto_region 4 with (go_at_call 41; refine SP.out.mono ?_; rintro e w5 ⟨rfl, hb, hw⟩; have I4 := Lib.hid (And.intro (I3.out.1.trans (hb.mono I3.out.1.size)) (And.intro (I3.out.2.keep hb) hw)); clear hb hw)
  clear I3 SP
  generalize w4.heap.size = G at I4 ⊢
  obtain ⟨b, o, cp, k0, k1⟩ := HK.out.keep I4.out.1
  have K1 := Lib.hid k1
  have y0 : w5.cell? ⟨P, 0, none⟩ = some (.int .i64 c.k) := I4.out.2.1.w.cell 0
  clear k1
  go_wp2_with fail
  go_loopw [7, 27] (fun s7 i wr => ∃ (j a : Nat), j ≤ 10 ∧ i = .int .i64 j ∧ s7 = .int .i64 a ∧ Hid (a = if t < j then t else 0) ∧ w5 = wr) (fun _ i _ => 10 - (intOf i).toNat)
  case atStart => exact ⟨0, 0, by omega, rfl, rfl, Lib.hid rfl, rfl⟩
  case round =>
    obtain ⟨j, a, hj, rfl, rfl, HA, rfl⟩ := hrel
    by_cases hj10 : j < 10
    · have xj := K1.out j hj10
      have HI := kinds_iff j t hj10 HTK.out.1
      rw [← HTK.out.2] at HI
      obtain ⟨v, hv⟩ : ∃ v, v = (kindsL[j]?).getD 0 := ⟨_, rfl⟩
      rw [← hv] at xj HI
      clear hv
      have hj0 : (j : Int) < 10 := by omega
      have hj1 : (0 : Int) ≤ (j : Int) := by omega
      have hwj : IntKind.i64.wrap ((j : Int) + 1) = (j : Int) + 1 := IntWalk.i64_in _ (by omega)
      by_cases hjt : j = t
      · have ek : (v == c.k) = true := by rw [HI.2 hjt]; exact beq_self_eq_true _
        have HJ := Lib.hid hjt
        clear hjt HI
        go_wp2_with fail
        go_roundw
        case rel => exact ⟨j + 1, j, by omega, by go_num, rfl, Lib.hid (by rw [if_pos (by have := HJ.out; omega)]; exact HJ.out), trivial⟩
        case measure => simp [intOf]; omega
      · have ek : (v == c.k) = false := beq_eq_false_iff_ne.2 (fun e => hjt (HI.1 e))
        have HJ := Lib.hid hjt
        clear hjt HI
        go_wp2_with fail
        go_roundw
        case rel => exact ⟨j + 1, a, by omega, by go_num, rfl, Lib.hid (by rw [HA.out]; have := HJ.out; by_cases h : t < j; rw [if_pos h, if_pos (by omega)]; rw [if_neg h, if_neg (by omega)]), trivial⟩
        case measure => simp [intOf]; omega
    · have hat : a = t := by rw [HA.out, if_pos (by have := HTK.out.1; omega)]
      subst hat
      have hnj : ¬ ((j : Int) < 10) := by omega
      have ht0 : (0 : Int) ≤ (a : Int) := by omega
      have ht1 : (a : Int) < 10 := by have := HTK.out.1; omega
      obtain ⟨kw, hkw⟩ : ∃ kw : ByteArray, kw = ⟨(wordK c.k).toArray⟩ := ⟨_, rfl⟩
      have HKW := Lib.hid hkw
      clear hkw
      have LN := Lib.hid (LN.out w5 I4.out.1)
      clear k0 y0
      go_upto_region 12 with (go_at_call 42; refine LN.out.mono ?_; rintro e w6 ⟨rfl, hb, hw⟩; have I5 := Lib.hid (And.intro (I4.out.1.trans (hb.mono I4.out.1.size)) (And.intro (I4.out.2.1.keep hb) (I4.out.2.2.keep hb))); have v0 : w6.cell? ⟨w5.heap.size, a, none⟩ = some (.string kw) := (by rw [HKW.out, HTK.out.2]; exact hw a _ (word_get a HTK.out.1)); clear hb hw)
      clear I4 LN v0
      generalize w5.heap.size = G2 at *
      have HQ0 := HQ0
      have hq0 : (0 : Int) < (q : Int) := by have := HQ0.out; omega
      have z0 : w6.cell? ⟨G, 0, none⟩ = some (.string kw) := by rw [HKW.out]; exact I5.out.2.2 0 _ (words_fst c)
      have hdd : (decide ((a : Int) < 5) != decide ((a : Int) < 5)) = false := bne_self_eq_false _
      go_upto_region 14 with (first
        | (go_at_call 43; refine (CN.out _).mono ?_; rintro e wa ⟨rfl, rfl⟩)
        | (refine wpList_load_rowG (by rfl) 36 (.tmp 3) (by rfl) _ (by rfl) 36 (cA c A na m) (0, 0) _ I5.out.2.1.w Tryz.underlying36 (by rfl) (info24 c A na m) ?_)
        | (go_at_call 32; refine (SH.out A na m _).mono ?_; rintro e w7 ⟨rfl, hb⟩; have I6 := Lib.hid (And.intro (I5.out.1.trans (hb.mono I5.out.1.size)) (And.intro (I5.out.2.1.keep hb) (I5.out.2.2.keep hb))); clear hb))
      clear z0 ht0 ht1 hnj hdd
      have HZN : Hid (na = c.d.s.length ∧ na ≤ 1000000000000) := Lib.hid ⟨I6.out.2.1.i.d.len.symm, I6.out.2.1.i.d.big⟩
      have hw1 : IntKind.i64.wrap (7 + (na : Int)) = 7 + (na : Int) := IntWalk.i64_in _ (by have := HZN.out.2; omega)
      have hw2 : IntKind.i64.wrap (7 + (na : Int) - 1) = 7 + (na : Int) - 1 := IntWalk.i64_in _ (by have := HZN.out.2; omega)
      have y15 : w7.cell? ⟨P, 15, none⟩ = some (.slice A na m) := I6.out.2.1.w.cell 15
      have NP : (w7.alloc (.cells #[.int .i64 1, .int .i64 4, .int .i64 3, .int .i64 3, .int .i64 4, .int .i64 (7 + (na : Int) - 1), .int .i64 3, .int .i64 3, .int .i64 4, .int .i64 4] 3)).cell? ⟨w7.heap.size, a, none⟩ = some (.int .i64 (q : Int)) := by
        have h1 := (Whole.new w7 3 (partsV na)).cell a
        rw [HZN.out.1, parts_get HOK.out a HTK.out.1 HTK.out.2, ← HQ.out] at h1
        rw [← HZN.out.1] at h1
        exact h1
      have BA := Lib.hid ((Below.refl w7.heap.size w7).alloc (Nat.le_refl _) (.cells #[.int .i64 1, .int .i64 4, .int .i64 3, .int .i64 3, .int .i64 4, .int .i64 (7 + (na : Int) - 1), .int .i64 3, .int .i64 3, .int .i64 4, .int .i64 4] 3))
      have I7 := Lib.hid (And.intro (I6.out.1.trans (BA.out.mono I6.out.1.size)) (And.intro (I6.out.2.1.keep BA.out) (I6.out.2.2.keep BA.out)))
      have ht0 : (0 : Int) ≤ (a : Int) := by omega
      have ht1 : (a : Int) < 10 := by have := HTK.out.1; omega
      clear I6 BA HZN
      go_upto_region 15 with fail
      clear hw1 hw2 y15 NP ht0 ht1
      generalize w7.alloc (.cells #[.int .i64 1, .int .i64 4, .int .i64 3, .int .i64 3, .int .i64 4, .int .i64 (7 + (na : Int) - 1), .int .i64 3, .int .i64 3, .int .i64 4, .int .i64 4] 3) = w8 at I7 ⊢
      have hqq : ((q : Int) != (q : Int)) = false := bne_self_eq_false _
      have y0 : w8.cell? ⟨P, 0, none⟩ = some (.int .i64 c.k) := I7.out.2.1.w.cell 0
      by_cases hk1 : c.k = 1
      · have e1 : (c.k == 1) = true := by rw [hk1]; rfl
        obtain ⟨r, hwd, hef⟩ := words_eff HOK.out hk1
        have hq4 : q = 4 := by rw [HQ.out, hwd]; rfl
        subst hq4
        have EF := Id.effect_yes c.ea c.eb c.ec w8 (powE (HE.out.keep I7.out.1)) hef
        obtain ⟨et, het⟩ : ∃ et : ByteArray, et = ⟨(effText c.ea c.eb c.ec).toArray⟩ := ⟨_, rfl⟩
        rw [← het] at EF
        have EF := Lib.hid EF
        have x3 : w8.cell? ⟨P, 3, none⟩ = some (.int .i64 c.ea) := I7.out.2.1.w.cell 3
        have x4 : w8.cell? ⟨P, 4, none⟩ = some (.int .i64 c.eb) := I7.out.2.1.w.cell 4
        have x5 : w8.cell? ⟨P, 5, none⟩ = some (.int .i64 c.ec) := I7.out.2.1.w.cell 5
        have H1 : Hid ((wordsC c)[1]? = some (effText c.ea c.eb c.ec) ∧ (wordsC c)[2]? = some c.key.data.toList ∧ (wordsC c)[3]? = some ((if c.dl < 0 then 45 else 43) :: r)) := Lib.hid (by rw [hwd]; exact ⟨rfl, rfl, rfl⟩)
        clear hk1 hwd hef
        by_cases hdl : c.dl < 0
        · obtain ⟨sg, hsg⟩ : ∃ sg : ByteArray, sg = ⟨((45 : UInt8) :: r).toArray⟩ := ⟨_, rfl⟩
          have hix := idx_first 45 r 45 (by decide)
          rw [← hsg] at hix
          have hdd : (decide (c.dl < 0)) = true := by simp [hdl]
          have HSG : Hid (∀ W, WdAt W G (wordsC c) → W.cell? ⟨G, 1, none⟩ = some (.string et) ∧ W.cell? ⟨G, 2, none⟩ = some (.string c.key) ∧ W.cell? ⟨G, 3, none⟩ = some (.string sg)) := Lib.hid (fun W h => by
            have h1 := h 1 _ H1.out.1
            have h2 := h 2 _ H1.out.2.1
            have h3 := h 3 _ H1.out.2.2
            simp only [hdl, if_true] at h3
            rw [ba_eta] at h2
            rw [het, hsg]
            exact ⟨h1, h2, h3⟩)
          clear hsg het
          go_upto_region 20 with (go_at_call 44; refine EF.out.mono ?_; rintro e w9 ⟨rfl, hb⟩; have I9 := Lib.hid (And.intro (I7.out.1.trans (hb.mono I7.out.1.size)) (And.intro (I7.out.2.1.keep hb) (I7.out.2.2.keep hb))); clear hb EF y0 x3 x4 x5)
          have SA : Hid (w9.drew.cell? ⟨G, 1, none⟩ = some (.string et) ∧ w9.drew.cell? ⟨G, 2, none⟩ = some (.string c.key) ∧ w9.drew.cell? ⟨G, 3, none⟩ = some (.string sg) ∧ w9.drew.cell? ⟨P, 6, none⟩ = some (.string c.key) ∧ w9.drew.cell? ⟨P, 7, none⟩ = some (.int .i64 c.dl) ∧ Below w.heap.size w w9.drew ∧ w.heap.size ≤ w9.drew.heap.size) :=
            Lib.hid ⟨(HSG.out w9 I9.out.2.2).1, (HSG.out w9 I9.out.2.2).2.1, (HSG.out w9 I9.out.2.2).2.2, I9.out.2.1.w.cell 6, I9.out.2.1.w.cell 7, I9.out.1.drew, I9.out.1.size⟩
          clear I9 I7 HSG H1
          go_region_held3 (fun wx => wx.cell? ⟨G, 1, none⟩ = some (.string et) ∧ wx.cell? ⟨G, 2, none⟩ = some (.string c.key) ∧ wx.cell? ⟨G, 3, none⟩ = some (.string sg) ∧ wx.cell? ⟨P, 6, none⟩ = some (.string c.key) ∧ wx.cell? ⟨P, 7, none⟩ = some (.int .i64 c.dl) ∧ Below w.heap.size w wx ∧ w.heap.size ≤ wx.heap.size)
            (first | exact SA.out | assumption | (refine skeep5 ?_ hb2; assumption))
            (first | (go_at_call 12; refine (WK.out _ ?_).mono ?_; (apply sb5; assumption); rintro e w11 ⟨rfl, hb2⟩))
          rename_i hF
          have BF := Lib.hid hF.2.2.2.2.2.1
          clear hF
          go_wp2_with fail
          go_ret
          exact ⟨rfl, BF.out⟩
        · obtain ⟨sg, hsg⟩ : ∃ sg : ByteArray, sg = ⟨((43 : UInt8) :: r).toArray⟩ := ⟨_, rfl⟩
          have hix := idx_first 43 r 43 (by decide)
          rw [← hsg] at hix
          have hdd : (decide (c.dl < 0)) = false := by simp [hdl]
          have HSG : Hid (∀ W, WdAt W G (wordsC c) → W.cell? ⟨G, 1, none⟩ = some (.string et) ∧ W.cell? ⟨G, 2, none⟩ = some (.string c.key) ∧ W.cell? ⟨G, 3, none⟩ = some (.string sg)) := Lib.hid (fun W h => by
            have h1 := h 1 _ H1.out.1
            have h2 := h 2 _ H1.out.2.1
            have h3 := h 3 _ H1.out.2.2
            simp only [hdl, if_false] at h3
            rw [ba_eta] at h2
            rw [het, hsg]
            exact ⟨h1, h2, h3⟩)
          clear hsg het
          go_upto_region 20 with (go_at_call 44; refine EF.out.mono ?_; rintro e w9 ⟨rfl, hb⟩; have I9 := Lib.hid (And.intro (I7.out.1.trans (hb.mono I7.out.1.size)) (And.intro (I7.out.2.1.keep hb) (I7.out.2.2.keep hb))); clear hb EF y0 x3 x4 x5)
          have SA : Hid (w9.drew.cell? ⟨G, 1, none⟩ = some (.string et) ∧ w9.drew.cell? ⟨G, 2, none⟩ = some (.string c.key) ∧ w9.drew.cell? ⟨G, 3, none⟩ = some (.string sg) ∧ w9.drew.cell? ⟨P, 6, none⟩ = some (.string c.key) ∧ w9.drew.cell? ⟨P, 7, none⟩ = some (.int .i64 c.dl) ∧ Below w.heap.size w w9.drew ∧ w.heap.size ≤ w9.drew.heap.size) :=
            Lib.hid ⟨(HSG.out w9 I9.out.2.2).1, (HSG.out w9 I9.out.2.2).2.1, (HSG.out w9 I9.out.2.2).2.2, I9.out.2.1.w.cell 6, I9.out.2.1.w.cell 7, I9.out.1.drew, I9.out.1.size⟩
          clear I9 I7 HSG H1
          go_region_held3 (fun wx => wx.cell? ⟨G, 1, none⟩ = some (.string et) ∧ wx.cell? ⟨G, 2, none⟩ = some (.string c.key) ∧ wx.cell? ⟨G, 3, none⟩ = some (.string sg) ∧ wx.cell? ⟨P, 6, none⟩ = some (.string c.key) ∧ wx.cell? ⟨P, 7, none⟩ = some (.int .i64 c.dl) ∧ Below w.heap.size w wx ∧ w.heap.size ≤ wx.heap.size)
            (first | exact SA.out | assumption | (refine skeep5 ?_ hb2; assumption))
            (first | (go_at_call 12; refine (WK.out _ ?_).mono ?_; (apply sb5; assumption); rintro e w11 ⟨rfl, hb2⟩))
          rename_i hF
          have BF := Lib.hid hF.2.2.2.2.2.1
          clear hF
          go_wp2_with fail
          go_ret
          exact ⟨rfl, BF.out⟩
      · have e1 : (c.k == 1) = false := beq_eq_false_iff_ne.2 hk1
        by_cases hk2 : c.k = 15
        · have e2 : (c.k == 15) = true := by rw [hk2]; rfl
          obtain ⟨hwd, hit⟩ := words_res HOK.out hk2
          have hq1 : (1 : Int) < (q : Int) := by
            have := (List.getElem?_eq_some_iff.1 hwd).1
            rw [← HQ.out] at this
            omega
          have IT := Id.item_all c.it.a c.it.b c.it.c c.it.m c.it.i c.it.g w8 (powE (HE.out.keep I7.out.1))
          rw [Id.itemW_yes hit] at IT
          dsimp only at IT
          obtain ⟨et, het⟩ : ∃ et : ByteArray, et = ⟨(itemText c.it.a c.it.b c.it.c c.it.m c.it.i c.it.g).toArray⟩ := ⟨_, rfl⟩
          rw [← het] at IT
          have IT := Lib.hid IT
          have HSG : Hid (∀ W, WdAt W G (wordsC c) → W.cell? ⟨G, 1, none⟩ = some (.string et)) := Lib.hid (fun W h => by rw [het]; exact h 1 _ hwd)
          have x0 : w8.cell? ⟨P, 16, none⟩ = some (.int .i64 c.it.a) := I7.out.2.1.w.cell 16
          have x1 : w8.cell? ⟨P, 17, none⟩ = some (.int .i64 c.it.b) := I7.out.2.1.w.cell 17
          have x2 : w8.cell? ⟨P, 18, none⟩ = some (.int .i64 c.it.c) := I7.out.2.1.w.cell 18
          have x3 : w8.cell? ⟨P, 19, none⟩ = some (.int .i64 c.it.m) := I7.out.2.1.w.cell 19
          have x4 : w8.cell? ⟨P, 20, none⟩ = some (.bool c.it.i) := I7.out.2.1.w.cell 20
          have x5 : w8.cell? ⟨P, 21, none⟩ = some (.int .i64 c.it.g) := I7.out.2.1.w.cell 21
          clear hk1 hk2 hwd hit het
          go_upto_region 23 with (go_at_call 45; refine IT.out.mono ?_; rintro e w9 ⟨rfl, hb⟩; have I9 := Lib.hid (And.intro (I7.out.1.trans (hb.mono I7.out.1.size)) (I7.out.2.2.keep hb)); clear hb IT y0 x0 x1 x2 x3 x4 x5)
          have y1 := HSG.out w9 I9.out.2
          have WK := Lib.hid (WK.out w9 I9.out.1)
          go_wp2_with (go_at_call 12; refine WK.out.mono ?_; rintro e w11 ⟨rfl, hb⟩; have BF := Lib.hid (I9.out.1.trans (hb.mono I9.out.1.size)); clear hb)
          go_ret
          exact ⟨rfl, BF.out⟩
        · have e2 : (c.k == 15) = false := beq_eq_false_iff_ne.2 hk2
          have WK := Lib.hid (WK.out w8 I7.out.1)
          clear hk1 hk2
          go_wp2_with (go_at_call 12; refine WK.out.mono ?_; rintro e w11 ⟨rfl, hb⟩; have BF := Lib.hid (I7.out.1.trans (hb.mono I7.out.1.size)); clear hb)
          go_ret
          exact ⟨rfl, BF.out⟩
end Go.Proofs.YtgjnmfmbheejoaaGreatDoor
