/- A move changes the keys of its range alone; moved back. Condition: the list of moves lies ahead. -/
import Derived.Test.YtkkkppbcjmeapaaDoorRtE
namespace Go.Proofs.YtkkkppbcjmeapaaDoor
open Go.RowKit

theorem spG_in (c : Nat) : 1 ≤ spG c ∧ spG c < 8 := by unfold spG; omega
set_option maxRecDepth 100000 in
set_option maxHeartbeats 8000000 in
theorem routeMoves_any (x : Option Addr) (n cap : Nat) (l : List (Nat × Nat × Nat)) (a b c : Nat) (w : World) (hln : l.length = n) (hnc : n ≤ cap) (hM : SlM w x l) (ha : a < 256) (hb : b < 256) (hc : c < 256) :
    Calls Tryd.prog 5 #[.slice x n cap, .agg #[.int .u8 (a : Int), .int .u8 (b : Int), .int .u8 (c : Int)] ] w fun e w' => e = .returned (.bool true) ∧ Below w.heap.size w w' := by
  have b0 := Lib.hid (fun o => (Below.refl w.heap.size w).alloc (Nat.le_refl _) o)
  have X0 := Lib.hid (Whole.new w 24 #[.int .u8 (a : Int), .int .u8 (b : Int), .int .u8 (c : Int)])
  have b00 := Lib.hid (b0.out (.cells #[.int .u8 (a : Int), .int .u8 (b : Int), .int .u8 (c : Int)] 24))
  have h20 : ∀ W, (Builtin.min_ #[3, 3] 3 #[.int .i64 (n : Int), .int .i64 20]).run Tryd.prog W = .ok (.int .i64 ((min n 20 : Nat) : Int)) W := fun W => min_nat _ _ n 20 W
  have hct : ∀ W, (Instr.slice 22 (.slice x n cap) none (some (.int .i64 ((min n 20 : Nat) : Int))) none).run Tryd.prog W = .ok (.slice x (min n 20) cap) W := fun W => cut_moves x (min n 20) n cap (by omega) W
  have HM := Lib.hid hM
  have HLN := Lib.hid hln
  obtain ⟨m, hm⟩ : ∃ m, m = min n 20 := ⟨_, rfl⟩
  rw [← hm] at h20 hct
  have HMN := Lib.hid hm
  clear hM hln hm
  go_enter Tryd.func5, Tryd.ntmps5
  go_wp2_with fail
  generalize w.alloc (.cells #[.int .u8 (a : Int), .int .u8 (b : Int), .int .u8 (c : Int)] 24) = w0 at X0 b00 ⊢
  refine (begun_stm w0 _ (Below.refl _ _)).mono ?_
  rintro e w1 ⟨B, A, rfl, hS⟩
  have S1 := Lib.hid hS
  clear hS b0
  go_wp2_with fail
  clear h20 hct
  go_loopw [55] (fun i wr => ∃ (k : Nat) (d : List Pt) (acc : Nat → Int × Int), k ≤ m ∧ i = .int .i64 k ∧ Hid (Stm w0 wr B A k d acc)) (fun i _ => m - (intOf i).toNat)
  case atStart => exact ⟨0, _, _, Nat.zero_le _, rfl, S1⟩
  case round =>
    clear S1
    obtain ⟨k, d, acc, hk, rfl, S⟩ := hrel
    by_cases hlt : k < m
    · as_aux_lemma =>
      have hki : (k : Int) < m := by omega
      have hk30 : k ≤ 30 := by have := HMN.out; omega
      have hkl : k < l.length := by have := HMN.out; have := HLN.out; omega
      obtain ⟨ta, tb, tc, hl⟩ : ∃ ta tb tc, l[k]? = some (ta, tb, tc) := ⟨_, _, _, List.getElem?_eq_getElem hkl⟩
      obtain ⟨hta, htb, htc, p, rfl, c0, c1, c2⟩ := HM.out.at (b00.out.trans (S.out.s.s.b.mono b00.out.size)) hl
      have hwk : IntKind.i64.wrap ((k : Int) + 1) = (k : Int) + 1 := IntWalk.i64_in _ (by omega)
      have SP := Lib.hid (fun W => span_any ta tb tc W hta htb htc)
      have X1 := Lib.hid (fun (W : World) => Whole.new W 24 #[.int .u8 (ta : Int), .int .u8 (tb : Int), .int .u8 (tc : Int)])
      go_wp2_with fail
      have hX := X1.out wr
      have hS0 := S.out.keep ((Below.refl wr.heap.size wr).alloc (Nat.le_refl _) (.cells #[.int .u8 (ta : Int), .int .u8 (tb : Int), .int .u8 (tc : Int)] 24))
      refine (SP.out _).mono ?_
      rintro e w2 ⟨rfl, hb2⟩
      have hX2 := (hX.below hb2 hX.lt).alloc (.cells #[.string (spF ta tb), .string (spT ta tb)] 30)
      have hS2 := (hS0.keep hb2)
      have hA2 : w2.heap.size ≠ A := by have := hS2.s.a.lt; omega
      have hB2 : w2.heap.size ≠ B := by have := hS2.s.s.m.lt; omega
      have S2 := Lib.hid (hS2.keep ((Below.refl w2.heap.size w2).alloc (Nat.le_refl _) (.cells #[.string (spF ta tb), .string (spT ta tb)] 30)))
      have R2 := Lib.hid (Whole.new w2 30 #[.string (spF ta tb), .string (spT ta tb)])
      have y0 := (hX2.cell 0).trans (show _ = some (Value.int .u8 (ta : Int)) from rfl)
      have y1 := (hX2.cell 1).trans (show _ = some (Value.int .u8 (tb : Int)) from rfl)
      have y2 := (hX2.cell 2).trans (show _ = some (Value.int .u8 (tc : Int)) from rfl)
      have HT := Lib.hid (And.intro hta (And.intro htb htc))
      clear hX hX2 hS0 hS2 hb2 S SP X1 c0 c1 c2 hta htb htc hl
      go_wp2_with fail
      clear y0 y1 y2
      refine (amv_st S2.out hk30 ta tb tc HT.out.1 HT.out.2.1 HT.out.2.2).mono ?_
      rintro e w3 (⟨_, rfl, hS3, hb3, _⟩ | ⟨o, ep, _, rfl, hS3, hg3, hv, hA3, hn3, _⟩)
      · have S3 := Lib.hid hS3.up
        clear hS3 hb3 S2 R2
        go_wp2_with fail
        go_roundw
        case rel => exact ⟨k + 1, d, acc, by omega, by go_num, S3⟩
        case measure => simp [intOf]; omega
      · have hR3 := R2.out.other hA2 hg3
        have z0 := (hR3.cell 0).trans (show _ = some (Value.string (spF ta tb)) from rfl)
        have z1 := (hR3.cell 1).trans (show _ = some (Value.string (spT ta tb)) from rfl)
        have S3 := Lib.hid hS3
        have HV := Lib.hid hv
        have HA3 := Lib.hid hA3
        have HN3 := Lib.hid hn3
        clear hS3 hg3 hv hA3 hn3 hR3
        go_wp2_with fail
        clear z0 z1
        refine (move_stm S3.out S2.out.a S2.out.l hk30 ta tb tc HV.out HA3.out HN3.out).mono ?_
        rintro e w4 ⟨rfl, hS4, _⟩
        have S4 := Lib.hid hS4
        clear hS4 S3 S2 R2
        go_wp2_with fail
        go_roundw
        case rel => exact ⟨k + 1, _, _, by omega, by go_num, S4⟩
        case measure => simp [intOf]; omega
    · obtain rfl : k = m := by omega
      have hk20 : k ≤ 20 := by have := HMN.out; omega
      clear hlt HM HLN HMN hk
      have SP := Lib.hid (fun W => span_any a b c W ha hb hc)
      have hX := X0.out.below S.out.s.s.b X0.out.lt
      have x0 := (hX.cell 0).trans (show _ = some (Value.int .u8 (a : Int)) from rfl)
      have x1 := (hX.cell 1).trans (show _ = some (Value.int .u8 (b : Int)) from rfl)
      have x2 := (hX.cell 2).trans (show _ = some (Value.int .u8 (c : Int)) from rfl)
      clear hX X0
      go_wp2_with fail
      clear x0 x1 x2
      refine (SP.out _).mono ?_
      rintro e w2 ⟨rfl, hb2⟩
      have S2 := Lib.hid ((S.out.keep hb2).keep ((Below.refl w2.heap.size w2).alloc (Nat.le_refl _) (.cells #[.string (spF a b), .string (spT a b)] 30)))
      have R2 := Lib.hid (Whole.new w2 30 #[.string (spF a b), .string (spT a b)])
      have HOK := Lib.hid (sp_ok a b)
      have HND := Lib.hid (sp_named a b)
      have HSZ := Lib.hid (sp_sml a b)
      have HG := Lib.hid (spG_in c)
      generalize spF a b = X at S2 R2 HOK HND HSZ ⊢
      generalize spT a b = Y at S2 R2 HOK HND HSZ ⊢
      generalize spG c = G at HG ⊢
      clear hb2 S SP
      go_wp2_with fail
      generalize w2.alloc (.cells #[.string X, .string Y] 30) = w3 at S2 R2 ⊢
      generalize w2.heap.size = R at R2 ⊢
      have HL := Lib.hid (show d.length ≤ 41 by have := S2.out.l; omega)
      obtain ⟨E, HE, HA⟩ : ∃ E : Int, Hid (0 ≤ E ∧ E ≤ 100) ∧ Hid (Acc E d acc) := ⟨_, Lib.hid (by omega), Lib.hid S2.out.a⟩
      obtain S := Lib.hid S2.out.s.s
      clear S2 hk20
      have r0 := (R2.out.cell 0).trans (show _ = some (Value.string X) from rfl)
      have r1 := (R2.out.cell 1).trans (show _ = some (Value.string Y) from rfl)
      rcases moved HA.out (by have := HE.out; omega) HE.out.1 HOK.out HND.out.1 HND.out.2 HG.out (by have := HL.out; omega) with ⟨o, bl, hv, hbo, hm⟩ | ⟨o, ep, hv, hog, hM⟩
      · as_aux_lemma =>
        have HV := Lib.hid hv
        have HB := Lib.hid hbo
        have HMv := Lib.hid hm
        clear hv hbo hm
        go_wp2_with fail
        clear r0 r1
        refine (owner_acc S.out HA.out (by have := HL.out; omega) X Y HSZ.out.1 HSZ.out.2 HV.out).mono ?_
        rintro e w4 ⟨rfl, hS4, hb4⟩
        have S4 := Lib.hid hS4
        have R4 := Lib.hid (R2.out.below hb4 R2.out.lt)
        clear hS4 hb4 S R2
        go_wp2_with fail
        refine (copy_st S4.out (by have := HL.out; omega) (acc_ne HA.out)).mono ?_
        rintro e w5 ⟨C, rfl, hCB, _, hC, hS5, hb5⟩
        have T5 : Hid (TwoM w0 w5 B C R X Y d d) := Lib.hid ⟨hS5, hC, R4.out.below hb5 R4.out.lt, hCB⟩
        have r0 := (T5.out.r.cell 0).trans (show _ = some (Value.string X) from rfl)
        have r1 := (T5.out.r.cell 1).trans (show _ = some (Value.string Y) from rfl)
        clear hC hS5 hb5 S4 R4 hCB
        go_wp2_with fail
        clear r0 r1
        refine (move_acc T5.out.s HA.out (by have := HE.out; omega) (by have := HL.out; omega) X Y G HSZ.out.1 HSZ.out.2 HMv.out).mono ?_
        rintro e w6 ⟨rfl, hS6, hg6⟩
        have T6 := Lib.hid (T5.out.move hS6 hg6)
        clear hS6 hg6 T5
        go_upto_region 18 with fail
        go_cut [118] (fun cv wx => cv = .bool false ∧ wx = w6)
        case first => as_aux_lemma =>
          rcases HB.out with rfl | rfl
          · go_wp2_with fail
            go_meet
            exact ⟨rfl, rfl⟩
          · cases bl
            all_goals
              go_wp2_with fail
              go_meet
              exact ⟨rfl, rfl⟩
        case rest =>
          obtain ⟨rfl, rfl⟩ := hcut
          have hdl : d.length ≤ 900 := by have := HL.out; omega
          have hgl : (rgs d).length ≤ 1000000 := by rw [rgs, List.length_map]; omega
          have hgi : (grs d).length ≤ 1000000 := by rw [grs, List.length_map]; omega
          have HDL := Lib.hid (And.intro hdl (And.intro hgl hgi))
          clear hdl hgl hgi HB HMv HV HA HE HG HND HOK HSZ HL
          go_wp2_with fail
          refine (ranges_st T6.out.s (n := d.length) rfl HDL.out.1).mono ?_
          rintro e w7 ⟨a1, c1, rfl, hR1, hS1, hb7⟩
          have T7 := Lib.hid (T6.out.keep hb7)
          have V1 := Lib.hid hR1
          clear hR1 hS1 hb7 T6
          go_wp2_with fail
          refine (ranges_st T7.out.c (n := d.length) rfl HDL.out.1).mono ?_
          rintro e w8 ⟨a2, c2, rfl, hR2, hS1, hb8⟩
          have T8 := Lib.hid (T7.out.keep hb8)
          have V2 := Lib.hid hR2
          have V1' := Lib.hid (V1.out.keep hb8)
          clear hR2 hS1 hb8 T7 V1
          go_wp2_with fail
          refine (equalR_same V1'.out V2.out HDL.out.2.1).mono ?_
          rintro e w9 ⟨rfl, hb9⟩
          have T9 := Lib.hid (T8.out.keep hb9)
          clear hb9 T8 V1' V2
          go_wp2_with fail
          refine (groups_st T9.out.s (n := d.length) rfl HDL.out.1).mono ?_
          rintro e w7 ⟨a3, c3, rfl, hR1, hS1, hb7⟩
          have T7 := Lib.hid (T9.out.keep hb7)
          have V1 := Lib.hid hR1
          clear hR1 hS1 hb7 T9
          go_wp2_with fail
          refine (groups_st T7.out.c (n := d.length) rfl HDL.out.1).mono ?_
          rintro e w8 ⟨a4, c4, rfl, hR2, hS1, hb8⟩
          have T8 := Lib.hid (T7.out.keep hb8)
          have V2 := Lib.hid hR2
          have V1' := Lib.hid (V1.out.keep hb8)
          clear hR2 hS1 hb8 T7 V1
          go_wp2_with fail
          refine (equalI_same V1'.out V2.out HDL.out.2.2).mono ?_
          rintro e w9 ⟨rfl, hb9⟩
          have T9 := Lib.hid (T8.out.keep hb9)
          clear hb9 T8 V1' V2
          go_wp2_with fail
          refine (works_st T9.out.s).mono ?_
          rintro e w8 ⟨rfl, hb8⟩
          have BE := Lib.hid (b00.out.trans (hb8.mono b00.out.size))
          clear hb8 T9
          go_wp2_with fail
          go_ret
          exact ⟨rfl, BE.out⟩
      · as_aux_lemma =>
        obtain ⟨v1, a1, l1, w1, k1, v2, a2, l2, w2, o1, e1⟩ := hM
        have HV := Lib.hid hv
        have hog1 : (o == G) = false := beq_eq_false_iff_ne.2 hog
        have hog2 : (o = G) = False := eq_false hog
        have hog3 : (o != G) = true := by simp [hog]
        have hset : ∀ k, accSet acc X Y G ep k = if hasR X Y (nmS k) = true then (G, ep) else acc k := fun k => rfl
        generalize newL d X Y G = d1 at v1 a1 l1 w1 v2 a2 l2 w2
        generalize newL d1 X Y o = d2 at v2 a2 l2 w2
        generalize accSet (accSet acc X Y G ep) X Y o (ep + 1) = acc2 at a2
        generalize accSet acc X Y G ep = acc1 at a1 hset
        have V1 := Lib.hid v1
        have A1 := Lib.hid a1
        have L1 := Lib.hid l1
        have W1 := Lib.hid w1
        have K1 := Lib.hid k1
        have V2 := Lib.hid v2
        have A2 := Lib.hid a2
        have L2 := Lib.hid l2
        have W2 := Lib.hid w2
        have E1 := Lib.hid e1
        have O1 := Lib.hid o1
        have HST := Lib.hid hset
        clear v1 a1 l1 w1 k1 v2 a2 l2 w2 e1 o1 hset hv hog
        go_wp2_with fail
        clear r0 r1
        refine (owner_acc S.out HA.out (by have := HL.out; omega) X Y HSZ.out.1 HSZ.out.2 HV.out).mono ?_
        rintro e w4 ⟨rfl, hS4, hb4⟩
        have S4 := Lib.hid hS4
        have R4 := Lib.hid (R2.out.below hb4 R2.out.lt)
        clear hS4 hb4 S R2
        go_wp2_with fail
        refine (copy_st S4.out (by have := HL.out; omega) (acc_ne HA.out)).mono ?_
        rintro e w5 ⟨C, rfl, hCB, _, hC, hS5, hb5⟩
        have T5 : Hid (TwoM w0 w5 B C R X Y d d) := Lib.hid ⟨hS5, hC, R4.out.below hb5 R4.out.lt, hCB⟩
        have r0 := (T5.out.r.cell 0).trans (show _ = some (Value.string X) from rfl)
        have r1 := (T5.out.r.cell 1).trans (show _ = some (Value.string Y) from rfl)
        clear hC hS5 hb5 S4 R4 hCB
        go_wp2_with fail
        clear r0 r1
        refine (move_acc T5.out.s HA.out (by have := HE.out; omega) (by have := HL.out; omega) X Y G HSZ.out.1 HSZ.out.2 V1.out).mono ?_
        rintro e w6 ⟨rfl, hS6, hg6⟩
        have T6 := Lib.hid (T5.out.move hS6 hg6)
        have r0 := (T6.out.r.cell 0).trans (show _ = some (Value.string X) from rfl)
        have r1 := (T6.out.r.cell 1).trans (show _ = some (Value.string Y) from rfl)
        clear hS6 hg6 T5
        go_wp2_with fail
        clear r0 r1
        refine (owner_acc T6.out.s A1.out (by have := HL.out; have := L1.out; omega) X Y HSZ.out.1 HSZ.out.2 W1.out).mono ?_
        rintro e w7 ⟨rfl, hS7, hb7⟩
        have T7 := Lib.hid (T6.out.keep hb7)
        have HH := Lib.hid (fun (k : Nat) W => has_any X Y (nmS k) W HSZ.out.1 HSZ.out.2 (by rw [nm_size]; omega))
        have NN := Lib.hid (fun (k : Nat) (hk : k < 64) W => nm_nat k (by omega) W)
        clear hS7 hb7 T6
        go_wp2_with fail
        go_loopw [151] (fun i wr => ∃ (k : Nat), k ≤ 64 ∧ i = .int .i64 k ∧ Hid (TwoM w0 wr B C R X Y d d1)) (fun i _ => 64 - (intOf i).toNat)
        case atStart => exact ⟨0, Nat.zero_le _, rfl, T7⟩
        case round =>
          clear T7
          obtain ⟨k, hk, rfl, T⟩ := hrel
          by_cases hlt : k < 64
          · as_aux_lemma =>
            have hki : (k : Int) < 64 := by omega
            have hk0 : (0 : Int) ≤ k := by omega
            have hu : IntKind.u8.wrap (k : Int) = k := IntWalk.u8_in _ (by omega)
            have hwk : IntKind.i64.wrap ((k : Int) + 1) = (k : Int) + 1 := IntWalk.i64_in _ (by omega)
            have HK := Lib.hid (HH.out k)
            have HSH := Lib.hid (HST.out k)
            have hd0 : d.length ≤ 900 := by have := HL.out; omega
            have hd1 : d1.length ≤ 900 := by have := HL.out; have := L1.out; omega
            go_wp2_with fail
            refine (NN.out k hlt _).mono ?_
            rintro e w2 ⟨rfl, hb2⟩
            have T2 := Lib.hid (T.out.keep hb2)
            clear hb2 T
            go_wp2_with fail
            refine (group_key T2.out.c HA.out hd0 hlt).mono ?_
            rintro e w3 ⟨rfl, hb3⟩
            have T3 := Lib.hid (T2.out.keep hb3)
            clear hb3 T2
            go_wp2_with fail
            refine (group_key T3.out.s A1.out hd1 hlt).mono ?_
            rintro e w4 ⟨rfl, hb4⟩
            have T4 := Lib.hid (T3.out.keep hb4)
            clear hb4 T3
            go_wp2_with fail
            refine (epoch_key T4.out.c HA.out hd0 hlt).mono ?_
            rintro e w5 ⟨rfl, hb5⟩
            have T5 := Lib.hid (T4.out.keep hb5)
            clear hb5 T4
            go_wp2_with fail
            refine (epoch_key T5.out.s A1.out hd1 hlt).mono ?_
            rintro e w6 ⟨rfl, hb6⟩
            have T6 := Lib.hid (T5.out.keep hb6)
            have r0 := (T6.out.r.cell 0).trans (show _ = some (Value.string X) from rfl)
            have r1 := (T6.out.r.cell 1).trans (show _ = some (Value.string Y) from rfl)
            clear hb6 T5 hd0 hd1
            cases hh : hasR X Y (nmS k) with
            | true => as_aux_lemma =>
              have HS := HSH.out
              obtain ⟨g1, g2⟩ := K1.out k hlt hh
              rw [hh] at HK HS
              simp only [if_true] at HS
              rw [HS, g1]
              generalize (acc k).2 = n at g2 ⊢
              have g3 : ¬ ep ≤ n := by omega
              clear g1 g2 HS
              go_wp2_with fail
              refine (HK.out _).mono ?_
              rintro e w7 ⟨rfl, hb7⟩
              have T7 := Lib.hid (T6.out.keep hb7)
              clear r0 r1
              have r0 := (T7.out.r.cell 0).trans (show _ = some (Value.string X) from rfl)
              have r1 := (T7.out.r.cell 1).trans (show _ = some (Value.string Y) from rfl)
              clear hb7 T6
              go_wp2_with fail
              refine (HK.out _).mono ?_
              rintro e w8 ⟨rfl, hb8⟩
              have T8 := Lib.hid (T7.out.keep hb8)
              clear hb8 T7 r0 r1
              go_wp2_with fail
              go_roundw
              case rel => exact ⟨k + 1, by omega, by go_num, T8⟩
              case measure => simp [intOf]; omega
            | false => as_aux_lemma =>
              have HS := HSH.out
              rw [hh] at HK HS
              simp only [Bool.false_eq_true, if_false] at HS
              rw [HS]
              generalize (acc k).2 = n
              generalize (acc k).1 = g
              clear HS
              go_wp2_with fail
              refine (HK.out _).mono ?_
              rintro e w7 ⟨rfl, hb7⟩
              have T7 := Lib.hid (T6.out.keep hb7)
              clear r0 r1
              have r0 := (T7.out.r.cell 0).trans (show _ = some (Value.string X) from rfl)
              have r1 := (T7.out.r.cell 1).trans (show _ = some (Value.string Y) from rfl)
              clear hb7 T6
              go_wp2_with fail
              refine (HK.out _).mono ?_
              rintro e w8 ⟨rfl, hb8⟩
              have T8 := Lib.hid (T7.out.keep hb8)
              clear hb8 T7 r0 r1
              go_wp2_with fail
              go_roundw
              case rel => exact ⟨k + 1, by omega, by go_num, T8⟩
              case measure => simp [intOf]; omega
          · as_aux_lemma =>
            obtain rfl : k = 64 := by omega
            rw [show ((64 : Nat) : Int) = 64 from rfl]
            clear hlt hk HH NN K1 HST
            have r0 := (T.out.r.cell 0).trans (show _ = some (Value.string X) from rfl)
            have r1 := (T.out.r.cell 1).trans (show _ = some (Value.string Y) from rfl)
            have hwe : IntKind.i64.wrap (ep + 1) = ep + 1 := IntWalk.i64_in _ (by have := E1.out; have := HE.out; omega)
            go_wp2_with fail
            clear r0 r1
            refine (move_acc T.out.s A1.out (by have := HE.out; omega) (by have := HL.out; have := L1.out; omega) X Y o HSZ.out.1 HSZ.out.2 V2.out).mono ?_
            rintro e w6 ⟨rfl, hS6, hg6⟩
            have T6 := Lib.hid (T.out.move hS6 hg6)
            have r0 := (T6.out.r.cell 0).trans (show _ = some (Value.string X) from rfl)
            have r1 := (T6.out.r.cell 1).trans (show _ = some (Value.string Y) from rfl)
            clear hS6 hg6 T
            go_wp2_with fail
            clear r0 r1
            refine (owner_acc T6.out.s A2.out (by have := HL.out; have := L2.out; omega) X Y HSZ.out.1 HSZ.out.2 W2.out).mono ?_
            rintro e w7 ⟨rfl, hS7, hb7⟩
            have T7 := Lib.hid (T6.out.keep hb7)
            clear hS7 hb7 T6
            go_wp2_with fail
            refine (works_st T7.out.s).mono ?_
            rintro e w8 ⟨rfl, hb8⟩
            have BE := Lib.hid (b00.out.trans (hb8.mono b00.out.size))
            clear hb8 T7
            go_wp2_with fail
            go_ret
            exact ⟨rfl, BE.out⟩
end Go.Proofs.YtkkkppbcjmeapaaDoor
