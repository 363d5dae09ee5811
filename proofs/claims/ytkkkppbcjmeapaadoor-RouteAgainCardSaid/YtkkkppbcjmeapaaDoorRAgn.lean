/- A map restored from what another one shows answers as this one. Condition: the list of moves lies ahead. -/
import Derived.Test.YtkkkppbcjmeapaaDoorPtAgn
import Derived.Deep.RegionHeld3
import Derived.Deep.DeepFit
namespace Go.Proofs.YtkkkppbcjmeapaaDoor
open Go.RowKit

set_option maxRecDepth 100000 in
set_option maxHeartbeats 8000000 in
theorem routeAgain_any (x : Option Addr) (n cap : Nat) (l : List (Nat × Nat × Nat)) (a b c : Nat) (w : World) (hln : l.length = n) (hnc : n ≤ cap) (hM : SlM w x l) (ha : a < 256) (hb : b < 256) (hc : c < 256) :
    Calls Tryd.prog 7 #[.slice x n cap, .agg #[.int .u8 (a : Int), .int .u8 (b : Int), .int .u8 (c : Int)] ] w fun e w' => e = .returned (.bool true) ∧ Below w.heap.size w w' := by
  have b0 := Lib.hid (fun o => (Below.refl w.heap.size w).alloc (Nat.le_refl _) o)
  have X0 := Lib.hid (Whole.new w 24 #[.int .u8 (a : Int), .int .u8 (b : Int), .int .u8 (c : Int)])
  have b00 := Lib.hid (b0.out (.cells #[.int .u8 (a : Int), .int .u8 (b : Int), .int .u8 (c : Int)] 24))
  have h20 : ∀ W, (Builtin.min_ #[3, 3] 3 #[.int .i64 (n : Int), .int .i64 20]).run Tryd.prog W = .ok (.int .i64 ((min n 20 : Nat) : Int)) W := fun W => min_nat _ _ n 20 W
  have hct : ∀ W, (Instr.slice 22 (.slice x n cap) none (some (.int .i64 ((min n 20 : Nat) : Int))) none).run Tryd.prog W = .ok (.slice x (min n 20) cap) W := fun W => cut_moves x (min n 20) n cap (by omega) W
  have HM := Lib.hid hM
  have HLN := Lib.hid hln
  obtain ⟨m, hm⟩ : ∃ m, m = min n 20 := ⟨_, rfl⟩
  rw [← hm] at h20 hct
  have HMN := Lib.hid hm
  clear hM hln hm
  go_enter Tryd.func7, Tryd.ntmps7
  go_wp2_with fail
  generalize w.alloc (.cells #[.int .u8 (a : Int), .int .u8 (b : Int), .int .u8 (c : Int)] 24) = w0 at X0 b00 ⊢
  refine (begun_stg w0 _ (Below.refl _ _)).mono ?_
  rintro e w1 ⟨B, A, rfl, hS⟩
  have S1 := Lib.hid hS
  clear hS b0
  go_wp2_with fail
  clear h20 hct
  go_loopw [50] (fun i wr => ∃ (k : Nat) (d : List Pt) (acc : Nat → Int × Int), k ≤ m ∧ i = .int .i64 k ∧ Hid (Stg w0 wr B k d acc)) (fun i _ => m - (intOf i).toNat)
  case atStart => exact ⟨0, _, _, Nat.zero_le _, rfl, S1⟩
  case round =>
    clear S1
    obtain ⟨k, d, acc, hk, rfl, S⟩ := hrel
    by_cases hlt : k < m
    · as_aux_lemma =>
      have hki : (k : Int) < m := by omega
      have hk30 : k ≤ 30 := by have := HMN.out; omega
      have hkl : k < l.length := by have := HMN.out; have := HLN.out; omega
      obtain ⟨ta, tb, tc, hl⟩ : ∃ ta tb tc, l[k]? = some (ta, tb, tc) := ⟨_, _, _, List.getElem?_eq_getElem hkl⟩
      obtain ⟨hta, htb, htc, p, rfl, c0, c1, c2⟩ := HM.out.at (b00.out.trans (S.out.s.b.mono b00.out.size)) hl
      have hwk : IntKind.i64.wrap ((k : Int) + 1) = (k : Int) + 1 := IntWalk.i64_in _ (by omega)
      have SP := Lib.hid (fun W => span_any ta tb tc W hta htb htc)
      have X1 := Lib.hid (fun (W : World) => Whole.new W 24 #[.int .u8 (ta : Int), .int .u8 (tb : Int), .int .u8 (tc : Int)])
      go_wp2_with fail
      have hS0 := S.out.keep ((Below.refl wr.heap.size wr).alloc (Nat.le_refl _) (.cells #[.int .u8 (ta : Int), .int .u8 (tb : Int), .int .u8 (tc : Int)] 24))
      refine (SP.out _).mono ?_
      rintro e w2 ⟨rfl, hb2⟩
      have S2 := Lib.hid ((hS0.keep hb2).keep ((Below.refl w2.heap.size w2).alloc (Nat.le_refl _) (.cells #[.string (spF ta tb), .string (spT ta tb)] 30)))
      clear hS0 hb2 S SP X1 c0 c1 c2 hta htb htc hl
      go_wp2_with fail
      refine (move_stg S2.out hk30 ta tb tc).mono ?_
      rintro e w3 ⟨nn, er, d', acc', rfl, _, hS3, _⟩
      have S3 := Lib.hid hS3
      clear hS3 S2
      go_wp2_with fail
      go_roundw
      case rel => exact ⟨k + 1, d', acc', by omega, by go_num, S3⟩
      case measure => simp [intOf]; omega
    · obtain rfl : k = m := by omega
      have hk20 : k ≤ 20 := by have := HMN.out; omega
      have hdl : d.length ≤ 900 := by have := S.out.l; omega
      have HD := Lib.hid hdl
      clear hlt HM HLN HMN hk hdl
      go_wp2_with fail
      refine (ranges_st S.out.s (n := d.length) rfl HD.out).mono ?_
      rintro e w2 ⟨a1, c1, rfl, hV1, _, hb2⟩
      have S2 := Lib.hid (S.out.keep hb2)
      have V1 := Lib.hid hV1
      clear hV1 hb2 S
      go_wp2_with fail
      refine (groups_st S2.out.s (n := d.length) rfl HD.out).mono ?_
      rintro e w3 ⟨a2, c2, rfl, hV2, _, hb3⟩
      have S3 := Lib.hid (S2.out.keep hb3)
      have V12 := Lib.hid (V1.out.keep hb3)
      have V2 := Lib.hid hV2
      clear hV2 hb3 S2 V1
      go_wp2_with fail
      refine (epochs_st S3.out.s (n := d.length) rfl HD.out).mono ?_
      rintro e w4 ⟨a3, c3, rfl, hV3, _, hb4⟩
      have S4 := Lib.hid (S3.out.keep hb4)
      have V13 := Lib.hid (V12.out.keep hb4)
      have V23 := Lib.hid (V2.out.keep hb4)
      have V3 := Lib.hid hV3
      clear hV3 hb4 S3 V12 V2
      go_wp2_with fail
      refine (restore_acc S4.out (by omega) V13.out V23.out V3.out).mono ?_
      rintro e w5 ⟨C, rfl, hT, _⟩
      have T0 := Lib.hid hT
      clear hT S4 V13 V23 V3 HD
      go_wp2_with fail
      obtain ⟨k0, hk0⟩ : ∃ k0, k0 = k := ⟨_, rfl⟩
      rw [← hk0] at T0 hk20
      clear hk0
      go_loopw [83] (fun i wr => ∃ (j : Nat) (d : List Pt) (acc : Nat → Int × Int), j ≤ 2 ∧ i = .int .i64 j ∧ Hid (Twn w0 wr B C (k0 + j) d acc)) (fun i _ => 2 - (intOf i).toNat)
      case atStart => exact ⟨0, _, _, by omega, rfl, T0⟩
      case round =>
        clear T0
        obtain ⟨j, d, acc, hj, rfl, T⟩ := hrel
        by_cases hlt : j < 2
        · as_aux_lemma =>
          have hji : (j : Int) < 2 := by omega
          have hdl : d.length ≤ 900 := by have := T.out.g.l; omega
          have hgl : (rgs d).length ≤ 1000000 := by rw [rgs, List.length_map]; omega
          have hgi : (grs d).length ≤ 1000000 := by rw [grs, List.length_map]; omega
          have hge : (eps d).length ≤ 1000000 := by rw [eps, List.length_map]; omega
          have HDL := Lib.hid (And.intro hdl (And.intro hgl (And.intro hgi hge)))
          have hwk : IntKind.i64.wrap ((j : Int) + 1) = (j : Int) + 1 := IntWalk.i64_in _ (by omega)
          clear hdl hgl hgi hge
          go_wp2_with fail
          refine (ranges_st T.out.g.s (n := d.length) rfl HDL.out.1).mono ?_
          rintro e w2 ⟨a1, c1, rfl, hV1, _, hb2⟩
          have T2 := Lib.hid (T.out.keep hb2)
          have V1 := Lib.hid hV1
          clear hV1 hb2 T
          go_wp2_with fail
          refine (ranges_st T2.out.c (n := d.length) rfl HDL.out.1).mono ?_
          rintro e w3 ⟨a2, c2, rfl, hV2, _, hb3⟩
          have T3 := Lib.hid (T2.out.keep hb3)
          have V12 := Lib.hid (V1.out.keep hb3)
          have V2 := Lib.hid hV2
          clear hV2 hb3 T2 V1
          go_wp2_with fail
          refine (equalR_same V12.out V2.out HDL.out.2.1).mono ?_
          rintro e w4 ⟨rfl, hb4⟩
          have T := Lib.hid (T3.out.keep hb4)
          clear hb4 T3 V12 V2
          go_wp2_with fail
          refine (groups_st T.out.g.s (n := d.length) rfl HDL.out.1).mono ?_
          rintro e w2 ⟨a1, c1, rfl, hV1, _, hb2⟩
          have T2 := Lib.hid (T.out.keep hb2)
          have V1 := Lib.hid hV1
          clear hV1 hb2 T
          go_wp2_with fail
          refine (groups_st T2.out.c (n := d.length) rfl HDL.out.1).mono ?_
          rintro e w3 ⟨a2, c2, rfl, hV2, _, hb3⟩
          have T3 := Lib.hid (T2.out.keep hb3)
          have V12 := Lib.hid (V1.out.keep hb3)
          have V2 := Lib.hid hV2
          clear hV2 hb3 T2 V1
          go_wp2_with fail
          refine (equalI_same V12.out V2.out HDL.out.2.2.1).mono ?_
          rintro e w4 ⟨rfl, hb4⟩
          have T := Lib.hid (T3.out.keep hb4)
          clear hb4 T3 V12 V2
          go_wp2_with fail
          refine (epochs_st T.out.g.s (n := d.length) rfl HDL.out.1).mono ?_
          rintro e w2 ⟨a1, c1, rfl, hV1, _, hb2⟩
          have T2 := Lib.hid (T.out.keep hb2)
          have V1 := Lib.hid hV1
          clear hV1 hb2 T
          go_wp2_with fail
          refine (epochs_st T2.out.c (n := d.length) rfl HDL.out.1).mono ?_
          rintro e w3 ⟨a2, c2, rfl, hV2, _, hb3⟩
          have T3 := Lib.hid (T2.out.keep hb3)
          have V12 := Lib.hid (V1.out.keep hb3)
          have V2 := Lib.hid hV2
          clear hV2 hb3 T2 V1
          go_wp2_with fail
          refine (equalI_same V12.out V2.out HDL.out.2.2.2).mono ?_
          rintro e w4 ⟨rfl, hb4⟩
          have T := Lib.hid (T3.out.keep hb4)
          clear hb4 T3 V12 V2
          go_wp2_with fail
          have NN := Lib.hid (fun (k : Nat) (hk : k < 64) W => nm_nat k (by omega) W)
          generalize w4 = wq at T ⊢
          go_loopw [107] (fun i wr => ∃ (k : Nat), k ≤ 64 ∧ i = .int .i64 k ∧ Hid (Twn w0 wr B C (k0 + j) d acc)) (fun i _ => 64 - (intOf i).toNat)
          case atStart => exact ⟨0, Nat.zero_le _, rfl, T⟩
          case round =>
            clear T
            obtain ⟨k, hk, rfl, T⟩ := hrel
            by_cases hlt : k < 64
            · as_aux_lemma =>
              have hki : (k : Int) < 64 := by omega
              have hk0 : (0 : Int) ≤ k := by omega
              have hu : IntKind.u8.wrap (k : Int) = k := IntWalk.u8_in _ (by omega)
              have hwk : IntKind.i64.wrap ((k : Int) + 1) = (k : Int) + 1 := IntWalk.i64_in _ (by omega)
              go_wp2_with fail
              refine (NN.out k hlt _).mono ?_
              rintro e w2 ⟨rfl, hb2⟩
              have T2 := Lib.hid (T.out.keep hb2)
              clear hb2 T
              go_wp2_with fail
              refine (epoch_key T2.out.g.s T2.out.g.a HDL.out.1 hlt).mono ?_
              rintro e w3 ⟨rfl, hb3⟩
              have T3 := Lib.hid (T2.out.keep hb3)
              clear hb3 T2
              go_wp2_with fail
              refine (epoch_key T3.out.c T3.out.g.a HDL.out.1 hlt).mono ?_
              rintro e w4 ⟨rfl, hb4⟩
              have T4 := Lib.hid (T3.out.keep hb4)
              clear hb4 T3
              go_wp2_with fail
              go_roundw
              case rel => exact ⟨k + 1, by omega, by go_num, T4⟩
              case measure => simp [intOf]; omega
            · as_aux_lemma =>
              obtain rfl : k = 64 := by omega
              rw [show ((64 : Nat) : Int) = 64 from rfl]
              clear hlt hk NN
              have SP := Lib.hid (fun W => span_any a b c W ha hb hc)
              have hX := X0.out.below T.out.g.s.b X0.out.lt
              have x0 := (hX.cell 0).trans (show _ = some (Value.int .u8 (a : Int)) from rfl)
              have x1 := (hX.cell 1).trans (show _ = some (Value.int .u8 (b : Int)) from rfl)
              have x2 := (hX.cell 2).trans (show _ = some (Value.int .u8 (c : Int)) from rfl)
              clear hX
              go_wp2_with fail
              clear x0 x1 x2
              refine (SP.out _).mono ?_
              rintro e w2 ⟨rfl, hb2⟩
              have T2 := Lib.hid ((T.out.keep hb2).keep ((Below.refl w2.heap.size w2).alloc (Nat.le_refl _) (.cells #[.string (spF a b), .string (spT a b)] 30)))
              have R2 := Lib.hid (Whole.new w2 30 #[.string (spF a b), .string (spT a b)])
              have hkj : k0 + j ≤ 30 := by omega
              clear hb2 T SP
              go_wp2_with fail
              refine (twn_one T2.out hkj a b c).mono ?_
              rintro e w3 ⟨nn, er, d', acc', rfl, hv, hX3, hg3⟩
              have R3 := R2.out.other (range_apart T2.out.g.s.m R2.out) hg3
              have T3 := Lib.hid hX3
              have HV := Lib.hid hv
              have r0 := (R3.cell 0).trans (show _ = some (Value.string (spF a b)) from rfl)
              have r1 := (R3.cell 1).trans (show _ = some (Value.string (spT a b)) from rfl)
              clear hX3 hv hg3 R3 R2 T2
              go_wp2_with fail
              clear r0 r1
              refine (twn_two T3.out a b c HV.out).mono ?_
              rintro e w4 ⟨rfl, hT4, _⟩
              have T4 := Lib.hid hT4
              clear hT4 T3
              go_wp2_with fail
              go_roundw
              case rel => exact ⟨j + 1, d', acc', by omega, by go_num, T4⟩
              case measure => simp [intOf]; omega
        · as_aux_lemma =>
          obtain rfl : j = 2 := by omega
          rw [show ((2 : Nat) : Int) = 2 from rfl]
          clear hlt hj X0
          have S := Lib.hid T.out.g.s
          have hl := T.out.g.l
          have hne : 1 ≤ d.length := List.length_pos_iff.2 (acc_ne T.out.g.a)
          have hdl : d.length ≤ 900 := by omega
          have hd6 : d.length ≤ 1000000 := by omega
          have HN := Lib.hid (And.intro hne (And.intro hdl hd6))
          obtain ⟨N, hN⟩ : ∃ N, N = d.length := ⟨_, rfl⟩
          have HNN := Lib.hid hN
          have hn0 : ((N : Int) == 0) = false := beq_eq_false_iff_ne.2 (by omega)
          have hn1 : ((N : Int) = 0) = False := eq_false (by omega)
          clear T hl hne hdl hd6 hN
          go_wp2_with fail
          refine (epochs_st S.out (n := N) HNN.out.symm (by have := HNN.out; have := HN.out; omega)).mono ?_
          rintro e w2 ⟨a3, c3, rfl, _, hS2, _⟩
          have S2 := Lib.hid hS2
          obtain ⟨p', hcut⟩ := cut_ep a3 N c3 (by have := HNN.out; have := HN.out; omega)
          clear hS2 S
          have BB := Lib.hid (Below.refl w2.heap.size w2)
          have BD := Lib.hid ((Below.refl w2.heap.size w2).drew)
          have RG := Lib.hid (fun (W : World) (h : Below w2.heap.size w2 W) => ranges_st (S2.out.keep h) (n := N) HNN.out.symm (by have := HNN.out; have := HN.out; omega))
          have GG := Lib.hid (fun (W : World) (h : Below w2.heap.size w2 W) => groups_st (S2.out.keep h) (n := N) HNN.out.symm (by have := HNN.out; have := HN.out; omega))
          have RL := Lib.hid (fun (a b c : Option Addr) (c1 c2 c3 : Nat) (W : World) => restore_len a b c N N (N - 1) c1 c2 c3 W (by have := HNN.out; have := HN.out; omega) (by have := HNN.out; have := HN.out; omega))
          go_wp2_with fail
          go_region_held3 (fun wx => Below w2.heap.size w2 wx)
            (first | exact BB.out | exact BD.out | (refine bkeep ?_ hb9; assumption) | assumption)
            (first
              | (go_at_call 19; go_fit (RG.out _ (by assumption)); rintro e w3 ⟨a1, c1, rfl, _, _, hb9⟩)
              | (go_at_call 20; go_fit (GG.out _ (by assumption)); rintro e w4 ⟨a2, c2, rfl, _, _, hb9⟩)
              | (go_at_call 30; go_fit (RL.out _ _ _ _ _ _ _); rintro e w5 ⟨rfl, rfl⟩))
          all_goals as_aux_lemma =>
            rename_i hF
            have S3 := Lib.hid (S2.out.keep hF)
            clear hF hcut BB BD RG GG RL S2
            go_wp2_with fail
            refine (restore_none _).mono ?_
            rintro e w6 ⟨rfl, hb6⟩
            have S6 := Lib.hid (S3.out.keep hb6)
            clear hb6 S3
            go_wp2_with fail
            refine (restore_one 8 0 1 0 w6 no_g8).mono ?_
            rintro e w7 ⟨_, rfl, hb7⟩
            have S7 := Lib.hid (S6.out.keep hb7)
            clear hb7 S6
            go_wp2_with fail
            refine (restore_one 1 0 0 0 w7 no_e0).mono ?_
            rintro e w8 ⟨_, rfl, hb8⟩
            have S8 := Lib.hid (S7.out.keep hb8)
            clear hb8 S7
            go_wp2_with fail
            refine (restore_two 1 2 1 1 w8 no_two).mono ?_
            rintro e w9 ⟨_, rfl, hb9⟩
            have S9 := Lib.hid (S8.out.keep hb9)
            clear hb9 S8
            go_wp2_with fail
            refine (works_st S9.out).mono ?_
            rintro e w10 ⟨rfl, hb10⟩
            have BE := Lib.hid (b00.out.trans (hb10.mono b00.out.size))
            clear hb10 S9
            go_wp2_with fail
            go_ret
            exact ⟨rfl, BE.out⟩
end Go.Proofs.YtkkkppbcjmeapaaDoor
