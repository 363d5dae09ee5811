/- Each key has one group, the one to which it was moved last: the law. Condition: the list of moves lies ahead. -/
import Derived.Test.YtkkkppbcjmeapaaDoorMgOnce
namespace Go.Proofs.YtkkkppbcjmeapaaDoor
open Go.RowKit

set_option maxRecDepth 100000 in
set_option maxHeartbeats 8000000 in
theorem routeOnce_any (x : Option Addr) (n cap : Nat) (l : List (Nat × Nat × Nat)) (w : World) (hln : l.length = n) (hnc : n ≤ cap) (hM : SlM w x l) :
    Calls Tryd.prog 11 #[.slice x n cap] w fun e w' => e = .returned (.bool true) ∧ Below w.heap.size w w' := by
  have h30 : ∀ W, (Builtin.min_ #[3, 3] 3 #[.int .i64 (n : Int), .int .i64 30]).run Tryd.prog W = .ok (.int .i64 ((min n 30 : Nat) : Int)) W := fun W => min_nat _ _ n 30 W
  have hct : ∀ W, (Instr.slice 22 (.slice x n cap) none (some (.int .i64 ((min n 30 : Nat) : Int))) none).run Tryd.prog W = .ok (.slice x (min n 30) cap) W := fun W => cut_moves x (min n 30) n cap (by omega) W
  have HM := Lib.hid hM
  have HLN := Lib.hid hln
  obtain ⟨m, hm⟩ : ∃ m, m = min n 30 := ⟨_, rfl⟩
  rw [← hm] at h30 hct
  have HMN := Lib.hid hm
  clear hM hln hm
  go_enter Tryd.func11, Tryd.ntmps11
  go_wp2_with fail
  refine (begun_stm w _ (Below.refl _ _)).mono ?_
  rintro e w1 ⟨B, A, rfl, hS⟩
  have S1 := Lib.hid hS
  clear hS
  go_wp2_with fail
  clear h30 hct
  go_loopw [44] (fun i wr => ∃ (k : Nat) (d : List Pt) (acc : Nat → Int × Int), k ≤ m ∧ i = .int .i64 k ∧ Hid (Stm w wr B A k d acc)) (fun i _ => m - (intOf i).toNat)
  case atStart => exact ⟨0, _, _, Nat.zero_le _, rfl, S1⟩
  case round =>
    clear S1
    obtain ⟨k, d, acc, hk, rfl, S⟩ := hrel
    by_cases hlt : k < m
    · as_aux_lemma =>
      have hki : (k : Int) < m := by omega
      have hk30 : k ≤ 30 := by have := HMN.out; omega
      have hkl : k < l.length := by have := HMN.out; have := HLN.out; omega
      obtain ⟨ta, tb, tc, hl⟩ : ∃ ta tb tc, l[k]? = some (ta, tb, tc) := ⟨_, _, _, List.getElem?_eq_getElem hkl⟩
      obtain ⟨hta, htb, htc, p, rfl, c0, c1, c2⟩ := HM.out.at S.out.s.s.b hl
      have hwk : IntKind.i64.wrap ((k : Int) + 1) = (k : Int) + 1 := IntWalk.i64_in _ (by omega)
      have SP := Lib.hid (fun W => span_any ta tb tc W hta htb htc)
      have X1 := Lib.hid (fun (W : World) => Whole.new W 24 #[.int .u8 (ta : Int), .int .u8 (tb : Int), .int .u8 (tc : Int)])
      go_wp2_with fail
      have hX := X1.out wr
      have hS0 := S.out.keep ((Below.refl wr.heap.size wr).alloc (Nat.le_refl _) (.cells #[.int .u8 (ta : Int), .int .u8 (tb : Int), .int .u8 (tc : Int)] 24))
      refine (SP.out _).mono ?_
      rintro e w2 ⟨rfl, hb2⟩
      have hX2 := (hX.below hb2 hX.lt).alloc (.cells #[.string (spF ta tb), .string (spT ta tb)] 30)
      have hS2 := (hS0.keep hb2)
      have hA2 : w2.heap.size ≠ A := by have := hS2.s.a.lt; omega
      have hB2 : w2.heap.size ≠ B := by have := hS2.s.s.m.lt; omega
      have S2 := Lib.hid (hS2.keep ((Below.refl w2.heap.size w2).alloc (Nat.le_refl _) (.cells #[.string (spF ta tb), .string (spT ta tb)] 30)))
      have R2 := Lib.hid (Whole.new w2 30 #[.string (spF ta tb), .string (spT ta tb)])
      have y0 := (hX2.cell 0).trans (show _ = some (Value.int .u8 (ta : Int)) from rfl)
      have y1 := (hX2.cell 1).trans (show _ = some (Value.int .u8 (tb : Int)) from rfl)
      have y2 := (hX2.cell 2).trans (show _ = some (Value.int .u8 (tc : Int)) from rfl)
      have HT := Lib.hid (And.intro hta (And.intro htb htc))
      clear hX hX2 hS0 hS2 hb2 S SP X1 c0 c1 c2 hta htb htc hl
      go_wp2_with fail
      clear y0 y1 y2
      refine (amv_st S2.out hk30 ta tb tc HT.out.1 HT.out.2.1 HT.out.2.2).mono ?_
      rintro e w3 (⟨_, rfl, hS3, hb3, hv⟩ | ⟨o, ep, _, rfl, hS3, hg3, hv, hA3, hn3, _⟩)
      · have S3 := Lib.hid hS3
        have HV := Lib.hid hv
        have hR3 := R2.out.below hb3 R2.out.lt
        have z0 := (hR3.cell 0).trans (show _ = some (Value.string (spF ta tb)) from rfl)
        have z1 := (hR3.cell 1).trans (show _ = some (Value.string (spT ta tb)) from rfl)
        clear hS3 hb3 S2 R2 hR3 hv
        go_wp2_with fail
        clear z0 z1
        refine (move_stn S3.out hk30 ta tb tc HV.out).mono ?_
        rintro e w4 ⟨rfl, hS4, _⟩
        have S4 := Lib.hid hS4.up
        clear hS4 S3 HV
        go_wp2_with fail
        go_roundw
        case rel => exact ⟨k + 1, _, _, by omega, by go_num, S4⟩
        case measure => simp [intOf]; omega
      · have hR3 := R2.out.other hA2 hg3
        have z0 := (hR3.cell 0).trans (show _ = some (Value.string (spF ta tb)) from rfl)
        have z1 := (hR3.cell 1).trans (show _ = some (Value.string (spT ta tb)) from rfl)
        have S3 := Lib.hid hS3
        have HV := Lib.hid hv
        have HA3 := Lib.hid hA3
        have HN3 := Lib.hid hn3
        clear hS3 hg3 hv hA3 hn3 hR3
        go_wp2_with fail
        clear z0 z1
        refine (move_stm S3.out S2.out.a S2.out.l hk30 ta tb tc HV.out HA3.out HN3.out).mono ?_
        rintro e w4 ⟨rfl, hS4, _⟩
        have S4 := Lib.hid hS4
        clear hS4 S3 S2 R2 HV HA3 HN3
        go_wp2_with fail
        go_roundw
        case rel => exact ⟨k + 1, _, _, by omega, by go_num, S4⟩
        case measure => simp [intOf]; omega
    · obtain rfl : k = m := by omega
      have hk30 : k ≤ 30 := by have := HMN.out; omega
      clear hlt HM HLN HMN hk
      obtain ⟨kk, S, HK⟩ : ∃ kk, Hid (Stm w wr B A kk d acc) ∧ Hid (kk ≤ 30) := ⟨_, S, Lib.hid hk30⟩
      clear hk30
      have HL := Lib.hid (show d.length ≤ 61 by have := S.out.l; have := HK.out; omega)
      have HSM := Lib.hid (S.out.small HK.out)
      go_wp2_with fail
      refine (ranges_st S.out.s.s (n := d.length) rfl (by have := HL.out; omega)).mono ?_
      rintro e w2 ⟨a1, c1, rfl, hR, _, hb⟩
      have S2 := Lib.hid (S.out.keep hb)
      have V2 := Lib.hid hR
      clear hR hb S
      go_wp2_with fail
      refine (groups_st S2.out.s.s (n := d.length) rfl (by have := HL.out; omega)).mono ?_
      rintro e w3 ⟨a2, c2, rfl, hI, _, hb⟩
      have S3 := Lib.hid (S2.out.keep hb)
      have V3 := Lib.hid (V2.out.keep hb)
      have I3 := Lib.hid hI
      clear hI hb S2 V2
      go_wp2_with fail
      refine (cover_map d a1 d.length c1 _ rfl (by have := HL.out; omega) V3.out S3.out.a.ch HSM.out).mono ?_
      rintro e w4 ⟨rfl, hb⟩
      have S4 := Lib.hid (S3.out.keep hb)
      have V4 := Lib.hid (V3.out.keep hb)
      have I4 := Lib.hid (I3.out.keep hb)
      have NN := Lib.hid (fun (k : Nat) (hk : k < 64) W => nm_nat k (by omega) W)
      clear hb S3 V3 I3
      go_wp2_with fail
      go_loopw [113] (fun i wr => ∃ k : Nat, k ≤ 64 ∧ i = .int .i64 k ∧ Hid (Stm w wr B A kk d acc) ∧ Hid (SlR wr (.slice a1 d.length c1) (rgs d)) ∧ Hid (SlI wr (.slice a2 d.length c2) (grs d))) (fun i _ => 64 - (intOf i).toNat)
      case atStart => exact ⟨0, Nat.zero_le _, rfl, S4, V4, I4⟩
      case round =>
        clear S4 V4 I4
        obtain ⟨k, hk, rfl, S, V, I⟩ := hrel
        by_cases hlt : k < 64
        · as_aux_lemma =>
          have hki : (k : Int) < 64 := by omega
          have hk0 : (0 : Int) ≤ k := by omega
          have hu : IntKind.u8.wrap (k : Int) = k := IntWalk.u8_in _ (by omega)
          have hwk : IntKind.i64.wrap ((k : Int) + 1) = (k : Int) + 1 := IntWalk.i64_in _ (by omega)
          obtain ⟨G, EP, hG⟩ : ∃ G EP, acc k = (G, EP) := ⟨_, _, rfl⟩
          have HG := Lib.hid hG
          have GK := Lib.hid (fun (W : World) (T : St w W B d) => group_key T S.out.a (by have := HL.out; omega) hlt)
          have EK := Lib.hid (fun (W : World) (T : St w W B d) => epoch_key T S.out.a (by have := HL.out; omega) hlt)
          rw [hG] at GK EK
          go_wp2_with fail
          refine (NN.out k hlt _).mono ?_
          rintro e w2 ⟨rfl, hb⟩
          have S2 := Lib.hid (S.out.keep hb)
          have V2 := Lib.hid (V.out.keep hb)
          have I2 := Lib.hid (I.out.keep hb)
          clear hb S V I
          go_wp2_with fail
          refine (GK.out _ S2.out.s.s).mono ?_
          rintro e w3 ⟨rfl, hb⟩
          have S3 := Lib.hid (S2.out.keep hb)
          have V3 := Lib.hid (V2.out.keep hb)
          have I3 := Lib.hid (I2.out.keep hb)
          clear hb S2 V2 I2
          go_wp2_with fail
          refine (EK.out _ S3.out.s.s).mono ?_
          rintro e w4 ⟨rfl, hb⟩
          have S4 := Lib.hid (S3.out.keep hb)
          have V4 := Lib.hid (V3.out.keep hb)
          have I4 := Lib.hid (I3.out.keep hb)
          clear hb S3 V3 I3 GK EK
          go_wp2_with fail
          go_loopw [133, 24] (fun i h wr => ∃ j q : Nat, j ≤ d.length ∧ i = .int .i64 j ∧ h = .int .i64 q ∧ q ≤ 100 ∧ Hid (q = cntK d (nmS k) j) ∧ Hid (Stm w wr B A kk d acc) ∧ Hid (SlR wr (.slice a1 d.length c1) (rgs d)) ∧ Hid (SlI wr (.slice a2 d.length c2) (grs d))) (fun i _ _ => d.length - (intOf i).toNat)
          case atStart => exact ⟨0, 0, Nat.zero_le _, rfl, rfl, by omega, Lib.hid rfl, S4, V4, I4⟩
          case round =>
            clear S4 V4 I4
            obtain ⟨j, q, hj, rfl, rfl, hq, HQ, S, V, I⟩ := hrel
            by_cases hjl : j < d.length
            · as_aux_lemma =>
              have hji : (j : Int) < d.length := by omega
              have hj0 : (0 : Int) ≤ j := by omega
              have hwj : IntKind.i64.wrap ((j : Int) + 1) = (j : Int) + 1 := IntWalk.i64_in _ (by have := HL.out; omega)
              have hwq : IntKind.i64.wrap ((q : Int) + 1) = (q : Int) + 1 := IntWalk.i64_in _ (by omega)
              obtain ⟨p, hp⟩ : ∃ p, d[j]? = some p := ⟨_, List.getElem?_eq_getElem hjl⟩
              have hpd := List.mem_of_getElem? hp
              have hsz := HSM.out.2 p hpd
              have HK1 := Lib.hid (fun W => has_any p.f p.t (nmS k) W hsz.1 hsz.2 (by rw [nm_size]; omega))
              obtain ⟨g, og, rfl, z0, z1⟩ := V.out.get (i := j) (p := (p.f, p.t)) (by simp [rgs, hp])
              obtain ⟨g2, og2, rfl, y0⟩ := I.out.get (i := j) (p := p.g) (by simp [grs, hp])
              have hb1 := ((Below.refl wr.heap.size wr).alloc (Nat.le_refl _) (.cells #[.string p.f, .string p.t] 30))
              have S1 := Lib.hid (S.out.keep hb1)
              have V1 := Lib.hid (V.out.keep hb1)
              have I1 := Lib.hid (I.out.keep hb1)
              have HY := Lib.hid (fun (W : World) (hb : Below (wr.alloc (.cells #[.string p.f, .string p.t] 30)).heap.size (wr.alloc (.cells #[.string p.f, .string p.t] 30)) W) => (hb1.trans (hb.mono hb1.size)).cell (lt_of_cellR y0) |>.trans y0)
              have HQ1 := Lib.hid (fun (h : hasR p.f p.t (nmS k) = true) => cntK_yes hp h)
              have HQ0 := Lib.hid (fun (h : hasR p.f p.t (nmS k) = false) => cntK_no hp h)
              have HA := Lib.hid (fun (h : hasR p.f p.t (nmS k) = true) => acc_of S1.out.a hlt hpd h)
              clear y0 hb1 S V I hp hpd hsz
              go_wp2_with fail
              clear z0 z1
              cases hh : hasR p.f p.t (nmS k) with
              | true =>
                rw [hh] at HK1
                have ha := HA.out hh
                rw [HG.out] at ha
                injection ha with ha1 ha2
                have HC := Lib.hid (HQ1.out hh)
                rw [← ha1] at HY
                refine (HK1.out _).mono ?_
                rintro e w2 ⟨rfl, hb⟩
                have S2 := Lib.hid (S1.out.keep hb)
                have V2 := Lib.hid (V1.out.keep hb)
                have I2 := Lib.hid (I1.out.keep hb)
                have y0 := HY.out _ hb
                have Q2 : Hid (q + 1 = cntK d (nmS k) (j + 1)) := Lib.hid (by rw [HC.out, ← HQ.out])
                have hq2 : q + 1 ≤ 100 := by
                  have := Q2.out; have := cntK_le d (nmS k) (j + 1); have := HL.out; omega
                clear hb S1 V1 I1 HY ha1 ha2 HA HQ1 HQ0 HC HK1 hh
                go_wp2_with fail
                go_roundw
                case rel => exact ⟨j + 1, q + 1, by omega, by go_num, by go_num, hq2, Q2, S2, V2, I2⟩
                case measure => simp [intOf]; omega
              | false =>
                rw [hh] at HK1
                have HC := Lib.hid (HQ0.out hh)
                refine (HK1.out _).mono ?_
                rintro e w2 ⟨rfl, hb⟩
                have S2 := Lib.hid (S1.out.keep hb)
                have V2 := Lib.hid (V1.out.keep hb)
                have I2 := Lib.hid (I1.out.keep hb)
                have Q2 : Hid (q = cntK d (nmS k) (j + 1)) := Lib.hid (by rw [HC.out, ← HQ.out])
                clear hb S1 V1 I1 HY HA HQ1 HQ0 HC HK1 hh
                go_wp2_with fail
                go_roundw
                case rel => exact ⟨j + 1, q, by omega, by go_num, rfl, hq, Q2, S2, V2, I2⟩
                case measure => simp [intOf]; omega
            · as_aux_lemma =>
              obtain rfl : j = d.length := by omega
              obtain rfl : q = 1 := by rw [HQ.out]; exact cntK_all S.out.a.ch (nm_isName k)
              have c := S.out.s.a.cell hlt
              rw [HG.out] at c
              have x0 := c.1
              have x1 := c.2
              clear c HQ hj hjl
              go_wp2_with fail
              go_roundw
              case rel => exact ⟨k + 1, by omega, by go_num, S, V, I⟩
              case measure => simp [intOf]; omega
        · obtain rfl : k = 64 := by omega
          rw [show ((64 : Nat) : Int) = 64 from rfl]
          clear hlt hk NN
          go_wp2_with fail
          go_loopw [181] (fun i wr => ∃ k : Nat, k ≤ 9 ∧ i = .int .i64 k ∧ Hid (Stm w wr B A kk d acc) ∧ Hid (SlR wr (.slice a1 d.length c1) (rgs d)) ∧ Hid (SlI wr (.slice a2 d.length c2) (grs d))) (fun i _ => 9 - (intOf i).toNat)
          case atStart => exact ⟨0, Nat.zero_le _, rfl, S, V, I⟩
          case round =>
            clear S V I
            obtain ⟨k, hk, rfl, S, V, I⟩ := hrel
            generalize wr = wg at S V I ⊢
            by_cases hlt : k < 9
            · as_aux_lemma =>
              have hki : (k : Int) < 9 := by omega
              have hwk : IntKind.i64.wrap ((k : Int) + 1) = (k : Int) + 1 := IntWalk.i64_in _ (by omega)
              go_wp2_with fail
              go_loopw [186, 28] (fun i v wr => ∃ j : Nat, j ≤ d.length ∧ i = .int .i64 j ∧ Hid (Below wg.heap.size wg wr) ∧ Hid (wr.ownsRow wg.heap.size 30 2 v (ofL (k : Int) (d.take j)).length (flatR2 (ofL (k : Int) (d.take j))))) (fun i _ _ => d.length - (intOf i).toNat)
              case atStart => exact ⟨0, Nat.zero_le _, rfl, Lib.hid (Below.refl _ _), Lib.hid (own_nil _ _ _ _)⟩
              case round =>
                obtain ⟨j, hj, rfl, BB, OW⟩ := hrel
                by_cases hjl : j < d.length
                · as_aux_lemma =>
                  have hji : (j : Int) < d.length := by omega
                  have hj0 : (0 : Int) ≤ j := by omega
                  have hwj : IntKind.i64.wrap ((j : Int) + 1) = (j : Int) + 1 := IntWalk.i64_in _ (by have := HL.out; omega)
                  obtain ⟨p, hp⟩ : ∃ p, d[j]? = some p := ⟨_, List.getElem?_eq_getElem hjl⟩
                  obtain ⟨g, og, rfl, z0, z1⟩ := (V.out.keep BB.out).get (i := j) (p := (p.f, p.t)) (by simp [rgs, hp])
                  obtain ⟨g2, og2, rfl, y0⟩ := (I.out.keep BB.out).get (i := j) (p := p.g) (by simp [grs, hp])
                  have hlo := ofL_len (k : Int) d j
                  obtain ⟨pf, pt, pg, pe⟩ := p
                  dsimp only at z0 z1 y0
                  have y1 := cell_al (.cells #[.string pf, .string pt] 30) y0
                  clear y0
                  have bb := BB.out.alloc BB.out.size (.cells #[.string pf, .string pt] 30)
                  by_cases hpg : pg = (k : Int)
                  · have HS := ofL_yes (k : Int) d j _ hp hpg
                    subst hpg
                    have hown := OW.out
                    have own2 := (hown.alloc (.cells #[.string pf, .string pt] 30)).alloc (.cells #[.string pf, .string pt] 30)
                    have bb2 := bb.alloc bb.size (.cells #[.string pf, .string pt] 30)
                    obtain ⟨v', w', hrun, hown', hgrow⟩ := run_app_rng _ _ _ _ _ own2 ⟨wr.heap.size + 1, 0, none⟩ 1 1 [.string pf, .string pt] rfl (news_at (wr.alloc (.cells #[.string pf, .string pt] 30)) 30 [.string pf, .string pt] _ (by simp)) (by intro u hu; simp at hu; rcases hu with rfl | rfl <;> rfl) (by have := HL.out; omega) bb2.size
                    have B3 := Lib.hid (bb2.grown hgrow bb2.size (fun q e => (hown.lt q e).1))
                    have R := Lib.hid hrun
                    dsimp only at HS
                    rw [HS.1, HS.2] at hown'
                    have O := Lib.hid hown'
                    clear bb bb2 own2 hown hgrow hrun hown' HS hlo OW BB hp S V I
                    go_wp2_with (at_builtin; refine wpList_append_run rfl (.tmp 197) (.tmp 199) 45 rfl rfl rfl R.out ?_)
                    go_roundw
                    case rel => exact ⟨j + 1, by omega, by go_num, B3, O⟩
                    case measure => simp [intOf]; omega
                  · have O := OW.out.alloc (.cells #[.string pf, .string pt] 30)
                    rw [← ofL_no (k : Int) d j _ hp hpg] at O
                    have O := Lib.hid O
                    have B3 := Lib.hid bb
                    have e1 : (pg == (k : Int)) = false := beq_eq_false_iff_ne.2 hpg
                    have e2 : (pg = (k : Int)) = False := eq_false hpg
                    clear bb hlo OW BB hp S V I
                    go_wp2_with fail
                    go_roundw
                    case rel => exact ⟨j + 1, by omega, by go_num, B3, O⟩
                    case measure => simp [intOf]; omega
                · as_aux_lemma =>
                  obtain rfl : j = d.length := by omega
                  have hown := OW.out
                  rw [List.take_length] at hown
                  obtain ⟨a5, c5, rfl⟩ := len_own' hown
                  have V5 := Lib.hid (slR_own hown)
                  have S5 := Lib.hid (S.out.keep BB.out)
                  have V6 := Lib.hid (V.out.keep BB.out)
                  have I6 := Lib.hid (I.out.keep BB.out)
                  have HLF := Lib.hid (show (rgs (ofL (k : Int) d)).length ≤ 1000000 by
                    rw [rgs, List.length_map]
                    have := List.length_filter_le (fun p : Pt => p.g == (k : Int)) d
                    have := HL.out
                    unfold ofL; omega)
                  clear hown OW BB S V I hj hjl
                  go_wp2_with fail
                  refine (of_st S5.out.s.s (k : Int) (by have := HL.out; omega)).mono ?_
                  rintro e w2 ⟨a6, c6, rfl, hR, _, hb⟩
                  have S7 := Lib.hid (S5.out.keep hb)
                  have V7 := Lib.hid (V6.out.keep hb)
                  have I7 := Lib.hid (I6.out.keep hb)
                  have W7 := Lib.hid (V5.out.keep hb)
                  have U7 := Lib.hid hR
                  clear hb hR S5 V6 I6 V5
                  go_wp2_with fail
                  refine (equalR_same U7.out W7.out HLF.out).mono ?_
                  rintro e w3 ⟨rfl, hb⟩
                  have S8 := Lib.hid (S7.out.keep hb)
                  have V8 := Lib.hid (V7.out.keep hb)
                  have I8 := Lib.hid (I7.out.keep hb)
                  clear hb S7 V7 I7 W7 U7
                  go_wp2_with fail
                  go_roundw
                  case rel => exact ⟨k + 1, by omega, by go_num, S8, V8, I8⟩
                  case measure => simp [intOf]; omega
            · as_aux_lemma =>
              obtain rfl : k = 9 := by omega
              rw [show ((9 : Nat) : Int) = 9 from rfl]
              go_wp2_with fail
              refine (works_st S.out.s.s).mono ?_
              rintro e w8 ⟨rfl, hb8⟩
              have BE := Lib.hid hb8
              clear hb8 S V I
              go_wp2_with fail
              go_ret
              exact ⟨rfl, BE.out⟩
end Go.Proofs.YtkkkppbcjmeapaaDoor
