/- Ranges that belong to a group: the law. Condition: the list of moves lies ahead. -/
import Derived.Test.YtkkkppbcjmeapaaDoorPtLop
namespace Go.Proofs.YtkkkppbcjmeapaaDoor
open Go.RowKit

theorem ba_ne {t s : ByteArray} (h : ¬ t = s) : (t.toList == s.toList) = false := by
  rw [beq_eq_false_iff_ne]
  exact fun e => h (ba_eq e)
theorem wantL_up {acc : Nat → Int × Int} {x y : ByteArray} {k : Nat} {wk : Int} {ok : Bool} (h : wantL acc x y k = (wk, ok)) : wantL acc x y (k + 1) = if hasR x y (nmS k) = true then ((acc k).1, ok && (decide (wk = 0) || decide (wk = (acc k).1))) else (wk, ok) := by
  rw [wantL, h]
set_option maxRecDepth 100000 in
set_option maxHeartbeats 4000000 in
theorem routeOwners_any (x : Option Addr) (n cap : Nat) (l : List (Nat × Nat × Nat)) (a b c q : Nat) (w : World) (hln : l.length = n) (hnc : n ≤ cap) (hM : SlM w x l) (ha : a < 256) (hb : b < 256) (hc : c < 256) (hq : q < 256) :
    Calls Tryd.prog 3 #[.slice x n cap, .agg #[.int .u8 (a : Int), .int .u8 (b : Int), .int .u8 (c : Int)], .int .u8 (q : Int)] w fun e w' => e = .returned (.bool true) ∧ Below w.heap.size w w' := by
  have b0 := Lib.hid (fun o => (Below.refl w.heap.size w).alloc (Nat.le_refl _) o)
  have X0 := Lib.hid (Whole.new w 24 #[.int .u8 (a : Int), .int .u8 (b : Int), .int .u8 (c : Int)])
  have b00 := Lib.hid (b0.out (.cells #[.int .u8 (a : Int), .int .u8 (b : Int), .int .u8 (c : Int)] 24))
  have h20 : ∀ W, (Builtin.min_ #[3, 3] 3 #[.int .i64 (n : Int), .int .i64 20]).run Tryd.prog W = .ok (.int .i64 ((min n 20 : Nat) : Int)) W := fun W => min_nat _ _ n 20 W
  have hct : ∀ W, (Instr.slice 22 (.slice x n cap) none (some (.int .i64 ((min n 20 : Nat) : Int))) none).run Tryd.prog W = .ok (.slice x (min n 20) cap) W := fun W => cut_moves x (min n 20) n cap (by omega) W
  have HM := Lib.hid hM
  have HLN := Lib.hid hln
  obtain ⟨m, hm⟩ : ∃ m, m = min n 20 := ⟨_, rfl⟩
  rw [← hm] at h20 hct
  have HMN := Lib.hid hm
  clear hM hln hm
  go_enter Tryd.func3, Tryd.ntmps3
  go_wp2_with fail
  generalize w.alloc (.cells #[.int .u8 (a : Int), .int .u8 (b : Int), .int .u8 (c : Int)] 24) = w0 at X0 b00 ⊢
  refine (begun_stm w0 _ (Below.refl _ _)).mono ?_
  rintro e w1 ⟨B, A, rfl, hS⟩
  have S1 := Lib.hid hS
  clear hS b0
  go_wp2_with fail
  clear h20 hct
  go_loopw [51] (fun i wr => ∃ (k : Nat) (d : List Pt) (acc : Nat → Int × Int), k ≤ m ∧ i = .int .i64 k ∧ Hid (Stm w0 wr B A k d acc)) (fun i _ => m - (intOf i).toNat)
  case atStart => exact ⟨0, _, _, Nat.zero_le _, rfl, S1⟩
  case round =>
    clear S1
    obtain ⟨k, d, acc, hk, rfl, S⟩ := hrel
    by_cases hlt : k < m
    · as_aux_lemma =>
      have hki : (k : Int) < m := by omega
      have hk30 : k ≤ 30 := by have := HMN.out; omega
      have hkl : k < l.length := by have := HMN.out; have := HLN.out; omega
      obtain ⟨ta, tb, tc, hl⟩ : ∃ ta tb tc, l[k]? = some (ta, tb, tc) := ⟨_, _, _, List.getElem?_eq_getElem hkl⟩
      obtain ⟨hta, htb, htc, p, rfl, c0, c1, c2⟩ := HM.out.at (b00.out.trans (S.out.s.s.b.mono b00.out.size)) hl
      have hwk : IntKind.i64.wrap ((k : Int) + 1) = (k : Int) + 1 := IntWalk.i64_in _ (by omega)
      have SP := Lib.hid (fun W => span_any ta tb tc W hta htb htc)
      have X1 := Lib.hid (fun (W : World) => Whole.new W 24 #[.int .u8 (ta : Int), .int .u8 (tb : Int), .int .u8 (tc : Int)])
      go_wp2_with fail
      have hX := X1.out wr
      have hS0 := S.out.keep ((Below.refl wr.heap.size wr).alloc (Nat.le_refl _) (.cells #[.int .u8 (ta : Int), .int .u8 (tb : Int), .int .u8 (tc : Int)] 24))
      refine (SP.out _).mono ?_
      rintro e w2 ⟨rfl, hb2⟩
      have hX2 := (hX.below hb2 hX.lt).alloc (.cells #[.string (spF ta tb), .string (spT ta tb)] 30)
      have hS2 := (hS0.keep hb2)
      have hA2 : w2.heap.size ≠ A := by have := hS2.s.a.lt; omega
      have hB2 : w2.heap.size ≠ B := by have := hS2.s.s.m.lt; omega
      have S2 := Lib.hid (hS2.keep ((Below.refl w2.heap.size w2).alloc (Nat.le_refl _) (.cells #[.string (spF ta tb), .string (spT ta tb)] 30)))
      have R2 := Lib.hid (Whole.new w2 30 #[.string (spF ta tb), .string (spT ta tb)])
      have y0 := (hX2.cell 0).trans (show _ = some (Value.int .u8 (ta : Int)) from rfl)
      have y1 := (hX2.cell 1).trans (show _ = some (Value.int .u8 (tb : Int)) from rfl)
      have y2 := (hX2.cell 2).trans (show _ = some (Value.int .u8 (tc : Int)) from rfl)
      have HT := Lib.hid (And.intro hta (And.intro htb htc))
      clear hX hX2 hS0 hS2 hb2 S SP X1 c0 c1 c2 hta htb htc hl
      go_wp2_with fail
      clear y0 y1 y2
      refine (amv_st S2.out hk30 ta tb tc HT.out.1 HT.out.2.1 HT.out.2.2).mono ?_
      rintro e w3 (⟨_, rfl, hS3, hb3, _⟩ | ⟨o, ep, _, rfl, hS3, hg3, hv, hA3, hn3, _⟩)
      · have S3 := Lib.hid hS3.up
        clear hS3 hb3 S2 R2
        go_wp2_with fail
        go_roundw
        case rel => exact ⟨k + 1, d, acc, by omega, by go_num, S3⟩
        case measure => simp [intOf]; omega
      · have hR3 := R2.out.other hA2 hg3
        have z0 := (hR3.cell 0).trans (show _ = some (Value.string (spF ta tb)) from rfl)
        have z1 := (hR3.cell 1).trans (show _ = some (Value.string (spT ta tb)) from rfl)
        have S3 := Lib.hid hS3
        have HV := Lib.hid hv
        have HA3 := Lib.hid hA3
        have HN3 := Lib.hid hn3
        clear hS3 hg3 hv hA3 hn3 hR3
        go_wp2_with fail
        clear z0 z1
        refine (move_stm S3.out S2.out.a S2.out.l hk30 ta tb tc HV.out HA3.out HN3.out).mono ?_
        rintro e w4 ⟨rfl, hS4, _⟩
        have S4 := Lib.hid hS4
        clear hS4 S3 S2 R2
        go_wp2_with fail
        go_roundw
        case rel => exact ⟨k + 1, _, _, by omega, by go_num, S4⟩
        case measure => simp [intOf]; omega
    · obtain rfl : k = m := by omega
      have hk20 : k ≤ 20 := by have := HMN.out; omega
      clear hlt HM HLN HMN hk
      have SP := Lib.hid (fun W => span_any a b c W ha hb hc)
      have hX := X0.out.below S.out.s.s.b X0.out.lt
      have x0 := (hX.cell 0).trans (show _ = some (Value.int .u8 (a : Int)) from rfl)
      have x1 := (hX.cell 1).trans (show _ = some (Value.int .u8 (b : Int)) from rfl)
      have x2 := (hX.cell 2).trans (show _ = some (Value.int .u8 (c : Int)) from rfl)
      clear hX X0
      go_wp2_with fail
      clear x0 x1 x2
      refine (SP.out _).mono ?_
      rintro e w2 ⟨rfl, hb2⟩
      have S2 := Lib.hid ((S.out.keep hb2).keep ((Below.refl w2.heap.size w2).alloc (Nat.le_refl _) (.cells #[.string (spF a b), .string (spT a b)] 30)))
      have R2 := Lib.hid (Whole.new w2 30 #[.string (spF a b), .string (spT a b)])
      have HOK := Lib.hid (sp_ok a b)
      have HND := Lib.hid (sp_named a b)
      have HSZ := Lib.hid (sp_sml a b)
      generalize spF a b = X at S2 R2 HOK HND HSZ ⊢
      generalize spT a b = Y at S2 R2 HOK HND HSZ ⊢
      clear hb2 S SP
      go_wp2_with fail
      generalize w2.alloc (.cells #[.string X, .string Y] 30) = w3 at S2 R2 ⊢
      generalize w2.heap.size = R at R2 ⊢
      obtain ⟨kk, S2, hk20⟩ : ∃ kk, Hid (Stm w0 w3 B A kk d acc) ∧ kk ≤ 20 := ⟨_, S2, hk20⟩
      have HW := owner_want S2.out.a HOK.out (Or.inl HND.out.1) HND.out.2
      obtain ⟨o, bl, hv, hw1⟩ : ∃ o bl, ownerV d X Y = (o, bl, 0) ∧ ((bl = true ∧ wantL acc X Y 64 = (o, true)) ∨ (bl = false ∧ o = 0 ∧ (wantL acc X Y 64).2 = false)) := by
        rcases HW with ⟨o, _, h1, h2⟩ | ⟨h1, h2⟩
        · exact ⟨o, true, h1, Or.inl ⟨rfl, h2⟩⟩
        · exact ⟨0, false, h1, Or.inr ⟨rfl, rfl, h2⟩⟩
      have HV := Lib.hid hv
      have HW1 := Lib.hid hw1
      clear HW hv hw1
      refine (owner_stm S2.out (by omega) X Y HSZ.out.1 HSZ.out.2 HV.out).mono ?_
      rintro e w4 ⟨rfl, hS4, hb4⟩
      have S4 := Lib.hid hS4
      have R4 := Lib.hid (R2.out.below hb4 R2.out.lt)
      have HH := Lib.hid (fun (k : Nat) W => has_any X Y (nmS k) W HSZ.out.1 HSZ.out.2 (by rw [nm_size]; omega))
      have NN := Lib.hid (fun (k : Nat) (hk : k < 64) W => nm_nat k (by omega) W)
      clear hS4 hb4 S2 R2
      go_wp2_with fail
      go_loopw [89, 23, 24] (fun i wv on wr => ∃ (k : Nat) (wk : Int) (ok : Bool), k ≤ 64 ∧ i = .int .i64 k ∧ wv = .int .i64 wk ∧ on = .bool ok ∧ Hid (wantL acc X Y k = (wk, ok)) ∧ Hid (Below w4.heap.size w4 wr)) (fun i _ _ _ => 64 - (intOf i).toNat)
      case atStart => exact ⟨0, 0, true, Nat.zero_le _, rfl, rfl, rfl, Lib.hid rfl, Lib.hid (Below.refl _ _)⟩
      case round =>
        obtain ⟨k, wk, ok, hk, rfl, rfl, rfl, HL, BW0⟩ := hrel
        by_cases hlt : k < 64
        · as_aux_lemma =>
          have hki : (k : Int) < 64 := by omega
          have hk0 : (0 : Int) ≤ k := by omega
          have hu : IntKind.u8.wrap (k : Int) = k := IntWalk.u8_in _ (by omega)
          have NK := Lib.hid (NN.out k hlt)
          have HK := Lib.hid (HH.out k)
          have RR := R4.out.below BW0.out R4.out.lt
          have HS : Hid (wr.cell? ⟨R, 0, none⟩ = some (.string X) ∧ wr.cell? ⟨R, 1, none⟩ = some (.string Y) ∧ Below w4.heap.size w4 wr) := Lib.hid ⟨RR.cell 0, RR.cell 1, BW0.out⟩
          have HS' : Hid (wr.drew.cell? ⟨R, 0, none⟩ = some (.string X) ∧ wr.drew.cell? ⟨R, 1, none⟩ = some (.string Y) ∧ Below w4.heap.size w4 wr.drew) := Lib.hid ⟨RR.cell 0, RR.cell 1, BW0.out.drew⟩
          have HU := wantL_up HL.out
          clear RR BW0
          cases hh : hasR X Y (nmS k) with
          | false => as_aux_lemma =>
            rw [hh] at HK HU
            simp only [Bool.false_eq_true, if_false] at HU
            go_wp2_with fail
            go_region_held3 (fun w' => w'.cell? ⟨R, 0, none⟩ = some (.string X) ∧ w'.cell? ⟨R, 1, none⟩ = some (.string Y) ∧ Below w4.heap.size w4 w')
              (first | exact HS.out | exact HS'.out | (refine rkeep ?_ hb2; assumption) | assumption)
              (first | (go_at_call 18; refine (NK.out _).mono ?_; rintro e w2 ⟨rfl, hb2⟩) | (go_at_call 17; refine (HK.out _).mono ?_; rintro e w2 ⟨rfl, hb2⟩))
            rename_i hF
            have BW := Lib.hid hF.2.2
            have HX := Lib.hid HU
            clear hF HU
            go_wp2_with fail
            go_roundw
            case rel => exact ⟨k + 1, _, _, by omega, by go_num, rfl, rfl, HX, BW⟩
            case measure => simp [intOf]; omega
          | true => as_aux_lemma =>
            rw [hh] at HK HU
            simp only [if_true] at HU
            go_wp2_with fail
            go_region_held3 (fun w' => w'.cell? ⟨R, 0, none⟩ = some (.string X) ∧ w'.cell? ⟨R, 1, none⟩ = some (.string Y) ∧ Below w4.heap.size w4 w')
              (first | exact HS.out | exact HS'.out | (refine rkeep ?_ hb2; assumption) | assumption)
              (first | (go_at_call 18; refine (NK.out _).mono ?_; rintro e w2 ⟨rfl, hb2⟩) | (go_at_call 17; refine (HK.out _).mono ?_; rintro e w2 ⟨rfl, hb2⟩))
            rename_i hF
            have BW := Lib.hid hF.2.2
            have hAc := S4.out.s.a.keep BW.out
            have x0 := (hAc.cell hlt).1
            clear hF hAc
            generalize (acc k).1 = gk at x0 HU
            cases ok with
            | false =>
              have HX := Lib.hid HU
              clear HU
              go_wp2_with fail
              go_roundw
              case rel => exact ⟨k + 1, _, _, by omega, by go_num, rfl, rfl, HX, BW⟩
              case measure => simp [intOf]; omega
            | true =>
              by_cases q0 : wk = 0
              · subst q0
                have HX := Lib.hid (HU.trans (by rfl : _ = (gk, true)))
                clear HU
                go_wp2_with fail
                go_roundw
                case rel => exact ⟨k + 1, _, _, by omega, by go_num, rfl, rfl, HX, BW⟩
                case measure => simp [intOf]; omega
              · as_aux_lemma =>
                have e4 : (wk == 0) = false := beq_eq_false_iff_ne.2 q0
                have e5 : (wk = 0) = False := eq_false q0
                by_cases q1 : wk = gk
                · subst q1
                  have HX := Lib.hid (HU.trans (by simp : _ = (wk, true)))
                  clear HU
                  go_wp2_with fail
                  go_roundw
                  case rel => exact ⟨k + 1, _, _, by omega, by go_num, rfl, rfl, HX, BW⟩
                  case measure => simp [intOf]; omega
                · have e7 : (wk == gk) = false := beq_eq_false_iff_ne.2 q1
                  have e8 : (wk = gk) = False := eq_false q1
                  have HX := Lib.hid (HU.trans (by simp [q0, q1] : _ = (gk, false)))
                  clear HU
                  go_wp2_with fail
                  go_roundw
                  case rel => exact ⟨k + 1, _, _, by omega, by go_num, rfl, rfl, HX, BW⟩
                  case measure => simp [intOf]; omega
        · obtain rfl : k = 64 := by omega
          rw [show ((64 : Nat) : Int) = 64 from rfl]
          have S5 := Lib.hid (S4.out.keep BW0.out)
          have R5 := Lib.hid (R4.out.below BW0.out R4.out.lt)
          clear hlt hk S4 R4 BW0
          go_upto_region 25 with fail
          go_cut [141] (fun cv wx => cv = .bool false ∧ wx = wr)
          case first => as_aux_lemma =>
            rcases HW1.out with ⟨rfl, h2⟩ | ⟨rfl, rfl, h2⟩
            · rw [HL.out] at h2
              cases h2
              go_wp2_with fail
              go_meet
              exact ⟨rfl, rfl⟩
            · rw [HL.out] at h2
              obtain rfl : ok = false := h2
              go_wp2_with fail
              go_meet
              exact ⟨rfl, rfl⟩
          case rest =>
            obtain ⟨rfl, rfl⟩ := hcut
            have NQ := Lib.hid (fun W => nm_nat q (by omega) W)
            have HQ := Lib.hid (HH.out (q % 64))
            rw [nmS_mod] at HQ
            have hq64 : q % 64 < 64 := Nat.mod_lt _ (by decide)
            go_wp2_with fail
            refine (NQ.out _).mono ?_
            rintro e w6 ⟨rfl, hb6⟩
            have S6 := Lib.hid (S5.out.keep hb6)
            have R6 := Lib.hid (R5.out.below hb6 R5.out.lt)
            clear hb6 S5 R5
            go_upto_region 28 with fail
            go_cut [152] (fun cv wx => cv = .bool (hasR X Y (nmS q) && decide (nmS q ≠ X)) ∧ Hid (Stm w0 wx B A kk d acc) ∧ Hid (Whole wx R 30 #[.string X, .string Y]))
            case first => as_aux_lemma =>
              have r0 := (R6.out.cell 0).trans (show _ = some (Value.string X) from rfl)
              have r1 := (R6.out.cell 1).trans (show _ = some (Value.string Y) from rfl)
              go_wp2_with fail
              clear r0 r1
              refine (HQ.out _).mono ?_
              rintro e w7 ⟨rfl, hb7⟩
              have S7 := Lib.hid (S6.out.keep hb7)
              have R7 := Lib.hid (R6.out.below hb7 R6.out.lt)
              have r0 := (R7.out.cell 0).trans (show _ = some (Value.string X) from rfl)
              have r1 := (R7.out.cell 1).trans (show _ = some (Value.string Y) from rfl)
              clear hb7 S6 R6
              cases hh : hasR X Y (nmS q) with
              | false =>
                go_wp2_with fail
                go_meet
                exact ⟨by rw [hh]; rfl, S7, R7⟩
              | true =>
                by_cases heq : nmS q = X
                · subst heq
                  go_wp2_with fail
                  go_meet
                  exact ⟨by rw [hh]; simp, S7, R7⟩
                · have heq2 := ba_ne heq
                  go_wp2_with fail
                  go_meet
                  exact ⟨by rw [hh]; simp [heq], S7, R7⟩
            case rest =>
              obtain ⟨rfl, S7, R7⟩ := hcut
              clear S6 R6
              go_upto_if 152 with fail
              go_cut [] (fun wx => Hid (Stm w0 wx B A kk d acc))
              case first => as_aux_lemma =>
                by_cases hcd : hasR X Y (nmS q) = true ∧ nmS q ≠ X
                · obtain ⟨hh, heq⟩ := hcd
                  have hcb : (hasR X Y (nmS q) && decide (nmS q ≠ X)) = true := by rw [hh]; simp [heq]
                  rw [hcb]
                  have r0 := (R7.out.cell 0).trans (show _ = some (Value.string X) from rfl)
                  have r1 := (R7.out.cell 1).trans (show _ = some (Value.string Y) from rfl)
                  clear hcb
                  obtain ⟨o1, b1, o2, b2, v1, v2, hbl⟩ := owner_halves S7.out.a HOK.out HND.out.1 HND.out.2 hq64 (by rw [nmS_mod]; exact hh) (by rw [nmS_mod]; exact heq)
                  rw [nmS_mod] at v1 v2
                  rw [HV.out] at hbl
                  have V1 := Lib.hid v1
                  have V2 := Lib.hid v2
                  have HBL := Lib.hid hbl
                  clear v1 v2 hbl heq
                  go_wp2_with fail
                  clear r0 r1
                  refine (owner_stm S7.out (by omega) X (nmS q) HSZ.out.1 (by rw [nm_size]; omega) V1.out).mono ?_
                  rintro e w8 ⟨rfl, hS8, hb8⟩
                  have S8 := Lib.hid hS8
                  have R8 := Lib.hid (R7.out.below hb8 R7.out.lt)
                  have r1 := (R8.out.cell 1).trans (show _ = some (Value.string Y) from rfl)
                  clear hS8 hb8 S7 R7
                  go_wp2_with fail
                  clear r1
                  refine (owner_stm S8.out (by omega) (nmS q) Y (by rw [nm_size]; omega) HSZ.out.2 V2.out).mono ?_
                  rintro e w9 ⟨rfl, hS9, hb9⟩
                  have S9 := Lib.hid hS9
                  clear hS9 hb9 S8 R8
                  cases b1 with
                  | false =>
                    obtain rfl : bl = false := HBL.out
                    go_wp2_with fail
                    go_meet
                    exact S9
                  | true =>
                    cases b2 with
                    | false =>
                      obtain rfl : bl = false := HBL.out
                      go_wp2_with fail
                      go_meet
                      exact S9
                    | true =>
                      by_cases he : o1 = o2
                      · subst he
                        obtain rfl : bl = true := HBL.out.trans (by simp)
                        go_wp2_with fail
                        go_meet
                        exact S9
                      · obtain rfl : bl = false := HBL.out.trans (by simp [he])
                        have e7 : (o1 == o2) = false := beq_eq_false_iff_ne.2 he
                        have e8 : (o1 = o2) = False := eq_false he
                        go_wp2_with fail
                        go_meet
                        exact S9
                · have hcb : (hasR X Y (nmS q) && decide (nmS q ≠ X)) = false := by
                    cases hh : hasR X Y (nmS q) with
                    | false => rfl
                    | true => rw [hh] at hcd; simpa using hcd
                  rw [hcb]
                  go_wp2_with fail
                  go_meet
                  exact S7
              case rest => as_aux_lemma =>
                have S6 := hcut
                clear S7 R7 HH NN HV HW1 HL
                have hl6 := S6.out.l
                go_wp2_with fail
                refine (ranges_st S6.out.s.s (n := d.length) rfl (by omega)).mono ?_
                rintro e w7 ⟨a3, c3, rfl, hR7, _, hb7⟩
                have S7 := Lib.hid (S6.out.keep hb7)
                have V7 := Lib.hid hR7
                clear hR7 hb7 S6
                go_wp2_with fail
                go_loopw [195] (fun i wr => ∃ k : Nat, k ≤ d.length ∧ i = .int .i64 k ∧ Hid (Stm w0 wr B A kk d acc) ∧ Hid (SlR wr (.slice a3 d.length c3) (rgs d))) (fun i _ => d.length - (intOf i).toNat)
                case atStart => exact ⟨0, Nat.zero_le _, rfl, S7, V7⟩
                case round =>
                  clear S7 V7
                  obtain ⟨k, hk, rfl, S, V⟩ := hrel
                  by_cases hlt : k < d.length
                  · as_aux_lemma =>
                    have hki : (k : Int) < d.length := by omega
                    have hwk : IntKind.i64.wrap ((k : Int) + 1) = (k : Int) + 1 := IntWalk.i64_in _ (by omega)
                    obtain ⟨p, hp⟩ : ∃ p, d[k]? = some p := ⟨_, List.getElem?_eq_getElem hlt⟩
                    have hpd := List.mem_of_getElem? hp
                    obtain ⟨g, og, rfl, z0, z1⟩ := V.out.get (i := k) (p := (p.f, p.t)) (by simp [rgs, hp])
                    have hpw := Lib.hid (owner_part S.out.a hpd)
                    have hsz := Lib.hid ((S.out.small (by omega)).2 p hpd)
                    have HPW := hpw
                    have hS8 := Lib.hid (S.out.keep ((Below.refl wr.heap.size wr).alloc (Nat.le_refl _) (.cells #[.string p.f, .string p.t] 30)))
                    have hV8 := Lib.hid (V.out.keep ((Below.refl wr.heap.size wr).alloc (Nat.le_refl _) (.cells #[.string p.f, .string p.t] 30)))
                    clear hpd hpw S V
                    go_wp2_with fail
                    clear z0 z1
                    refine (owner_stm hS8.out (by omega) p.f p.t hsz.out.1 hsz.out.2 HPW.out).mono ?_
                    rintro e w9 ⟨rfl, hS9, hb9⟩
                    have S9 := Lib.hid hS9
                    have V9 := Lib.hid (hV8.out.keep hb9)
                    clear hS9 hb9 hS8 hV8
                    go_wp2_with fail
                    refine (groups_st S9.out.s.s (n := d.length) rfl (by omega)).mono ?_
                    rintro e w10 ⟨a4, c4, rfl, hI, _, hb10⟩
                    have S10 := Lib.hid (S9.out.keep hb10)
                    have V10 := Lib.hid (V9.out.keep hb10)
                    obtain ⟨g5, o5, rfl, y0⟩ := hI.get (i := k) (p := p.g) (by simp [grs, hp])
                    clear hI hb10 S9 V9 HPW hsz
                    go_wp2_with fail
                    go_roundw
                    case rel => exact ⟨k + 1, by omega, by go_num, S10, V10⟩
                    case measure => simp [intOf]; omega
                  · obtain rfl : k = d.length := by omega
                    go_wp2_with fail
                    refine (works_st S.out.s.s).mono ?_
                    rintro e w8 ⟨rfl, hb8⟩
                    have BE := Lib.hid (b00.out.trans (hb8.mono b00.out.size))
                    clear hb8 S V
                    go_wp2_with fail
                    go_ret
                    exact ⟨rfl, BE.out⟩
end Go.Proofs.YtkkkppbcjmeapaaDoor
