/- A map with room for no more parts: the law. Condition: sizes of the arguments. -/
import Derived.Test.YtkkkppbcjmeapaaDoorPtSt
namespace Go.Proofs.YtkkkppbcjmeapaaDoor
open Go.RowKit

theorem nm5_add (k : Nat) : nmS k ++ ⟨#[53]⟩ = nm5 k := rfl
theorem sml (k : Nat) : (nmS k).size ≤ 9223372036854775807 := by rw [nm_size]; omega
theorem nm5_size (k : Nat) : (nm5 k).size = 3 := rfl
theorem sml5 (k : Nat) : (nm5 k).size ≤ 9223372036854775807 := by rw [nm5_size]; omega
set_option maxRecDepth 100000 in
set_option maxHeartbeats 4000000 in
theorem routeFull_any (c m : Nat) (w : World) (hc : c < 256) (hm : m < 256) :
    Calls Tryd.prog 4 #[.int .u8 (c : Int), .int .u8 (m : Int)] w fun e w' => e = .returned (.bool true) ∧ Below w.heap.size w w' := by
  have hg1 : IntKind.i64.wrap ((c : Int) % 7) = (c : Int) % 7 := IntWalk.i64_in _ (by omega)
  have hg2 : IntKind.i64.wrap (1 + (c : Int) % 7) = 1 + (c : Int) % 7 := IntWalk.i64_in _ (by omega)
  have hg3 : IntKind.i64.wrap (1 + (1 + (c : Int) % 7) % 7) = 1 + (1 + (c : Int) % 7) % 7 := IntWalk.i64_in _ (by omega)
  obtain ⟨own, hown⟩ : ∃ own : Int, own = 1 + (c : Int) % 7 := ⟨_, rfl⟩
  obtain ⟨oth, hoth⟩ : ∃ oth : Int, oth = 1 + (1 + (c : Int)) % 7 := ⟨_, rfl⟩
  have ho : 1 ≤ own ∧ own < 8 := by omega
  have hh : 1 ≤ oth ∧ oth < 8 := by omega
  have hne : own ≠ oth := by omega
  have HO := Lib.hid ho
  have HH := Lib.hid hh
  have HN := Lib.hid hne
  clear ho hh hne
  go_enter Tryd.func4, Tryd.ntmps4
  go_wp2_with fail
  rw [← hoth, ← hown]
  refine (new_st own HO.out w _ (Below.refl _ _)).mono ?_
  rintro e w1 ⟨B, rfl, _, hS, _⟩
  have S1 : Hid (St w w1 B (dF own oth 0)) := Lib.hid hS
  clear hS hg1 hg2 hg3 hown hoth
  go_wp2_with fail
  go_loopw [44] (fun i wr => ∃ k : Nat, k ≤ 31 ∧ i = .int .i64 k ∧ Hid (St w wr B (dF own oth (2 * k)))) (fun i _ => 31 - (intOf i).toNat)
  case atStart => exact ⟨0, by decide, rfl, S1⟩
  case round =>
    rename_i wr
    obtain ⟨k, hk31, rfl, S⟩ := hrel
    by_cases hlt : k < 31
    · have hki : (k : Int) < 31 := by omega
      have e1 : IntKind.i64.wrap (2 * (k : Int)) = ((2 * k : Nat) : Int) := by rw [IntWalk.i64_in _ (by omega)]; omega
      have e2 : IntKind.i64.wrap (((2 * k : Nat) : Int) + 1) = ((2 * k + 1 : Nat) : Int) := by rw [IntWalk.i64_in _ (by omega)]; omega
      have e3 : IntKind.u8.wrap ((2 * k + 1 : Nat) : Int) = ((2 * k + 1 : Nat) : Int) := IntWalk.u8_in _ (by omega)
      have e4 : IntKind.u8.wrap (((2 * k + 1 : Nat) : Int) + 1) = ((2 * k + 2 : Nat) : Int) := by rw [IntWalk.u8_in _ (by omega)]; omega
      have N1 := Lib.hid (fun W => nm_nat (2 * k + 1) (by omega) W)
      have N2 := Lib.hid (fun W => nm_nat (2 * k + 2) (by omega) W)
      have HM := Lib.hid (dF_move HO.out HH.out HN.out hlt (dF_ch HO.out HH.out HN.out hk31))
      go_wp2_with fail
      refine (N1.out _).mono ?_
      rintro e w2 ⟨rfl, hb⟩
      replace S := Lib.hid (S.out.keep hb)
      clear hb
      go_wp2_with fail
      refine (N2.out _).mono ?_
      rintro e w3 ⟨rfl, hb⟩
      replace S := Lib.hid (S.out.keep hb)
      clear hb
      go_wp2_with fail
      refine (move_st S.out _ _ _ (dF_small (by omega)) (by rw [dF_len]; omega) dF_e (sml _) (sml _) HM.out.1).mono ?_
      rintro e w4 ⟨rfl, hS, _⟩
      replace S := Lib.hid hS
      clear hS
      go_wp2_with fail
      go_roundw
      case rel => exact ⟨k + 1, by omega, by go_num, S⟩
      case measure => simp [intOf]; omega
    · obtain rfl : k = 31 := by omega
      have N63 := Lib.hid (fun W => nm_nat 63 (by omega) W)
      have HL := Lib.hid (dF_last HO.out HH.out HN.out (dF_ch HO.out HH.out HN.out (Nat.le_refl 31)))
      replace S : Hid (St w wr B (dF own oth 62)) := S
      clear hlt hk31 S1
      obtain ⟨k, hk⟩ : ∃ k, k = m % 63 := ⟨_, rfl⟩
      have hk63 : k < 63 := by omega
      have NK := Lib.hid (fun W => nm_any ((m : Int) % 63) W (by omega) (by omega))
      rw [show ((m : Int) % 63).toNat = k by omega] at NK
      clear hk
      go_wp2_with fail
      refine (N63.out _).mono ?_
      rintro e w2 ⟨rfl, hb⟩
      have hS := S.out.keep hb
      have hBn : w2.heap.size ≠ B := by have := hS.m.lt; omega
      have R := Lib.hid (Whole.new w2 30 #[.string (nmS 63), .string ⟨#[]⟩])
      replace S := Lib.hid (hS.alloc (.cells #[.string (nmS 63), .string ⟨#[]⟩] 30))
      clear hb hS
      go_wp2_with fail
      refine (move_st S.out _ _ _ (dF_small (by omega)) (by rw [dF_len]; omega) dF_e (sml _) (by decide) HL.out.1).mono ?_
      rintro e w3 ⟨rfl, hS, hg⟩
      replace S := Lib.hid hS
      replace R := Lib.hid (R.out.other hBn hg)
      clear hS hg
      go_wp2_with fail
      refine (ranges_st S.out (n := 64) (by rw [dF_len]) (by decide)).mono ?_
      rintro e w4 ⟨a1, c1, rfl, _, hS, hb⟩
      replace S := Lib.hid hS
      replace R := Lib.hid (R.out.below hb R.out.lt)
      clear hS hb
      have hadd := nm5_add k
      go_wp2_with fail
      refine (NK.out _).mono ?_
      rintro e w5 ⟨rfl, hb⟩
      replace S := Lib.hid (S.out.keep hb)
      replace R := Lib.hid (R.out.below hb R.out.lt)
      clear hb
      go_wp2_with fail
      refine (NK.out _).mono ?_
      rintro e w6 ⟨rfl, hb⟩
      replace S := Lib.hid (S.out.keep hb)
      replace R := Lib.hid (R.out.below hb R.out.lt)
      clear hb
      go_wp2_with fail
      have hBs : w6.heap.size ≠ B := by have := S.out.m.lt; omega
      have R2 := Lib.hid (Whole.new w6 30 #[.string (nmS k), .string (nm5 k)])
      replace S := Lib.hid (S.out.alloc (.cells #[.string (nmS k), .string (nm5 k)] 30))
      replace R := Lib.hid (R.out.alloc (.cells #[.string (nmS k), .string (nm5 k)] 30))
      refine (groups_st S.out (n := 64) (by rw [dF_len]) (by decide)).mono ?_
      rintro e w7 ⟨ag, cg, rfl, hI, hS, hb⟩
      have G := Lib.hid hI
      replace S := Lib.hid hS
      replace R := Lib.hid (R.out.below hb R.out.lt)
      replace R2 := Lib.hid (R2.out.below hb R2.out.lt)
      clear hS hb hI hadd
      go_wp2_with fail
      refine (NK.out _).mono ?_
      rintro e w8 ⟨rfl, hb⟩
      replace S := Lib.hid (S.out.keep hb)
      replace R := Lib.hid (R.out.below hb R.out.lt)
      replace R2 := Lib.hid (R2.out.below hb R2.out.lt)
      replace G := Lib.hid (G.out.keep hb)
      clear hb
      have HC := Lib.hid (dF_last HO.out HH.out HN.out (dF_ch HO.out HH.out HN.out (Nat.le_refl 31))).2
      have HB := Lib.hid (dF_back HO.out HH.out HN.out HC.out)
      have HF := Lib.hid (dF_find (own := own) (oth := oth) hk63 HC.out)
      go_wp2_with fail
      refine (group_st S.out _ (dF_small (by omega)) (sml _) (nm_isName _) HF.out).mono ?_
      rintro e w9 ⟨rfl, hS, hb⟩
      replace S := Lib.hid hS
      replace R := Lib.hid (R.out.below hb R.out.lt)
      replace R2 := Lib.hid (R2.out.below hb R2.out.lt)
      replace G := Lib.hid (G.out.keep hb)
      clear hb hS N63 HL NK
      by_cases hpar : k % 2 = 0
      · skip
        have hgp : (pcF own oth k).g = own := by show gP own oth k = _; unfold gP; exact if_pos (by omega)
        have HP := Lib.hid (dF_no HO.out HH.out hk63 HC.out (g := oth) (by first | exact HH.out | exact HO.out) (by show (pcF own oth k).g ≠ _; rw [hgp]; first | exact HN.out | exact fun e => HN.out e.symm))
        have hq1 : (own == oth) = false := beq_eq_false_iff_ne.2 HN.out
        have hq2 : (oth == own) = false := beq_eq_false_iff_ne.2 (fun e => HN.out e.symm)
        have hq3 : (oth = own) = False := eq_false (fun e => HN.out e.symm)
        rw [hgp]
        have y0 := (R2.out.cell 0).trans (show _ = some (Value.string (nmS k)) from rfl)
        have y1 := (R2.out.cell 1).trans (show _ = some (Value.string (nm5 k)) from rfl)
        clear hgp hpar R2
        go_wp2_with fail
        clear y0 y1
        refine (move_st S.out _ _ _ (dF_small (by omega)) (by rw [dF_len]; omega) dF_e (sml _) (sml5 _) HP.out).mono ?_
        rintro e w10 ⟨rfl, hS, hg⟩
        have G10 := Lib.hid (G.out.other S.out.m hg)
        replace S := Lib.hid hS
        have R10 := Lib.hid (R.out.other hBn hg)
        clear hS hg G R
        go_wp2_with fail
        refine (groups_st S.out (n := 64) (by rw [dF_len]) (by decide)).mono ?_
        rintro e w11 ⟨ah, ch, rfl, hI, hS, hb⟩
        have H11 := Lib.hid hI
        have S11 := Lib.hid hS
        have R11 := Lib.hid (R10.out.below hb R10.out.lt)
        have G11 := Lib.hid (G10.out.keep hb)
        clear hS hb hI R10 G10 S
        go_wp2_with fail
        refine (equalI_any _ _ _ _ _ H11.out G11.out (by rw [grs, List.length_map, dF_len]; decide)).mono ?_
        rintro e w12 ⟨⟨b, rfl, hbq⟩, hb⟩
        obtain rfl : b = true := hbq.2 rfl
        have S12 := Lib.hid (S11.out.keep hb)
        have R12 := Lib.hid (R11.out.below hb R11.out.lt)
        have z0 := (R12.out.cell 0).trans (show _ = some (Value.string (nmS 63)) from rfl)
        have z1 := (R12.out.cell 1).trans (show _ = some (Value.string ⟨#[]⟩) from rfl)
        clear hb hbq S11 R11 G11 H11 R12
        go_wp2_with fail
        clear z0 z1
        refine (move_st S12.out _ _ _ (dF_small (by omega)) (by rw [dF_len]; omega) dF_e (sml _) (by decide) HB.out).mono ?_
        rintro e w13 ⟨rfl, hS, _⟩
        have S13 := Lib.hid hS
        clear hS S12
        go_wp2_with fail
        refine (new_err 0 (by decide) _).mono ?_
        rintro e w14 ⟨rfl, hb⟩
        have S14 := Lib.hid (S13.out.keep hb)
        clear hb S13
        go_wp2_with fail
        refine (new_err 8 (by decide) _).mono ?_
        rintro e w15 ⟨rfl, hb⟩
        have S15 := Lib.hid (S14.out.keep hb)
        clear hb S14
        go_wp2_with fail
        refine (ranges_st S15.out (n := 64) (by rw [dB_len]) (by decide)).mono ?_
        rintro e w16 ⟨a2, c2, rfl, _, hS, _⟩
        have S16 := Lib.hid hS
        clear hS S15
        go_wp2_with fail
        refine (works_st S16.out).mono ?_
        rintro e w17 ⟨rfl, hb⟩
        have BE := Lib.hid hb
        clear hb S16
        go_wp2_with fail
        go_ret
        exact ⟨rfl, BE.out⟩
      · skip
        have hgp : (pcF own oth k).g = oth := by show gP own oth k = _; unfold gP; exact if_neg (by omega)
        have HP := Lib.hid (dF_no HO.out HH.out hk63 HC.out (g := own) (by first | exact HH.out | exact HO.out) (by show (pcF own oth k).g ≠ _; rw [hgp]; first | exact HN.out | exact fun e => HN.out e.symm))
        have hq1 : (own == oth) = false := beq_eq_false_iff_ne.2 HN.out
        have hq2 : (oth == own) = false := beq_eq_false_iff_ne.2 (fun e => HN.out e.symm)
        have hq3 : (oth = own) = False := eq_false (fun e => HN.out e.symm)
        rw [hgp]
        have y0 := (R2.out.cell 0).trans (show _ = some (Value.string (nmS k)) from rfl)
        have y1 := (R2.out.cell 1).trans (show _ = some (Value.string (nm5 k)) from rfl)
        clear hgp hpar R2
        go_wp2_with fail
        clear y0 y1
        refine (move_st S.out _ _ _ (dF_small (by omega)) (by rw [dF_len]; omega) dF_e (sml _) (sml5 _) HP.out).mono ?_
        rintro e w10 ⟨rfl, hS, hg⟩
        have G10 := Lib.hid (G.out.other S.out.m hg)
        replace S := Lib.hid hS
        have R10 := Lib.hid (R.out.other hBn hg)
        clear hS hg G R
        go_wp2_with fail
        refine (groups_st S.out (n := 64) (by rw [dF_len]) (by decide)).mono ?_
        rintro e w11 ⟨ah, ch, rfl, hI, hS, hb⟩
        have H11 := Lib.hid hI
        have S11 := Lib.hid hS
        have R11 := Lib.hid (R10.out.below hb R10.out.lt)
        have G11 := Lib.hid (G10.out.keep hb)
        clear hS hb hI R10 G10 S
        go_wp2_with fail
        refine (equalI_any _ _ _ _ _ H11.out G11.out (by rw [grs, List.length_map, dF_len]; decide)).mono ?_
        rintro e w12 ⟨⟨b, rfl, hbq⟩, hb⟩
        obtain rfl : b = true := hbq.2 rfl
        have S12 := Lib.hid (S11.out.keep hb)
        have R12 := Lib.hid (R11.out.below hb R11.out.lt)
        have z0 := (R12.out.cell 0).trans (show _ = some (Value.string (nmS 63)) from rfl)
        have z1 := (R12.out.cell 1).trans (show _ = some (Value.string ⟨#[]⟩) from rfl)
        clear hb hbq S11 R11 G11 H11 R12
        go_wp2_with fail
        clear z0 z1
        refine (move_st S12.out _ _ _ (dF_small (by omega)) (by rw [dF_len]; omega) dF_e (sml _) (by decide) HB.out).mono ?_
        rintro e w13 ⟨rfl, hS, _⟩
        have S13 := Lib.hid hS
        clear hS S12
        go_wp2_with fail
        refine (new_err 0 (by decide) _).mono ?_
        rintro e w14 ⟨rfl, hb⟩
        have S14 := Lib.hid (S13.out.keep hb)
        clear hb S13
        go_wp2_with fail
        refine (new_err 8 (by decide) _).mono ?_
        rintro e w15 ⟨rfl, hb⟩
        have S15 := Lib.hid (S14.out.keep hb)
        clear hb S14
        go_wp2_with fail
        refine (ranges_st S15.out (n := 64) (by rw [dB_len]) (by decide)).mono ?_
        rintro e w16 ⟨a2, c2, rfl, _, hS, _⟩
        have S16 := Lib.hid hS
        clear hS S15
        go_wp2_with fail
        refine (works_st S16.out).mono ?_
        rintro e w17 ⟨rfl, hb⟩
        have BE := Lib.hid hb
        clear hb S16
        go_wp2_with fail
        go_ret
        exact ⟨rfl, BE.out⟩
end Go.Proofs.YtkkkppbcjmeapaaDoor
