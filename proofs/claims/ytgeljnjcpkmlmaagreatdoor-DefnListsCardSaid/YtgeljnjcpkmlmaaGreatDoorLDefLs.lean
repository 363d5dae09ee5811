/- DefnLists returns true at every two definitions. Conditions: as the statement's own. -/
import Derived.Test.YtgeljnjcpkmlmaaGreatDoorDfV
import Derived.Test.YtgeljnjcpkmlmaaGreatDoorDfWrk
import Derived.Test.YtgeljnjcpkmlmaaGreatDoorDfShort
namespace Go.Proofs.YtgeljnjcpkmlmaaGreatDoor
open Go.RowKit Go.Shelf

theorem kyL_len (d : Dv) : (kyL d).length ≤ 8 := by
  by_cases h : defOk d
  · rw [kyL_yes h, srtD_len]; exact h.2.2.2.2.2.2.1
  · rw [kyL_no h]; exact Nat.zero_le _
theorem LstR.val2 {w w' : World} {T : TypeId} {f : Sp → Value} {d : Dv} {e : Ending} (h : LstR w w' T f d e) : ∃ A c, e = .returned (.tuple #[.slice A (kyL d).length c, .int .i64 (ckD d)]) ∧ SlF w' f A (kyL d) := by
  obtain ⟨A, n, c, h1, rfl, h2⟩ := h.val
  exact ⟨A, c, h1, h2⟩
theorem lsKeep {w wc w2 : World} {B C : Nat} {x y z u x' y' z' u' : Value} {A A' : Option Addr} {n c n' c' : Nat} {d d' : Dv}
    (h : wc.cell? ⟨B, 0, none⟩ = some x ∧ wc.cell? ⟨B, 1, none⟩ = some y ∧ wc.cell? ⟨B, 2, none⟩ = some z ∧ wc.cell? ⟨B, 3, none⟩ = some u ∧ wc.cell? ⟨C, 0, none⟩ = some x' ∧ wc.cell? ⟨C, 1, none⟩ = some y' ∧ wc.cell? ⟨C, 2, none⟩ = some z' ∧ wc.cell? ⟨C, 3, none⟩ = some u'
      ∧ (DefAt wc A n c d ∧ DefAt wc A' n' c' d') ∧ Below w.heap.size w wc) (hb : Below wc.heap.size wc w2) :
    w2.cell? ⟨B, 0, none⟩ = some x ∧ w2.cell? ⟨B, 1, none⟩ = some y ∧ w2.cell? ⟨B, 2, none⟩ = some z ∧ w2.cell? ⟨B, 3, none⟩ = some u ∧ w2.cell? ⟨C, 0, none⟩ = some x' ∧ w2.cell? ⟨C, 1, none⟩ = some y' ∧ w2.cell? ⟨C, 2, none⟩ = some z' ∧ w2.cell? ⟨C, 3, none⟩ = some u'
      ∧ (DefAt w2 A n c d ∧ DefAt w2 A' n' c' d') ∧ Below w.heap.size w w2 := by
  obtain ⟨h0, h1, h2, h3, h4, h5, h6, h7, ⟨d1, d2⟩, hB⟩ := h
  exact ⟨bcell h0 hb, bcell h1 hb, bcell h2 hb, bcell h3 hb, bcell h4 hb, bcell h5 hb, bcell h6 hb, bcell h7 hb, ⟨d1.keep hb, d2.keep hb⟩, hB.trans (hb.mono hB.size)⟩
set_option maxRecDepth 100000 in
set_option maxHeartbeats 4000000 in
theorem defnLists_any (d1 d2 : Dv) (A1 A2 : Option Addr) (n1 c1 n2 c2 : Nat) (w : World) (hl1 : d1.s.length = n1) (hnc1 : n1 ≤ c1) (hn1 : n1 ≤ 9223372036854775807) (hz1 : DefZ d1) (hs1 : SlD w A1 d1.s)
    (hl2 : d2.s.length = n2) (hnc2 : n2 ≤ c2) (hn2 : n2 ≤ 9223372036854775807) (hz2 : DefZ d2) (hs2 : SlD w A2 d2.s) (hE : DfE w) :
    Calls Tryz.prog 3 #[dV d1 A1 n1 c1, dV d2 A2 n2 c2] w fun e w' => e = .returned (.bool true) ∧ Below w.heap.size w w' := by
  have mixed : Tryz.prog.follows Departure.mixedOrders = true := by kernel_rfl
  have b2 := ((Below.refl w.heap.size w).alloc (Nat.le_refl _) (.cells #[.string d1.n, .int .i64 d1.r, .int .i64 d1.dl, .slice A1 n1 c1] 24)).alloc (by simp) (.cells #[.string d2.n, .int .i64 d2.r, .int .i64 d2.dl, .slice A2 n2 c2] 24)
  have SH1 := Lib.hid (short_any d1 A1 n1 c1 _ hl1 hn1 hz1 (hs1.keep b2))
  have SH2 := Lib.hid (fun (W : World) (hb : Below w.heap.size w W) => short_any d2 A2 n2 c2 W hl2 hn2 hz2 (hs2.keep hb))
  have W1 := Lib.hid ((Whole.new w 24 #[.string d1.n, .int .i64 d1.r, .int .i64 d1.dl, .slice A1 n1 c1]).alloc (.cells #[.string d2.n, .int .i64 d2.r, .int .i64 d2.dl, .slice A2 n2 c2] 24))
  have W2 := Lib.hid (Whole.new (w.alloc (.cells #[.string d1.n, .int .i64 d1.r, .int .i64 d1.dl, .slice A1 n1 c1] 24)) 24 #[.string d2.n, .int .i64 d2.r, .int .i64 d2.dl, .slice A2 n2 c2])
  have HB := Lib.hid b2
  have HE := Lib.hid hE
  have HA1 := Lib.hid (fun (W : World) (hb : Below w.heap.size w W) (hS : ShortD d1) => (show DefAt W A1 n1 c1 d1 from ⟨hl1, hnc1, by have := hS.1; omega, hz1, hs1.keep hb⟩))
  have HA2 := Lib.hid (fun (W : World) (hb : Below w.heap.size w W) (hS : ShortD d2) => (show DefAt W A2 n2 c2 d2 from ⟨hl2, hnc2, by have := hS.1; omega, hz2, hs2.keep hb⟩))
  have WK := Lib.hid (fun (W : World) (hb : Below w.heap.size w W) => works_any W (hE.keep hb))
  have HLn := Lib.hid hl2
  have HZ := Lib.hid hz2
  unfold dV at SH1 SH2
  clear b2 hE hz1 hs1 hnc1 hn1 hl1 hz2 hs2 hnc2 hn2 hl2
  unfold dV
  go_enter Tryz.func3, Tryz.ntmps3
  go_upto_region 1 with fail
  generalize (w.alloc (.cells #[.string d1.n, .int .i64 d1.r, .int .i64 d1.dl, .slice A1 n1 c1] 24)).alloc (.cells #[.string d2.n, .int .i64 d2.r, .int .i64 d2.dl, .slice A2 n2 c2] 24) = w0 at HB SH1 W1 W2 ⊢
  simp only [World.size_alloc] at W2
  obtain ⟨x0, x1, x2, x3⟩ := def_cells W1.out
  go_upto_if 24 with (first
    | (go_at_call 11; go_fit SH1.out; rintro e w1 ⟨⟨b, rfl, hb⟩, hB⟩; have B1 := Lib.hid (HB.out.trans (hB.mono HB.out.size)); have W11 := Lib.hid (W1.out.keep hB); have W12 := Lib.hid (W2.out.keep hB); have HSh1 := Lib.hid hb; have SH2 := Lib.hid (SH2.out w1 B1.out); obtain ⟨y0, y1, y2, y3⟩ := def_cells W12.out; clear hb hB SH1; cases b)
    | (go_at_call 11; go_fit SH2.out; rintro e w2 ⟨⟨b, rfl, hb⟩, hB⟩; have B2 := Lib.hid (B1.out.trans (hB.mono B1.out.size)); have W21 := Lib.hid (W11.out.keep hB); have W22 := Lib.hid (W12.out.keep hB); have HSh2 := Lib.hid hb; clear hb hB SH2; cases b))
  · have WF := Lib.hid (WK.out w1 B1.out)
    go_wp2_with (go_at_call 12; refine WF.out.mono ?_; rintro e w3 ⟨rfl, hB2⟩)
    go_ret
    exact ⟨rfl, B1.out.trans (hB2.mono B1.out.size)⟩
  · have WF := Lib.hid (WK.out w2 B2.out)
    go_wp2_with (go_at_call 12; refine WF.out.mono ?_; rintro e w3 ⟨rfl, hB2⟩)
    go_ret
    exact ⟨rfl, B2.out.trans (hB2.mono B2.out.size)⟩
  have HS1 := Lib.hid (HSh1.out trivial)
  have HS2 := Lib.hid (HSh2.out trivial)
  have hn20 : n2 ≤ 20 := by have := HS2.out.1; rw [HLn.out] at this; exact this
  clear HSh1 HSh2 HB W1 W2 W11 W12 B1 x0 x1 x2 x3 y0 y1 y2 y3
  have HM := Lib.hid (kyL_len d2)
  have E3 := Lib.hid ((keys_any d2 A2 n2 c2 w2 (HA2.out w2 B2.out HS2.out)).mono (fun e w' ⟨h, hb⟩ => And.intro h.val2 hb))
  unfold dV at E3
  obtain ⟨y0, y1, y2, y3⟩ := def_cells W22.out
  go_upto_region 4 with (go_at_call 13; refine E3.out.mono ?_; rintro e w3 ⟨⟨L3, k3, rfl, hf⟩, hB⟩)
  have B3 := Lib.hid (B2.out.trans (hB.mono B2.out.size))
  have W31 := Lib.hid (W21.out.keep hB)
  have W32 := Lib.hid (W22.out.keep hB)
  have F3 := Lib.hid (And.intro hf (Below.refl w3.heap.size w3))
  have K3 := Lib.hid hB
  clear E3 hf hB y0 y1 y2 y3 W21 W22 B2
  have E4 := Lib.hid ((rkeys_any d2 A2 n2 c2 w3 (HA2.out w3 B3.out HS2.out)).mono (fun e w' ⟨h, hb⟩ => And.intro h.val2 hb))
  unfold dV at E4
  obtain ⟨y0, y1, y2, y3⟩ := def_cells W32.out
  go_upto_region 5 with (go_at_call 14; refine E4.out.mono ?_; rintro e w4 ⟨⟨L4, k4, rfl, hf⟩, hB⟩)
  have B4 := Lib.hid (B3.out.trans (hB.mono B3.out.size))
  have W41 := Lib.hid (W31.out.keep hB)
  have W42 := Lib.hid (W32.out.keep hB)
  have F4 := Lib.hid (And.intro hf (Below.refl w4.heap.size w4))
  have K4 := Lib.hid hB
  clear E4 hf hB y0 y1 y2 y3 W31 W32 B3
  have E5 := Lib.hid ((net_any d2 A2 n2 c2 w4 (HA2.out w4 B4.out HS2.out)).mono (fun e w' ⟨h, hb⟩ => And.intro h.val2 hb))
  unfold dV at E5
  obtain ⟨y0, y1, y2, y3⟩ := def_cells W42.out
  go_upto_region 6 with (go_at_call 15; refine E5.out.mono ?_; rintro e w5 ⟨⟨L5, k5, rfl, hf⟩, hB⟩)
  have B5 := Lib.hid (B4.out.trans (hB.mono B4.out.size))
  have W51 := Lib.hid (W41.out.keep hB)
  have W52 := Lib.hid (W42.out.keep hB)
  have F5 := Lib.hid (And.intro hf (Below.refl w5.heap.size w5))
  have K5 := Lib.hid hB
  clear E5 hf hB y0 y1 y2 y3 W41 W42 B4
  have E6 := Lib.hid ((rnet_any d2 A2 n2 c2 w5 (HA2.out w5 B5.out HS2.out)).mono (fun e w' ⟨h, hb⟩ => And.intro h.val2 hb))
  unfold dV at E6
  obtain ⟨y0, y1, y2, y3⟩ := def_cells W52.out
  go_upto_region 7 with (go_at_call 16; refine E6.out.mono ?_; rintro e w6 ⟨⟨L6, k6, rfl, hf⟩, hB⟩)
  have B6 := Lib.hid (B5.out.trans (hB.mono B5.out.size))
  have W61 := Lib.hid (W51.out.keep hB)
  have W62 := Lib.hid (W52.out.keep hB)
  have F6 := Lib.hid (And.intro hf (Below.refl w6.heap.size w6))
  have K6 := Lib.hid hB
  clear E6 hf hB y0 y1 y2 y3 W51 W52 B5
  generalize hq : ckD d2 = q
  clear hq
  have HF := Lib.hid (And.intro (((F3.out.1.keep K4.out).keep K5.out).keep K6.out) (And.intro ((F4.out.1.keep K5.out).keep K6.out) (And.intro (F5.out.1.keep K6.out) F6.out.1)))
  clear F3 F4 F5 F6 K3 K4 K5 K6
  have HMM := Lib.hid (show (kyL d2).length = (kyL d2).length from rfl)
  generalize hm : (kyL d2).length = m at HM
  have HMX := Lib.hid hm
  clear hm HMM
  have D6 := Lib.hid (And.intro (HA1.out w6 B6.out HS1.out) (HA2.out w6 B6.out HS2.out))
  obtain ⟨x0, x1, x2, x3⟩ := def_cells W61.out
  obtain ⟨y0, y1, y2, y3⟩ := def_cells W62.out
  have SA : Hid (w6.drew.cell? ⟨w.heap.size, 0, none⟩ = some (.string d1.n) ∧ w6.drew.cell? ⟨w.heap.size, 1, none⟩ = some (.int .i64 d1.r) ∧ w6.drew.cell? ⟨w.heap.size, 2, none⟩ = some (.int .i64 d1.dl) ∧ w6.drew.cell? ⟨w.heap.size, 3, none⟩ = some (.slice A1 n1 c1)
      ∧ w6.drew.cell? ⟨w.heap.size + 1, 0, none⟩ = some (.string d2.n) ∧ w6.drew.cell? ⟨w.heap.size + 1, 1, none⟩ = some (.int .i64 d2.r) ∧ w6.drew.cell? ⟨w.heap.size + 1, 2, none⟩ = some (.int .i64 d2.dl) ∧ w6.drew.cell? ⟨w.heap.size + 1, 3, none⟩ = some (.slice A2 n2 c2)
      ∧ (DefAt w6.drew A1 n1 c1 d1 ∧ DefAt w6.drew A2 n2 c2 d2) ∧ Below w.heap.size w w6.drew) :=
    Lib.hid ⟨x0, x1, x2, x3, y0, y1, y2, y3, ⟨HA1.out _ B6.out.drew HS1.out, HA2.out _ B6.out.drew HS2.out⟩, B6.out.drew⟩
  obtain ⟨qe, hqe⟩ : ∃ qe : Bool, qe = true ↔ d1 = d2 := ⟨@decide (d1 = d2) (Classical.propDecidable _), by simp⟩
  have KE := Lib.hid (fun (W : World) (h : DefAt W A1 n1 c1 d1) (h' : DefAt W A2 n2 c2 d2) => (defEqual_any d1 d2 A1 A2 n1 n2 c1 c2 W h h').mono (R' := fun e w' => e = .returned (.bool qe) ∧ Below W.heap.size W w') (fun e w' ⟨⟨q0, he, hq0⟩, hb⟩ => ⟨by rw [he, show q0 = qe from Bool.eq_iff_iff.2 (hq0.trans hqe.symm)], hb⟩))
  have KR := Lib.hid (fun (W : World) (h : DefAt W A1 n1 c1 d1) (h' : DefAt W A2 n2 c2 d2) => (refEqual_any d1 d2 A1 A2 n1 n2 c1 c2 W h h').mono (R' := fun e w' => e = .returned (.bool qe) ∧ Below W.heap.size W w') (fun e w' ⟨⟨q0, he, hq0⟩, hb⟩ => ⟨by rw [he, show q0 = qe from Bool.eq_iff_iff.2 (hq0.trans hqe.symm)], hb⟩))
  unfold dV at KE KR
  have KF : Hid (∀ W : World, Below w6.heap.size w6 W → SlF W strV L3 (kyL d2) ∧ SlF W strV L4 (kyL d2) ∧ SlF W dlV L5 (kyL d2) ∧ SlF W dlV L6 (kyL d2)) := Lib.hid (fun W hb => ⟨HF.out.1.keep hb, HF.out.2.1.keep hb, HF.out.2.2.1.keep hb, HF.out.2.2.2.keep hb⟩)
  have K12 := Lib.hid (fun (W : World) (hb : Below w6.heap.size w6 W) => And.intro (W61.out.keep hb) (W62.out.keep hb))
  clear hqe x0 x1 x2 x3 y0 y1 y2 y3 HF W61 W62 D6
  have hqq : (qe != qe) = false := by simp
  have h66 : Hid (Below w6.heap.size w6 w6.drew) := Lib.hid (Below.refl _ _).drew
  go_upto_region 7 with fail
  go_cut [83] from 84 (fun s83 wx => s83 = .bool false ∧ Hid (Below w6.heap.size w6 wx))
  case first =>
    go_region_held3 (fun wx => wx.cell? ⟨w.heap.size, 0, none⟩ = some (.string d1.n) ∧ wx.cell? ⟨w.heap.size, 1, none⟩ = some (.int .i64 d1.r) ∧ wx.cell? ⟨w.heap.size, 2, none⟩ = some (.int .i64 d1.dl) ∧ wx.cell? ⟨w.heap.size, 3, none⟩ = some (.slice A1 n1 c1)
      ∧ wx.cell? ⟨w.heap.size + 1, 0, none⟩ = some (.string d2.n) ∧ wx.cell? ⟨w.heap.size + 1, 1, none⟩ = some (.int .i64 d2.r) ∧ wx.cell? ⟨w.heap.size + 1, 2, none⟩ = some (.int .i64 d2.dl) ∧ wx.cell? ⟨w.heap.size + 1, 3, none⟩ = some (.slice A2 n2 c2)
      ∧ (DefAt wx A1 n1 c1 d1 ∧ DefAt wx A2 n2 c2 d2) ∧ Below w.heap.size w wx)
      (first | exact SA.out | assumption | exact SB.out | exact SC.out)
      (first
        | (go_at_call 17; go_fit (KE.out _ SA.out.2.2.2.2.2.2.2.2.1.1 SA.out.2.2.2.2.2.2.2.2.1.2); rintro e w8 ⟨rfl, hb8⟩; have H8 := Lib.hid hb8; have SB := Lib.hid (lsKeep SA.out hb8); clear hb8)
        | (go_at_call 18; go_fit (KR.out _ SB.out.2.2.2.2.2.2.2.2.1.1 SB.out.2.2.2.2.2.2.2.2.1.2); rintro e w9 ⟨rfl, hb9⟩; have H9 := Lib.hid hb9; have SC := Lib.hid (lsKeep SB.out hb9); clear hb9))
    go_wp2_with fail
    go_meet
    case rel => exact ⟨by first | rfl | rw [hqq] | simp, Lib.hid (h66.out.trans (H8.out.trans (H9.out.mono H8.out.size)))⟩
  case rest =>
    obtain ⟨rfl, hcut⟩ := hcut
    clear SA KE KR hqq h66
    go_wp2_with fail
    go_loopw [13] (fun i wr => ∃ k : Nat, k ≤ m ∧ i = .int .i64 k ∧ Hid (Below w6.heap.size w6 wr)) (fun i _ => m - (intOf i).toNat)
    case atStart => exact ⟨0, by omega, rfl, hcut⟩
    case round =>
      clear hcut
      obtain ⟨k, hk, rfl, HI⟩ := hrel
      by_cases hkm : k < m
      · obtain ⟨p, hp⟩ : ∃ p, (kyL d2)[k]? = some p := ⟨_, List.getElem?_eq_getElem (by rw [HMX.out]; exact hkm)⟩
        obtain ⟨f3, f4, f5, f6⟩ := KF.out wr HI.out
        obtain ⟨g3, rfl, z3⟩ := f3 k p hp
        obtain ⟨g4, rfl, z4⟩ := f4 k p hp
        obtain ⟨g5, rfl, z5⟩ := f5 k p hp
        obtain ⟨g6, rfl, z6⟩ := f6 k p hp
        unfold strV at z3 z4
        unfold dlV at z5 z6
        have hk0 : (0 : Int) ≤ (k : Int) := by omega
        have hkm' : (k : Int) < (m : Int) := by omega
        have hm8 := HM.out
        have hwk : IntKind.i64.wrap ((k : Int) + 1) = (k : Int) + 1 := IntWalk.i64_in _ (by omega)
        have hv0 : (p.v != p.v) = false := by simp
        clear f3 f4 f5 f6 hp
        go_upto_region 12 with fail
        go_quiet (fail)
        go_wp2_with fail
        go_roundw
        case rel => exact ⟨k + 1, by omega, by go_num, Lib.hid (b_drewN HI.out _)⟩
        case measure => simp [intOf]; omega
      · obtain rfl : k = m := by omega
        have BW := Lib.hid (B6.out.trans (HI.out.mono B6.out.size))
        obtain ⟨W1, W2⟩ := K12.out wr HI.out
        have HW2 := Lib.hid W2
        obtain ⟨y0, y1, y2, y3⟩ := def_cells W2
        have CP := Lib.hid (refCopy_any d2 A2 n2 c2 wr HLn.out (by omega) (HA2.out wr BW.out HS2.out).s)
        unfold CpyR dV at CP
        clear W1 W2 HI KF K12 hk hkm
        go_upto_region 15 with (go_at_call 19; refine CP.out.mono ?_; rintro e w7 ⟨⟨A7, c7, rfl, hc7, ho7⟩, hB7⟩)
        have D7a := DefAt.of_copy hc7 ho7 HLn.out (by omega) HZ.out
        have ba := (Below.refl w7.heap.size w7).alloc (Nat.le_refl _) (.cells #[.string d2.n, .int .i64 d2.r, .int .i64 d2.dl, .slice A7 n2 c7] 24)
        have N8 := Lib.hid (Whole.new w7 24 #[.string d2.n, .int .i64 d2.r, .int .i64 d2.dl, .slice A7 n2 c7])
        have W8 := Lib.hid ((HW2.out.keep hB7).keep ba)
        have B8 := Lib.hid ((BW.out.trans (hB7.mono BW.out.size)).trans (ba.mono (by have := BW.out.size; have := hB7.size; omega)))
        have D8 := Lib.hid (D7a.keep ba)
        clear D7a ba hB7 ho7 hc7 y0 y1 y2 y3 HW2 BW CP
        generalize w7.alloc (.cells #[.string d2.n, .int .i64 d2.r, .int .i64 d2.dl, .slice A7 n2 c7] 24) = w8 at N8 W8 B8 D8 ⊢
        generalize w7.heap.size = C1 at N8 ⊢
        obtain ⟨y0, y1, y2, y3⟩ := def_cells W8.out
        have CP := Lib.hid (defCopy_any d2 A2 n2 c2 w8 HLn.out (by omega) (HA2.out w8 B8.out HS2.out).s)
        unfold CpyR dV at CP
        go_upto_region 16 with (go_at_call 20; refine CP.out.mono ?_; rintro e w9 ⟨⟨A9, c9, rfl, hc9, ho9⟩, hB9⟩)
        have ba := (Below.refl w9.heap.size w9).alloc (Nat.le_refl _) (.cells #[.string d2.n, .int .i64 d2.r, .int .i64 d2.dl, .slice A9 n2 c9] 24)
        have O10 := Lib.hid (ho9.alloc (.cells #[.string d2.n, .int .i64 d2.r, .int .i64 d2.dl, .slice A9 n2 c9] 24))
        have N10 := Lib.hid (Whole.new w9 24 #[.string d2.n, .int .i64 d2.r, .int .i64 d2.dl, .slice A9 n2 c9])
        have K10 := Lib.hid (hB9.trans (ba.mono hB9.size))
        have HC2 : Hid (w8.heap.size ≤ w9.heap.size ∧ n2 ≤ c9) := Lib.hid ⟨hB9.size, hc9⟩
        clear ba hB9 ho9 hc9 y0 y1 y2 y3 CP
        generalize w9.alloc (.cells #[.string d2.n, .int .i64 d2.r, .int .i64 d2.dl, .slice A9 n2 c9] 24) = w10 at O10 N10 K10 ⊢
        generalize w9.heap.size = C2 at N10 HC2 ⊢
        have B10 := Lib.hid (B8.out.trans (K10.out.mono B8.out.size))
        obtain ⟨y0, y1, y2, y3⟩ := def_cells (W8.out.keep K10.out)
        obtain ⟨v0, v1, v2, v3⟩ := def_cells N10.out
        have D10 := Lib.hid (And.intro (DefAt.of_copy HC2.out.2 (O10.out.mono B8.out.size) HLn.out (by omega) HZ.out) (HA2.out w10 B10.out HS2.out))
        have EQ1 := Lib.hid ((refEqual_any d2 d2 A9 A2 n2 n2 c9 c2 w10 D10.out.1 D10.out.2).mono (R' := fun e w' => e = .returned (.bool true) ∧ Below w10.heap.size w10 w') (fun e w' ⟨⟨q0, he, hq0⟩, hb⟩ => ⟨by rw [he, hq0.2 rfl], hb⟩))
        have EQ2 := Lib.hid (fun (W : World) (hb : Below w10.heap.size w10 W) => (defEqual_any d2 d2 A9 A2 n2 n2 c9 c2 W (D10.out.1.keep hb) (D10.out.2.keep hb)).mono (R' := fun e w' => e = .returned (.bool true) ∧ Below W.heap.size W w') (fun e w' ⟨⟨q0, he, hq0⟩, hb⟩ => ⟨by rw [he, hq0.2 rfl], hb⟩))
        have HWN := Lib.hid (fun (W : World) (hb : Below w10.heap.size w10 W) => And.intro (def_cells ((W8.out.keep K10.out).keep hb)) (def_cells (N10.out.keep hb)))
        unfold dV at EQ1 EQ2
        go_upto_if 123 with (first
          | (go_at_call 18; refine EQ1.out.mono ?_; rintro e w11 ⟨rfl, hb11⟩; have EQ2 := Lib.hid (EQ2.out w11 hb11); obtain ⟨⟨y0, y1, y2, y3⟩, v0, v1, v2, v3⟩ := HWN.out w11 hb11; have K11 := Lib.hid hb11; clear hb11)
          | (go_at_call 17; refine EQ2.out.mono ?_; rintro e w12 ⟨rfl, hb12⟩; have K12 := Lib.hid (K11.out.trans (hb12.mono K11.out.size)); clear hb12))
        have K8 := Lib.hid (K10.out.trans (K12.out.mono K10.out.size))
        have J0 : Hid (w12.ownsRow w8.heap.size 37 2 (.slice A9 n2 c9) n2 (d2.s.flatMap stC) ∧ d2.s.length = n2 ∧ Whole w12 C2 24 #[.string d2.n, .int .i64 d2.r, .int .i64 d2.dl, .slice A9 n2 c9] ∧ Below w8.heap.size w8 w12) := Lib.hid ⟨O10.out.kept (gbelow K12.out) (Classical.em _), HLn.out, N10.out.keep K12.out, K8.out⟩
        clear EQ1 EQ2 HWN D10 B10 O10 N10 K10 K11 K12 K8 y0 y1 y2 y3 v0 v1 v2 v3
        go_wp2_with fail
        go_loopw [16] (fun i wr => ∃ (j : Nat) (L : List Sp), j ≤ n2 ∧ i = .int .i64 j ∧ Hid (wr.ownsRow w8.heap.size 37 2 (.slice A9 n2 c9) n2 (L.flatMap stC) ∧ L.length = n2 ∧ Whole wr C2 24 #[.string d2.n, .int .i64 d2.r, .int .i64 d2.dl, .slice A9 n2 c9] ∧ Below w8.heap.size w8 wr)) (fun i _ => n2 - (intOf i).toNat)
        case atStart => exact ⟨0, d2.s, by omega, rfl, J0⟩
        case round =>
          clear J0
          obtain ⟨j, L, hj, rfl, HJ⟩ := hrel
          obtain ⟨v0, v1, v2, v3⟩ := def_cells HJ.out.2.2.1
          by_cases hjn : j < n2
          · obtain ⟨g9, rfl⟩ : ∃ g9, A9 = some ⟨g9, 0, none⟩ := by
              rcases HJ.out.1.2 with ⟨e, h0⟩ | ⟨g, cap, cur, e, _⟩
              · omega
              · cases e; exact ⟨g, rfl⟩
            obtain ⟨p, hp⟩ : ∃ p, L[j]? = some p := ⟨_, List.getElem?_eq_getElem (by rw [HJ.out.2.1]; exact hjn)⟩
            obtain ⟨g1, o1, e1, z0, z1⟩ := slD_own HJ.out.1 HJ.out.2.1 j p hp
            cases e1
            simp only [Nat.zero_add] at z0 z1
            have f0 := HJ.out.1.frozenAt (j * 2)
            have f1 := HJ.out.1.frozenAt (j * 2 + 1)
            have hj0 : (0 : Int) ≤ (j : Int) := by omega
            have hjn' : (j : Int) < (n2 : Int) := by omega
            have hwj : IntKind.i64.wrap ((j : Int) + 1) = (j : Int) + 1 := IntWalk.i64_in _ (by omega)
            have O1 := own_put HJ.out.1 HJ.out.2.1 hjn ⟨⟨#[33]⟩, 0⟩
            have g2 := put2_grown wr g9 (j * 2) (j * 2 + 1) (.string ⟨#[33]⟩) (.int .i64 0)
            have hgb := (HJ.out.1.lt g9 rfl).1
            have HZ2 := Lib.hid (And.intro O1 (And.intro (show (L.set j ⟨⟨#[33]⟩, 0⟩).length = n2 by rw [List.length_set]; exact HJ.out.2.1) (And.intro (HJ.out.2.2.1.grown g2 (own_ne HJ.out.1 HJ.out.2.2.1 (by decide))) (HJ.out.2.2.2.grown g2 HJ.out.2.2.2.size (fun k e => by cases e; exact hgb)))))
            clear O1 g2 hgb hp
            go_wp2_with fail
            go_roundw
            case rel => exact ⟨j + 1, _, by omega, by go_num, HZ2⟩
            case measure => simp [intOf]; omega
          · obtain rfl : j = n2 := by omega
            have BE := Lib.hid (B8.out.trans (HJ.out.2.2.2.mono B8.out.size))
            have KB := HJ.out.2.2.2
            obtain ⟨y0, y1, y2, y3⟩ := def_cells (W8.out.keep KB)
            obtain ⟨x0, x1, x2, x3⟩ := def_cells (N8.out.keep KB)
            have EQ3 := Lib.hid ((refEqual_any d2 d2 A2 A7 j j c2 c7 wr (HA2.out wr BE.out HS2.out) (D8.out.keep KB)).mono (R' := fun e w' => e = .returned (.bool true) ∧ Below wr.heap.size wr w') (fun e w' ⟨⟨q0, he, hq0⟩, hb⟩ => ⟨by rw [he, hq0.2 rfl], hb⟩))
            unfold dV at EQ3
            clear KB HJ v0 v1 v2
            go_wp2_with (first
              | (go_at_call 18; refine EQ3.out.mono ?_; rintro e w13 ⟨rfl, hb13⟩; have B13 := Lib.hid (BE.out.trans (hb13.mono BE.out.size)); have WF := Lib.hid (WK.out w13 B13.out); clear hb13)
              | (go_at_call 12; refine WF.out.mono ?_; rintro e w14 ⟨rfl, hb14⟩))
            go_ret
            exact ⟨rfl, B13.out.trans (hb14.mono B13.out.size)⟩
end Go.Proofs.YtgeljnjcpkmlmaaGreatDoor
