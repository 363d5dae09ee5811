/- DefnWrites returns true at every definition. Conditions: as the statement's own. -/
import Derived.Test.YtgeljnjcpkmlmaaGreatDoorDfV
import Derived.Test.YtgeljnjcpkmlmaaGreatDoorDfWrk
import Derived.Test.YtgeljnjcpkmlmaaGreatDoorDfShort
namespace Go.Proofs.YtgeljnjcpkmlmaaGreatDoor
open Go.RowKit Go.Shelf

theorem wrKeep {w wc w2 : World} {B C : Nat} {x y z u u' : Value} {A4 A5 A A3 : Option Addr} {n4 c4 n5 c5 n c c3 : Nat} {l : List UInt8} {d : Dv}
    (h : wc.cell? ⟨B, 0, none⟩ = some x ∧ wc.cell? ⟨B, 1, none⟩ = some y ∧ wc.cell? ⟨B, 2, none⟩ = some z ∧ wc.cell? ⟨B, 3, none⟩ = some u ∧ wc.cell? ⟨C, 0, none⟩ = some x ∧ wc.cell? ⟨C, 1, none⟩ = some y ∧ wc.cell? ⟨C, 2, none⟩ = some z ∧ wc.cell? ⟨C, 3, none⟩ = some u'
      ∧ (convert 38 9 (.slice A4 n4 c4)).run Tryz.prog wc = .ok (.string ⟨l.toArray⟩) wc ∧ (convert 38 9 (.slice A5 n5 c5)).run Tryz.prog wc = .ok (.string ⟨l.toArray⟩) wc
      ∧ (SlB wc A4 n4 l ∧ SlB wc A5 n5 l ∧ DefAt wc A n c d ∧ DefAt wc A3 n c3 d) ∧ Below w.heap.size w wc) (hb : Below wc.heap.size wc w2) :
    w2.cell? ⟨B, 0, none⟩ = some x ∧ w2.cell? ⟨B, 1, none⟩ = some y ∧ w2.cell? ⟨B, 2, none⟩ = some z ∧ w2.cell? ⟨B, 3, none⟩ = some u ∧ w2.cell? ⟨C, 0, none⟩ = some x ∧ w2.cell? ⟨C, 1, none⟩ = some y ∧ w2.cell? ⟨C, 2, none⟩ = some z ∧ w2.cell? ⟨C, 3, none⟩ = some u'
      ∧ (convert 38 9 (.slice A4 n4 c4)).run Tryz.prog w2 = .ok (.string ⟨l.toArray⟩) w2 ∧ (convert 38 9 (.slice A5 n5 c5)).run Tryz.prog w2 = .ok (.string ⟨l.toArray⟩) w2
      ∧ (SlB w2 A4 n4 l ∧ SlB w2 A5 n5 l ∧ DefAt w2 A n c d ∧ DefAt w2 A3 n c3 d) ∧ Below w.heap.size w w2 := by
  obtain ⟨h0, h1, h2, h3, h4, h5, h6, h7, _, _, ⟨s4, s5, d1, d2⟩, hB⟩ := h
  exact ⟨bcell h0 hb, bcell h1 hb, bcell h2 hb, bcell h3 hb, bcell h4 hb, bcell h5 hb, bcell h6 hb, bcell h7 hb, conv_bytes (s4.keep hb) c4, conv_bytes (s5.keep hb) c5, ⟨s4.keep hb, s5.keep hb, d1.keep hb, d2.keep hb⟩, hB.trans (hb.mono hB.size)⟩
set_option maxRecDepth 100000 in
set_option maxHeartbeats 4000000 in
theorem defnWrites_any (d : Dv) (A : Option Addr) (n c : Nat) (w : World) (hl : d.s.length = n) (hnc : n ≤ c) (hn : n ≤ 9223372036854775807) (hz : DefZ d) (hs : SlD w A d.s) (hE : DfE w) :
    Calls Tryz.prog 4 #[dV d A n c] w fun e w' => e = .returned (.bool true) ∧ Below w.heap.size w w' := by
  have b1 := (Below.refl w.heap.size w).alloc (Nat.le_refl _) (.cells #[.string d.n, .int .i64 d.r, .int .i64 d.dl, .slice A n c] 24)
  have SH := Lib.hid (short_any d A n c _ hl hn hz (hs.keep b1))
  have HW0 := Lib.hid (Whole.new w 24 #[.string d.n, .int .i64 d.r, .int .i64 d.dl, .slice A n c])
  have HB := Lib.hid b1
  have HE := Lib.hid hE
  have HA := Lib.hid (fun (W : World) (hb : Below w.heap.size w W) (hS : ShortD d) => (show DefAt W A n c d from ⟨hl, hnc, by have := hS.1; omega, hz, hs.keep hb⟩))
  have WK := Lib.hid (fun (W : World) (hb : Below w.heap.size w W) => works_any W (hE.keep hb))
  have HLn := Lib.hid hl
  have HZ := Lib.hid hz
  unfold dV at SH
  clear b1 hE hz hs hnc hn hl
  unfold dV
  go_enter Tryz.func4, Tryz.ntmps4
  go_upto_if 14 with (first
    | (go_at_call 11; refine SH.out.mono ?_; rintro e w1 ⟨⟨b, rfl, hb⟩, hB⟩; have B1 := Lib.hid (HB.out.trans (hB.mono HB.out.size)); have W1 := Lib.hid (HW0.out.keep hB); have HSh := Lib.hid hb; clear hb hB; cases b))
  · have W1f := Lib.hid (WK.out w1 B1.out)
    go_wp2_with (go_at_call 12; refine W1f.out.mono ?_; rintro e w2 ⟨rfl, hB2⟩)
    go_ret
    exact ⟨rfl, B1.out.trans (hB2.mono B1.out.size)⟩
  have HS := Lib.hid (HSh.out trivial)
  have hn20 : n ≤ 20 := by have := HS.out.1; rw [HLn.out] at this; exact this
  have HD1 := Lib.hid (HA.out w1 B1.out HS.out)
  have CP := Lib.hid (refCopy_any d A n c w1 HLn.out (by omega) HD1.out.s)
  unfold CpyR dV at CP
  obtain ⟨x0, x1, x2, x3⟩ := def_cells W1.out
  clear HSh SH HW0 HB
  go_upto_region 4 with (go_at_call 19; refine CP.out.mono ?_; rintro e w2 ⟨⟨A2, c2, rfl, hc2, ho2⟩, hB2⟩)
  have D2a := DefAt.of_copy hc2 ho2 HLn.out (by omega) HZ.out
  have ba := (Below.refl w2.heap.size w2).alloc (Nat.le_refl _) (.cells #[.string d.n, .int .i64 d.r, .int .i64 d.dl, .slice A2 n c2] 24)
  have N2 := Lib.hid (Whole.new w2 24 #[.string d.n, .int .i64 d.r, .int .i64 d.dl, .slice A2 n c2])
  have W2 := Lib.hid ((W1.out.keep hB2).keep ba)
  have B2 := Lib.hid ((B1.out.trans (hB2.mono B1.out.size)).trans (ba.mono (by have := B1.out.size; have := hB2.size; omega)))
  have D2 := Lib.hid (D2a.keep ba)
  clear D2a ba hB2 ho2 hc2 x0 x1 x2 x3 W1 B1 HD1 CP
  generalize w2.alloc (.cells #[.string d.n, .int .i64 d.r, .int .i64 d.dl, .slice A2 n c2] 24) = w3 at N2 W2 B2 D2 ⊢
  generalize w2.heap.size = C at N2 ⊢
  have E1 := Lib.hid ((defEncode_any d A n c w3 (HA.out w3 B2.out HS.out)).mono (fun e w' ⟨h, hb⟩ => And.intro h.val hb))
  unfold dV at E1
  obtain ⟨x0, x1, x2, x3⟩ := def_cells W2.out
  go_upto_region 5 with (go_at_call 21; refine E1.out.mono ?_; rintro e w4 ⟨⟨A4, n4, c4, rfl, hs4, _⟩, hB4⟩)
  have B4 := Lib.hid (B2.out.trans (hB4.mono B2.out.size))
  have E2 := Lib.hid ((refDefEncode_any d A n c w4 (HA.out w4 B4.out HS.out)).mono (fun e w' ⟨h, hb⟩ => And.intro h.val hb))
  unfold dV at E2
  have W4 := Lib.hid (W2.out.keep hB4)
  have N4 := Lib.hid (N2.out.keep hB4)
  have D4 := Lib.hid (D2.out.keep hB4)
  have S4 := Lib.hid hs4
  clear x0 x1 x2 x3 hB4 W2 N2 D2 B2 E1 hs4
  obtain ⟨x0, x1, x2, x3⟩ := def_cells W4.out
  go_upto_region 6 with (go_at_call 22; refine E2.out.mono ?_; rintro e w5 ⟨⟨A5, n5, c5, rfl, hs5, _⟩, hB5⟩)
  have B5 := Lib.hid (B4.out.trans (hB5.mono B4.out.size))
  have T1 := Lib.hid ((defText_any d A n c w5 (HA.out w5 B5.out HS.out) (HE.out.keep B5.out)).mono (fun e w' ⟨h, hb⟩ => And.intro h.val hb))
  unfold dV at T1
  have W5 := Lib.hid (W4.out.keep hB5)
  have N5 := Lib.hid (N4.out.keep hB5)
  have D5 := Lib.hid (D4.out.keep hB5)
  have S5 := Lib.hid (And.intro (S4.out.keep hB5) hs5)
  clear x0 x1 x2 x3 hB5 W4 N4 D4 B4 E2 hs5 S4
  obtain ⟨x0, x1, x2, x3⟩ := def_cells W5.out
  go_upto_region 7 with (go_at_call 23; refine T1.out.mono ?_; rintro e w6 ⟨rfl, hB6⟩)
  have B6 := Lib.hid (B5.out.trans (hB6.mono B5.out.size))
  have T2 := Lib.hid ((refDefText_any d A n c w6 (HA.out w6 B6.out HS.out)).mono (fun e w' ⟨h, hb⟩ => And.intro h.val hb))
  unfold dV at T2
  have W6 := Lib.hid (W5.out.keep hB6)
  have N6 := Lib.hid (N5.out.keep hB6)
  have D6 := Lib.hid (D5.out.keep hB6)
  have S6 := Lib.hid (And.intro (S5.out.1.keep hB6) (S5.out.2.keep hB6))
  clear x0 x1 x2 x3 hB6 W5 N5 D5 B5 T1 S5
  obtain ⟨x0, x1, x2, x3⟩ := def_cells W6.out
  generalize hq : ckD d = q at T2
  have HQ := Lib.hid hq
  clear hq
  go_upto_region 8 with (go_at_call 24; refine T2.out.mono ?_; rintro e w7 ⟨rfl, hB7⟩)
  have B7 := Lib.hid (B6.out.trans (hB7.mono B6.out.size))
  obtain ⟨y0, y1, y2, y3⟩ := def_cells (W6.out.keep hB7)
  obtain ⟨z0, z1, z2, z3⟩ := def_cells (N6.out.keep hB7)
  have SA : Hid (w7.drew.cell? ⟨w.heap.size, 0, none⟩ = some (.string d.n) ∧ w7.drew.cell? ⟨w.heap.size, 1, none⟩ = some (.int .i64 d.r) ∧ w7.drew.cell? ⟨w.heap.size, 2, none⟩ = some (.int .i64 d.dl) ∧ w7.drew.cell? ⟨w.heap.size, 3, none⟩ = some (.slice A n c)
      ∧ w7.drew.cell? ⟨C, 0, none⟩ = some (.string d.n) ∧ w7.drew.cell? ⟨C, 1, none⟩ = some (.int .i64 d.r) ∧ w7.drew.cell? ⟨C, 2, none⟩ = some (.int .i64 d.dl) ∧ w7.drew.cell? ⟨C, 3, none⟩ = some (.slice A2 n c2)
      ∧ (convert 38 9 (.slice A4 n4 c4)).run Tryz.prog w7.drew = .ok (.string ⟨(encL d).toArray⟩) w7.drew ∧ (convert 38 9 (.slice A5 n5 c5)).run Tryz.prog w7.drew = .ok (.string ⟨(encL d).toArray⟩) w7.drew
      ∧ (SlB w7.drew A4 n4 (encL d) ∧ SlB w7.drew A5 n5 (encL d) ∧ DefAt w7.drew A n c d ∧ DefAt w7.drew A2 n c2 d) ∧ Below w.heap.size w w7.drew) := by
    have hbd := hB7.drew
    exact Lib.hid ⟨y0, y1, y2, y3, z0, z1, z2, z3, conv_bytes (S6.out.1.keep hbd) c4, conv_bytes (S6.out.2.keep hbd) c5, ⟨S6.out.1.keep hbd, S6.out.2.keep hbd, HA.out _ B7.out.drew HS.out, D6.out.keep hbd⟩, B7.out.drew⟩
  have KC := Lib.hid (fun (W : World) (h : DefAt W A n c d) => defCheck_any d A n c W h)
  have KR := Lib.hid (fun (W : World) (h : DefAt W A n c d) => refDefCheck_any d A n c W h)
  have KE := Lib.hid (fun (W : World) (h : DefAt W A n c d) (h' : DefAt W A2 n c2 d) => refEqual_any d d A A2 n n c c2 W h h')
  rw [HQ.out] at KC KR
  unfold dV at KC KR KE
  clear x0 x1 x2 x3 y0 y1 y2 y3 z0 z1 z2 z3 hB7 W6 N6 D6 B6 T2 S6 B7
  generalize (⟨(txtL d).toArray⟩ : ByteArray) = tx
  generalize encL d = le at SA ⊢
  go_wp2_with fail
  go_region_held3 (fun wx => wx.cell? ⟨w.heap.size, 0, none⟩ = some (.string d.n) ∧ wx.cell? ⟨w.heap.size, 1, none⟩ = some (.int .i64 d.r) ∧ wx.cell? ⟨w.heap.size, 2, none⟩ = some (.int .i64 d.dl) ∧ wx.cell? ⟨w.heap.size, 3, none⟩ = some (.slice A n c)
      ∧ wx.cell? ⟨C, 0, none⟩ = some (.string d.n) ∧ wx.cell? ⟨C, 1, none⟩ = some (.int .i64 d.r) ∧ wx.cell? ⟨C, 2, none⟩ = some (.int .i64 d.dl) ∧ wx.cell? ⟨C, 3, none⟩ = some (.slice A2 n c2)
      ∧ (convert 38 9 (.slice A4 n4 c4)).run Tryz.prog wx = .ok (.string ⟨le.toArray⟩) wx ∧ (convert 38 9 (.slice A5 n5 c5)).run Tryz.prog wx = .ok (.string ⟨le.toArray⟩) wx
      ∧ (SlB wx A4 n4 le ∧ SlB wx A5 n5 le ∧ DefAt wx A n c d ∧ DefAt wx A2 n c2 d) ∧ Below w.heap.size w wx)
    (first | exact SA.out | assumption | exact SB.out | exact SC.out | exact SD.out | exact SE.out)
    (first
      | (go_at_call 25; go_fit (KC.out _ SA.out.2.2.2.2.2.2.2.2.2.2.1.2.2.1); rintro e w8 ⟨rfl, hb8⟩; have SB := Lib.hid (wrKeep SA.out hb8); clear hb8)
      | (go_at_call 26; go_fit (KR.out _ SB.out.2.2.2.2.2.2.2.2.2.2.1.2.2.1); rintro e w9 ⟨rfl, hb9⟩; have SC := Lib.hid (wrKeep SB.out hb9); clear hb9)
      | (go_at_call 18; go_fit (KE.out _ SC.out.2.2.2.2.2.2.2.2.2.2.1.2.2.1 SC.out.2.2.2.2.2.2.2.2.2.2.1.2.2.2); rintro e w10 ⟨⟨q0, rfl, hq0⟩, hb10⟩; obtain rfl : q0 = true := hq0.2 (by first | rfl | trivial); have SD := Lib.hid (wrKeep SC.out hb10); clear hb10 hq0)
      | (go_at_call 12; go_fit (WK.out _ SD.out.2.2.2.2.2.2.2.2.2.2.2); rintro e w11 ⟨rfl, hb11⟩; have SE := Lib.hid (wrKeep SD.out hb11); clear hb11))
  have HZ := Lib.hid SE.out.2.2.2.2.2.2.2.2.2.2.2
  clear SA SB SC SD SE
  go_wp2_with fail
  go_ret
  exact ⟨rfl, HZ.out⟩
end Go.Proofs.YtgeljnjcpkmlmaaGreatDoor
