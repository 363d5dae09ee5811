/- DefnBack returns true at every definition, all bytes and every text. Conditions: as the statement's own. -/
import Derived.Test.YtgeljnjcpkmlmaaGreatDoorDfDec
import Derived.Test.YtgeljnjcpkmlmaaGreatDoorDfWrk
import Derived.Test.YtgeljnjcpkmlmaaGreatDoorDfShort
namespace Go.Proofs.YtgeljnjcpkmlmaaGreatDoor
open Go.RowKit Go.Shelf

theorem par_code {d : Dv} {l : List UInt8} {e : Int} (h : ParR l d e) : (e = 0 ∧ defOk d ∧ textD d = l) ∨ (e = 10 ∧ d = zeroD) := by
  rcases h with ⟨h, h1, h2⟩ | ⟨h, h1, _⟩
  · exact Or.inl ⟨h, h1, h2⟩
  · exact Or.inr ⟨h, h1⟩
theorem dec_code2 {d : Dv} {l : List UInt8} {e : Int} (h : DecR l d e) : (e = 0 ∧ defOk d ∧ bytesD d = l) ∨ (e = 10 ∧ d = zeroD) := by
  rcases h with ⟨h, h1, h2⟩ | ⟨h, h1, _⟩
  · exact Or.inl ⟨h, h1, h2⟩
  · exact Or.inr ⟨h, h1⟩
/-- Equal at the same definition, whatever memory holds it. -/
theorem equal_same (d : Dv) (A A' : Option Addr) (n n' c c' : Nat) (w : World) (h : DefAt w A n c d) (h' : DefAt w A' n' c' d) :
    Calls Tryz.prog 17 #[dV d A n c, dV d A' n' c'] w fun e w' => e = .returned (.bool true) ∧ Below w.heap.size w w' :=
  (defEqual_any d d A A' n n' c c' w h h').mono (fun e w' ⟨⟨q0, he, hq0⟩, hb⟩ => ⟨by rw [he, hq0.2 rfl], hb⟩)
set_option maxRecDepth 100000 in
set_option maxHeartbeats 4000000 in
theorem defnBack_any (d : Dv) (A : Option Addr) (n c : Nat) (Ab : Option Addr) (nb cb : Nat) (l : List UInt8) (s : ByteArray) (w : World) (hl : d.s.length = n) (hnc : n ≤ c) (hn : n ≤ 9223372036854775807) (hz : DefZ d) (hs : SlD w A d.s) (hE : DfE w) (hb : SlB w Ab nb l) (hnb : nb ≤ 9223372036854775807) (hsz : s.size ≤ 9223372036854775807) :
    Calls Tryz.prog 7 #[dV d A n c, .slice Ab nb cb, .string s] w fun e w' => e = .returned (.bool true) ∧ Below w.heap.size w w' := by
  have b1 := (Below.refl w.heap.size w).alloc (Nat.le_refl _) (.cells #[.string d.n, .int .i64 d.r, .int .i64 d.dl, .slice A n c] 24)
  have SH := Lib.hid (short_any d A n c _ hl hn hz (hs.keep b1))
  have HW0 := Lib.hid (Whole.new w 24 #[.string d.n, .int .i64 d.r, .int .i64 d.dl, .slice A n c])
  have HB := Lib.hid b1
  have HE := Lib.hid hE
  have HA := Lib.hid (fun (W : World) (hb : Below w.heap.size w W) (hS : ShortD d) => (show DefAt W A n c d from ⟨hl, hnc, by have := hS.1; omega, hz, hs.keep hb⟩))
  have WK := Lib.hid (fun (W : World) (hb : Below w.heap.size w W) => works_any W (hE.keep hb))
  have HSB := Lib.hid (fun (W : World) (h0 : Below w.heap.size w W) => hb.keep h0)
  unfold dV at SH
  clear b1 hE hz hs hnc hn hl hb
  unfold dV
  go_enter Tryz.func7, Tryz.ntmps7
  go_upto_if 34 with (first
    | (go_at_call 11; refine SH.out.mono ?_; rintro e w1 ⟨⟨b, rfl, hb⟩, hB⟩; have B1 := Lib.hid (HB.out.trans (hB.mono HB.out.size)); have W1 := Lib.hid (HW0.out.keep hB); have HSh := Lib.hid hb; clear hb hB SH HB HW0; cases b; rotate_left; (by_cases h1 : (300 : Int) < (nb : Int); rotate_left; (by_cases h2 : (300 : Int) < (s.size : Int)))))
  all_goals first
    | (have W1f := Lib.hid (WK.out w1 B1.out)
       go_wp2_with (go_at_call 12; refine W1f.out.mono ?_; rintro e w2 ⟨rfl, hB2⟩)
       go_ret
       exact ⟨rfl, B1.out.trans (hB2.mono B1.out.size)⟩)
    | skip
  have HS := Lib.hid (HSh.out trivial)
  have HN3 : Hid (nb ≤ 300 ∧ s.size ≤ 300) := Lib.hid ⟨by omega, by omega⟩
  obtain ⟨q, hq⟩ : ∃ q, q = ckD d := ⟨_, rfl⟩
  have EN := Lib.hid ((defEncode_any d A n c w1 (HA.out w1 B1.out HS.out)).mono (fun e w' ⟨h, hb⟩ => And.intro h.val hb))
  have TX := Lib.hid (fun (W : World) (hb : Below w.heap.size w W) => (defText_any d A n c W (HA.out W hb HS.out) (HE.out.keep hb)).mono (fun e w' ⟨h, hb⟩ => And.intro h.val hb))
  have CK := Lib.hid (fun (W : World) (hb : Below w.heap.size w W) => defCheck_any d A n c W (HA.out W hb HS.out))
  rw [← hq] at EN TX CK
  unfold dV at EN TX CK
  obtain ⟨tx, htx⟩ : ∃ tx : ByteArray, tx = ⟨(txtL d).toArray⟩ := ⟨_, rfl⟩
  rw [← htx] at TX
  have HTX := Lib.hid htx
  have HQ := Lib.hid hq
  obtain ⟨g, hg⟩ : ∃ g : Bool, (q == 0) = g := ⟨_, rfl⟩
  have HG : Hid (g = true ↔ defOk d) := Lib.hid (by
    rw [← hg, hq, beq_iff_eq]
    constructor
    · intro h
      by_cases hok : defOk d
      · exact hok
      · rw [ckD_no hok] at h; cases h
    · intro h; exact ckD_yes h)
  have hqq : (q != q) = false := by simp
  have hgN : (q != 0) = !g := by rw [← hg]; rfl
  obtain ⟨y0, y1, y2, y3⟩ := def_cells W1.out
  clear htx hq HSh
  go_upto_region 4 with (go_at_call 21; refine EN.out.mono ?_; rintro e w3 ⟨⟨A3, n3, c3, rfl, hs3, hc3⟩, hB⟩; have B3 := Lib.hid (B1.out.trans (hB.mono B1.out.size)); have W3 := Lib.hid (W1.out.keep hB); have S3 := Lib.hid (And.intro hs3 hc3); clear hB hs3 hc3 y0 y1 y2 y3)
  obtain ⟨y0, y1, y2, y3⟩ := def_cells W3.out
  have TX := Lib.hid (TX.out w3 B3.out)
  go_upto_region 5 with (go_at_call 23; refine TX.out.mono ?_; rintro e w4 ⟨rfl, hB⟩; have B4 := Lib.hid (B3.out.trans (hB.mono B3.out.size)); have W4 := Lib.hid (W3.out.keep hB); have S4 := Lib.hid (And.intro (S3.out.1.keep hB) S3.out.2); clear hB y0 y1 y2 y3)
  obtain ⟨y0, y1, y2, y3⟩ := def_cells W4.out
  have CK := Lib.hid (CK.out w4 B4.out)
  go_upto_if 54 with (go_at_call 25; refine CK.out.mono ?_; rintro e w5 ⟨rfl, hB⟩; have B5 := Lib.hid (B4.out.trans (hB.mono B4.out.size)); have W5 := Lib.hid (W4.out.keep hB); have S5 := Lib.hid (And.intro (S4.out.1.keep hB) S4.out.2); clear hB y0 y1 y2 y3)
  clear EN TX CK W1 W3 W4 S3 S4 B3 B4
  go_upto_if 56 with fail
  go_cut [] from 96 (fun wx => Hid (Below w.heap.size w wx))
  case first =>
    clear hgN hqq
    cases g with
    | true =>
      have hok : defOk d := HG.out.1 rfl
      have hq0 : q = 0 := by rw [HQ.out, ckD_yes hok]
      subst hq0
      have hen := encL_yes hok
      rw [hen] at S5
      have htl : tx.data.toList = textD d := by rw [HTX.out, txtL_yes hok]
      have hle : (bytesD d).length ≤ 65536 := by
        have h1 := bysD_len hok d.s.length
        rw [bysD_all] at h1
        omega
      have hn3 := S5.out.1.1
      have htz : tx.size ≤ 451 := by rw [Lib.size_eq, htl]; exact textD_le hok
      have DC := Lib.hid ((decode_any A3 n3 c3 (bytesD d) w5 S5.out.1 (by omega)).mono (R' := fun e w' => (∃ A9 n9 c9, e = .returned (.tuple #[.agg #[.string d.n, .int .i64 d.r, .int .i64 d.dl, .slice A9 n9 c9], .int .i64 0]) ∧ DefAt w' A9 n9 c9 d) ∧ Below w5.heap.size w5 w') (fun e w' ⟨⟨d9, A9, n9, c9, er, he, hr, hd⟩, hb⟩ => by
        obtain ⟨rfl, rfl⟩ := hr.same (Or.inl ⟨rfl, hok, rfl⟩)
        exact ⟨⟨A9, n9, c9, he, hd⟩, hb⟩))
      have PS := Lib.hid (fun (W : World) (hb : Below w.heap.size w W) => (defParse_any tx W (by omega) (HE.out.keep hb)).mono (R' := fun e w' => (∃ A9 n9 c9, e = .returned (.tuple #[.agg #[.string d.n, .int .i64 d.r, .int .i64 d.dl, .slice A9 n9 c9], .int .i64 0]) ∧ DefAt w' A9 n9 c9 d) ∧ Below W.heap.size W w') (fun e w' ⟨⟨d9, A9, n9, c9, er, he, hr, hd⟩, hb⟩ => by
        rw [htl] at hr
        obtain ⟨rfl, rfl⟩ := hr.same (Or.inl ⟨rfl, hok, rfl⟩)
        exact ⟨⟨A9, n9, c9, he, hd⟩, hb⟩))
      clear hok hen htl hle hn3 htz
      go_upto_region 9 with (go_at_call 28; go_fit DC.out; rintro e w6 ⟨⟨A9, n9, c9, rfl, hd⟩, hB⟩)
      have ba := (Below.refl w6.heap.size w6).alloc (Nat.le_refl _) (.cells #[.string d.n, .int .i64 d.r, .int .i64 d.dl, .slice A9 n9 c9] 24)
      have N7 := Lib.hid (Whole.new w6 24 #[.string d.n, .int .i64 d.r, .int .i64 d.dl, .slice A9 n9 c9])
      have D7 := Lib.hid (hd.keep ba)
      have W7 := Lib.hid ((W5.out.keep hB).keep ba)
      have B7a := B5.out.trans (hB.mono B5.out.size)
      have B7 := Lib.hid (B7a.alloc B7a.size (.cells #[.string d.n, .int .i64 d.r, .int .i64 d.dl, .slice A9 n9 c9] 24))
      clear ba hd hB B7a DC W5 S5 B5
      generalize w6.alloc (.cells #[.string d.n, .int .i64 d.r, .int .i64 d.dl, .slice A9 n9 c9] 24) = w7 at N7 D7 W7 B7 ⊢
      generalize w6.heap.size = C1 at N7 ⊢
      have PS := Lib.hid (PS.out w7 B7.out)
      go_upto_region 10 with (go_at_call 27; go_fit PS.out; rintro e w8 ⟨⟨A8, n8, c8, rfl, hd⟩, hB⟩)
      have ba := (Below.refl w8.heap.size w8).alloc (Nat.le_refl _) (.cells #[.string d.n, .int .i64 d.r, .int .i64 d.dl, .slice A8 n8 c8] 24)
      have M9 := Lib.hid (Whole.new w8 24 #[.string d.n, .int .i64 d.r, .int .i64 d.dl, .slice A8 n8 c8])
      have D9 := Lib.hid (And.intro ((D7.out.keep hB).keep ba) (hd.keep ba))
      have N9 := Lib.hid ((N7.out.keep hB).keep ba)
      have W9 := Lib.hid ((W7.out.keep hB).keep ba)
      have B9a := B7.out.trans (hB.mono B7.out.size)
      have B9 := Lib.hid (B9a.alloc B9a.size (.cells #[.string d.n, .int .i64 d.r, .int .i64 d.dl, .slice A8 n8 c8] 24))
      clear ba hd hB B9a PS W7 N7 D7 B7
      generalize w8.alloc (.cells #[.string d.n, .int .i64 d.r, .int .i64 d.dl, .slice A8 n8 c8] 24) = w9 at M9 D9 N9 W9 B9 ⊢
      generalize w8.heap.size = C2 at M9 ⊢
      have E1 := Lib.hid (equal_same d A9 A n9 n c9 c w9 D9.out.1 (HA.out w9 B9.out HS.out))
      have E2 := Lib.hid (fun (W : World) (hb : Below w9.heap.size w9 W) => equal_same d A8 A n8 n c8 c W (D9.out.2.keep hb) ((HA.out w9 B9.out HS.out).keep hb))
      unfold dV at E1 E2
      obtain ⟨y0, y1, y2, y3⟩ := def_cells W9.out
      obtain ⟨x0, x1, x2, x3⟩ := def_cells N9.out
      have HWM := Lib.hid (fun (W : World) (hb : Below w9.heap.size w9 W) => And.intro (def_cells (W9.out.keep hb)) (def_cells (M9.out.keep hb)))
      go_wp2_with (first
        | (go_at_call 17; go_fit E1.out; rintro e w10 ⟨rfl, hb⟩; have E2 := Lib.hid (E2.out w10 hb); obtain ⟨⟨y0, y1, y2, y3⟩, z0, z1, z2, z3⟩ := HWM.out w10 hb; have B10 := Lib.hid (B9.out.trans (hb.mono B9.out.size)); clear hb E1)
        | (go_at_call 17; go_fit E2.out; rintro e w11 ⟨rfl, hb⟩; have B11 := Lib.hid (B10.out.trans (hb.mono B10.out.size)); clear hb))
      go_meet
      case rel => exact B11
    | false =>
      have hok : ¬ defOk d := fun h => by have := HG.out.2 h; cases this
      have hq0 : q = 15 := by rw [HQ.out, ckD_no hok]
      subst hq0
      have hen := encL_no hok
      rw [hen] at S5
      have hn3 : n3 = 0 := S5.out.1.1.symm
      subst hn3
      have htl : tx = ⟨#[]⟩ := by rw [HTX.out, txtL_no hok]
      subst htl
      clear hok hen HTX HQ
      go_wp2_with fail
      go_meet
      case rel => exact B5
  case rest =>
    have DC := Lib.hid (decode_any Ab nb cb l wc (HSB.out wc hcut.out) (by have := HN3.out; omega))
    unfold DecodeR dV at DC
    clear hgN hqq hg HG HQ HTX
    go_upto_region 15 with (go_at_call 28; go_fit DC.out; rintro e w6 ⟨⟨d6, A6, n6, c6, er, rfl, hr, hd⟩, hB⟩)
    have ba := (Below.refl w6.heap.size w6).alloc (Nat.le_refl _) (.cells #[.string d6.n, .int .i64 d6.r, .int .i64 d6.dl, .slice A6 n6 c6] 24)
    have N7 := Lib.hid (Whole.new w6 24 #[.string d6.n, .int .i64 d6.r, .int .i64 d6.dl, .slice A6 n6 c6])
    have D7 := Lib.hid (hd.keep ba)
    have B7a := hcut.out.trans (hB.mono hcut.out.size)
    have B7 := Lib.hid (B7a.alloc B7a.size (.cells #[.string d6.n, .int .i64 d6.r, .int .i64 d6.dl, .slice A6 n6 c6] 24))
    have HR := Lib.hid hr
    clear ba hd hB B7a DC hr
    generalize w6.alloc (.cells #[.string d6.n, .int .i64 d6.r, .int .i64 d6.dl, .slice A6 n6 c6] 24) = w7 at N7 D7 B7 ⊢
    generalize w6.heap.size = C1 at N7 ⊢
    obtain ⟨g2, hg2⟩ : ∃ g2 : Bool, (er == 0) = g2 := ⟨_, rfl⟩
    obtain ⟨x0, x1, x2, x3⟩ := def_cells N7.out
    go_upto_if 102 with fail
    go_cut [] from 125 (fun wx => Hid (Below w.heap.size w wx))
    case first =>
      rcases dec_code2 HR.out with ⟨rfl, hok, hby⟩ | ⟨rfl, rfl⟩
      · obtain rfl : true = g2 := hg2
        have EN := Lib.hid ((defEncode_any d6 A6 n6 c6 w7 D7.out).mono (R' := fun e w' => (∃ A9 n9 c9, e = .returned (.tuple #[.slice A9 n9 c9, .int .i64 0]) ∧ SlB w' A9 n9 l) ∧ Below w7.heap.size w7 w') (fun e w' ⟨h, hb⟩ => by
          obtain ⟨A9, n9, c9, h1, h2, _⟩ := h.val
          rw [ckD_yes hok] at h1
          rw [encL_yes hok, hby] at h2
          exact ⟨⟨A9, n9, c9, h1, h2⟩, hb⟩))
        unfold dV at EN
        clear hok hby HR
        go_upto_region 17 with (go_at_call 21; refine EN.out.mono ?_; rintro e w8 ⟨⟨A8, n8, c8, rfl, hs8⟩, hB⟩)
        have B8 := Lib.hid (B7.out.trans (hB.mono B7.out.size))
        have hcv1 := conv_bytes hs8 c8
        have hcv2 := conv_bytes (HSB.out w8 B8.out) cb
        clear hs8 hB EN x0 x1 x2 x3
        go_wp2_with fail
        go_meet
        case rel => exact B8
      · obtain rfl : false = g2 := hg2
        have E1 := Lib.hid (equal_same zeroD A6 none n6 0 c6 0 w7 D7.out (defAt_zero w7))
        unfold dV zeroD at E1
        clear HR
        unfold zeroD at x0 x1 x2
        go_wp2_with (go_at_call 17; go_fit E1.out; rintro e w8 ⟨rfl, hb⟩; have B8 := Lib.hid (B7.out.trans (hb.mono B7.out.size)); clear hb)
        go_meet
        case rel => exact B8
    case rest =>
      have PS := Lib.hid (defParse_any s wc (by have := HN3.out; omega) (HE.out.keep hcut.out))
      unfold ParseR dV at PS
      clear x0 x1 x2 x3 hg2
      go_upto_region 22 with (go_at_call 27; go_fit PS.out; rintro e w8 ⟨⟨d8, A8, n8, c8, er8, rfl, hr, hd⟩, hB⟩)
      have ba := (Below.refl w8.heap.size w8).alloc (Nat.le_refl _) (.cells #[.string d8.n, .int .i64 d8.r, .int .i64 d8.dl, .slice A8 n8 c8] 24)
      have N9 := Lib.hid (Whole.new w8 24 #[.string d8.n, .int .i64 d8.r, .int .i64 d8.dl, .slice A8 n8 c8])
      have D9 := Lib.hid (hd.keep ba)
      have B9a := hcut.out.trans (hB.mono hcut.out.size)
      have B9 := Lib.hid (B9a.alloc B9a.size (.cells #[.string d8.n, .int .i64 d8.r, .int .i64 d8.dl, .slice A8 n8 c8] 24))
      clear ba hd hB B9a PS
      generalize w8.alloc (.cells #[.string d8.n, .int .i64 d8.r, .int .i64 d8.dl, .slice A8 n8 c8] 24) = w9 at N9 D9 B9 ⊢
      generalize w8.heap.size = C2 at N9 ⊢
      obtain ⟨x0, x1, x2, x3⟩ := def_cells N9.out
      rcases par_code hr with ⟨rfl, hok, hte⟩ | ⟨rfl, rfl⟩
      · have TX := Lib.hid ((defText_any d8 A8 n8 c8 w9 D9.out (HE.out.keep B9.out)).mono (R' := fun e w' => e = .returned (.tuple #[.string s, .int .i64 0]) ∧ Below w9.heap.size w9 w') (fun e w' ⟨h, hb⟩ => by
          have h1 := h.val
          rw [ckD_yes hok, txtL_yes hok, hte, ba_eta] at h1
          exact ⟨h1, hb⟩))
        unfold dV at TX
        clear hok hte hr
        go_wp2_with (first
          | (go_at_call 23; refine TX.out.mono ?_; rintro e w10 ⟨rfl, hb⟩; have B10 := Lib.hid (B9.out.trans (hb.mono B9.out.size)); have WF := Lib.hid (WK.out w10 B10.out); clear hb)
          | (go_at_call 12; refine WF.out.mono ?_; rintro e w11 ⟨rfl, hb11⟩))
        go_ret
        exact ⟨rfl, B10.out.trans (hb11.mono B10.out.size)⟩
      · have E1 := Lib.hid (equal_same zeroD A8 none n8 0 c8 0 w9 D9.out (defAt_zero w9))
        unfold dV zeroD at E1
        unfold zeroD at x0 x1 x2
        clear hr
        go_wp2_with (first
          | (go_at_call 17; go_fit E1.out; rintro e w10 ⟨rfl, hb⟩; have B10 := Lib.hid (B9.out.trans (hb.mono B9.out.size)); have WF := Lib.hid (WK.out w10 B10.out); clear hb)
          | (go_at_call 12; refine WF.out.mono ?_; rintro e w11 ⟨rfl, hb11⟩))
        go_ret
        exact ⟨rfl, B10.out.trans (hb11.mono B10.out.size)⟩
end Go.Proofs.YtgeljnjcpkmlmaaGreatDoor
