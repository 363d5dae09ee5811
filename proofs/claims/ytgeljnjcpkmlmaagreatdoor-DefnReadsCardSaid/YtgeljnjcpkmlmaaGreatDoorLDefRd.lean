/- DefnReads returns true at every bytes and every text. Conditions: as the statement's own. -/
import Derived.Test.YtgeljnjcpkmlmaaGreatDoorDfDec
import Derived.Test.YtgeljnjcpkmlmaaGreatDoorDfRPrW
import Derived.Test.YtgeljnjcpkmlmaaGreatDoorDfV
import Derived.Test.YtgeljnjcpkmlmaaGreatDoorDfWrk
namespace Go.Proofs.YtgeljnjcpkmlmaaGreatDoor
open Go.RowKit Go.Shelf

/-- The reference's Equal at the same definition, whatever memory holds it. -/
theorem requal_same (d : Dv) (A A' : Option Addr) (n n' c c' : Nat) (w : World) (h : DefAt w A n c d) (h' : DefAt w A' n' c' d) :
    Calls Tryz.prog 18 #[dV d A n c, dV d A' n' c'] w fun e w' => e = .returned (.bool true) ∧ Below w.heap.size w w' :=
  (refEqual_any d d A A' n n' c c' w h h').mono (fun e w' ⟨⟨q0, he, hq0⟩, hb⟩ => ⟨by rw [he, hq0.2 rfl], hb⟩)
set_option maxRecDepth 100000 in
set_option maxHeartbeats 4000000 in
theorem defnReads_any (Ab : Option Addr) (nb cb : Nat) (l : List UInt8) (s : ByteArray) (w : World) (hE : DfE w) (hb : SlB w Ab nb l) (hnb : nb ≤ 9223372036854775807) (hsz : s.size ≤ 9223372036854775807) :
    Calls Tryz.prog 6 #[.slice Ab nb cb, .string s] w fun e w' => e = .returned (.bool true) ∧ Below w.heap.size w w' := by
  have mixed : Tryz.prog.follows Departure.mixedOrders = true := by kernel_rfl
  have WK := Lib.hid (fun (W : World) (hb : Below w.heap.size w W) => works_any W (hE.keep hb))
  have HSB := Lib.hid (fun (W : World) (h0 : Below w.heap.size w W) => hb.keep h0)
  have HE := Lib.hid hE
  by_cases hbig : 600 < nb ∨ 600 < s.size
  · have hbig2 : (600 : Int) < (nb : Int) ∨ (¬ ((600 : Int) < (nb : Int)) ∧ (600 : Int) < (s.size : Int)) := by omega
    have W1f := Lib.hid (WK.out w (Below.refl _ w))
    clear hbig hE hb WK HSB HE
    rcases hbig2 with h1 | ⟨h1, h2⟩
    all_goals
      go_enter Tryz.func6, Tryz.ntmps6
      go_wp2_with (go_at_call 12; refine W1f.out.mono ?_; rintro e w2 ⟨rfl, hB2⟩)
      go_ret
      exact ⟨rfl, hB2⟩
  have h1 : ¬ ((600 : Int) < (nb : Int)) := by omega
  have h2 : ¬ ((600 : Int) < (s.size : Int)) := by omega
  have hcv0 := conv_bytes hb cb
  have DC := Lib.hid (decode_any Ab nb cb l w hb (by omega))
  have DC2 := Lib.hid (fun (W : World) (h0 : Below w.heap.size w W) => refDecode_any Ab nb cb l W (hb.keep h0) (by omega))
  have PS := Lib.hid (fun (W : World) (h0 : Below w.heap.size w W) => defParse_any s W (by omega) (hE.keep h0))
  have PS2 := Lib.hid (fun (W : World) => refParse_any s W (by omega))
  unfold DecodeR dV at DC DC2
  unfold ParseR dV at PS PS2
  clear hbig hE hb
  go_enter Tryz.func6, Tryz.ntmps6
  go_upto_region 4 with fail
  clear h1 h2 hcv0
  go_upto_region 5 with (go_at_call 28; go_fit DC.out; rintro e w1 ⟨⟨d1, A1, n1, c1, e1, rfl, hr1, hd1⟩, hB1⟩)
  have HR1 := Lib.hid hr1
  have ba := (Below.refl w1.heap.size w1).alloc (Nat.le_refl _) (.cells #[.string d1.n, .int .i64 d1.r, .int .i64 d1.dl, .slice A1 n1 c1] 24)
  have N2 := Lib.hid (Whole.new w1 24 #[.string d1.n, .int .i64 d1.r, .int .i64 d1.dl, .slice A1 n1 c1])
  have D2 := Lib.hid (hd1.keep ba)
  have B2 := Lib.hid (hB1.alloc hB1.size (.cells #[.string d1.n, .int .i64 d1.r, .int .i64 d1.dl, .slice A1 n1 c1] 24))
  clear ba hd1 hB1 DC hr1
  generalize w1.alloc (.cells #[.string d1.n, .int .i64 d1.r, .int .i64 d1.dl, .slice A1 n1 c1] 24) = w2 at N2 D2 B2 ⊢
  generalize w1.heap.size = C1 at N2 ⊢
  have DC2 := Lib.hid ((DC2.out w2 B2.out).mono (R' := fun e w' => (∃ A9 n9 c9, e = .returned (.tuple #[.agg #[.string d1.n, .int .i64 d1.r, .int .i64 d1.dl, .slice A9 n9 c9], .int .i64 e1]) ∧ DefAt w' A9 n9 c9 d1) ∧ Below w2.heap.size w2 w') (fun e w' ⟨⟨d9, A9, n9, c9, er, he, hr, hd⟩, hb⟩ => by
    obtain ⟨rfl, rfl⟩ := hr.same HR1.out
    exact ⟨⟨A9, n9, c9, he, hd⟩, hb⟩))
  go_upto_region 6 with (go_at_call 29; go_fit DC2.out; rintro e w3 ⟨⟨A3, n3, c3, rfl, hd3⟩, hB3⟩)
  have ba := (Below.refl w3.heap.size w3).alloc (Nat.le_refl _) (.cells #[.string d1.n, .int .i64 d1.r, .int .i64 d1.dl, .slice A3 n3 c3] 24)
  have N4 := Lib.hid (And.intro ((N2.out.keep hB3).keep ba) (Whole.new w3 24 #[.string d1.n, .int .i64 d1.r, .int .i64 d1.dl, .slice A3 n3 c3]))
  have D4 := Lib.hid (And.intro ((D2.out.keep hB3).keep ba) (hd3.keep ba))
  have B4a := B2.out.trans (hB3.mono B2.out.size)
  have B4 := Lib.hid (B4a.alloc B4a.size (.cells #[.string d1.n, .int .i64 d1.r, .int .i64 d1.dl, .slice A3 n3 c3] 24))
  clear ba hd3 hB3 DC2 B4a N2 D2 B2 HR1
  generalize w3.alloc (.cells #[.string d1.n, .int .i64 d1.r, .int .i64 d1.dl, .slice A3 n3 c3] 24) = w4 at N4 D4 B4 ⊢
  generalize w3.heap.size = C2 at N4 ⊢
  have PS := Lib.hid (PS.out w4 B4.out)
  go_upto_region 7 with (go_at_call 27; go_fit PS.out; rintro e w5 ⟨⟨d5, A5, n5, c5, e5, rfl, hr5, hd5⟩, hB5⟩)
  have HR5 := Lib.hid hr5
  have ba := (Below.refl w5.heap.size w5).alloc (Nat.le_refl _) (.cells #[.string d5.n, .int .i64 d5.r, .int .i64 d5.dl, .slice A5 n5 c5] 24)
  have N6 := Lib.hid (And.intro ((N4.out.1.keep hB5).keep ba) (And.intro ((N4.out.2.keep hB5).keep ba) (Whole.new w5 24 #[.string d5.n, .int .i64 d5.r, .int .i64 d5.dl, .slice A5 n5 c5])))
  have D6 := Lib.hid (And.intro ((D4.out.1.keep hB5).keep ba) (And.intro ((D4.out.2.keep hB5).keep ba) (hd5.keep ba)))
  have B6a := B4.out.trans (hB5.mono B4.out.size)
  have B6 := Lib.hid (B6a.alloc B6a.size (.cells #[.string d5.n, .int .i64 d5.r, .int .i64 d5.dl, .slice A5 n5 c5] 24))
  clear ba hd5 hB5 PS B6a N4 D4 B4 hr5
  generalize w5.alloc (.cells #[.string d5.n, .int .i64 d5.r, .int .i64 d5.dl, .slice A5 n5 c5] 24) = w6 at N6 D6 B6 ⊢
  generalize w5.heap.size = C3 at N6 ⊢
  have PS2 := Lib.hid ((PS2.out w6).mono (R' := fun e w' => (∃ A9 n9 c9, e = .returned (.tuple #[.agg #[.string d5.n, .int .i64 d5.r, .int .i64 d5.dl, .slice A9 n9 c9], .int .i64 e5]) ∧ DefAt w' A9 n9 c9 d5) ∧ Below w6.heap.size w6 w') (fun e w' ⟨⟨d9, A9, n9, c9, er, he, hr, hd⟩, hb⟩ => by
    obtain ⟨rfl, rfl⟩ := hr.same HR5.out
    exact ⟨⟨A9, n9, c9, he, hd⟩, hb⟩))
  go_upto_region 8 with (go_at_call 30; go_fit PS2.out; rintro e w7 ⟨⟨A7, n7, c7, rfl, hd7⟩, hB7⟩)
  have ba := (Below.refl w7.heap.size w7).alloc (Nat.le_refl _) (.cells #[.string d5.n, .int .i64 d5.r, .int .i64 d5.dl, .slice A7 n7 c7] 24)
  have N8 := Lib.hid (And.intro ((N6.out.1.keep hB7).keep ba) (And.intro ((N6.out.2.1.keep hB7).keep ba) (And.intro ((N6.out.2.2.keep hB7).keep ba) (Whole.new w7 24 #[.string d5.n, .int .i64 d5.r, .int .i64 d5.dl, .slice A7 n7 c7]))))
  have D8 := Lib.hid (And.intro ((D6.out.1.keep hB7).keep ba) (And.intro ((D6.out.2.1.keep hB7).keep ba) (And.intro ((D6.out.2.2.keep hB7).keep ba) (hd7.keep ba))))
  have B8a := B6.out.trans (hB7.mono B6.out.size)
  have B8 := Lib.hid (B8a.alloc B8a.size (.cells #[.string d5.n, .int .i64 d5.r, .int .i64 d5.dl, .slice A7 n7 c7] 24))
  clear ba hd7 hB7 PS2 B8a N6 D6 B6 HR5
  generalize w7.alloc (.cells #[.string d5.n, .int .i64 d5.r, .int .i64 d5.dl, .slice A7 n7 c7] 24) = w8 at N8 D8 B8 ⊢
  generalize w7.heap.size = C4 at N8 ⊢
  have E1 := Lib.hid (requal_same d1 A1 A3 n1 n3 c1 c3 w8 D8.out.1 D8.out.2.1)
  have E2 := Lib.hid (fun (W : World) (hb : Below w8.heap.size w8 W) => requal_same d5 A5 A7 n5 n7 c5 c7 W (D8.out.2.2.1.keep hb) (D8.out.2.2.2.keep hb))
  unfold dV at E1 E2
  obtain ⟨y0, y1, y2, y3⟩ := def_cells N8.out.1
  obtain ⟨x0, x1, x2, x3⟩ := def_cells N8.out.2.1
  have HWM := Lib.hid (fun (W : World) (hb : Below w8.heap.size w8 W) => And.intro (def_cells (N8.out.2.2.1.keep hb)) (def_cells (N8.out.2.2.2.keep hb)))
  clear N8 D8
  go_wp2_with (first
    | (go_at_call 18; go_fit E1.out; rintro e w10 ⟨rfl, hb⟩; have E2 := Lib.hid (E2.out w10 hb); obtain ⟨⟨y0, y1, y2, y3⟩, z0, z1, z2, z3⟩ := HWM.out w10 hb; have B10 := Lib.hid (B8.out.trans (hb.mono B8.out.size)); clear hb E1)
    | (go_at_call 18; go_fit E2.out; rintro e w11 ⟨rfl, hb⟩; have B11 := Lib.hid (B10.out.trans (hb.mono B10.out.size)); have WKf := Lib.hid (WK.out w11 B11.out); have hcv := conv_bytes (HSB.out w11 B11.out) cb; clear hb E2)
    | (go_at_call 12; refine WKf.out.mono ?_; rintro e w12 ⟨rfl, hB12⟩))
  go_ret
  exact ⟨rfl, B11.out.trans (hB12.mono B11.out.size)⟩
end Go.Proofs.YtgeljnjcpkmlmaaGreatDoor
