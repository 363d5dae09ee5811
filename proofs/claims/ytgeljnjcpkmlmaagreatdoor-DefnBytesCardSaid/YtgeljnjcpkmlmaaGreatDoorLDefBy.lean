/- DefnBytes returns true at every definition and every two bytes. Conditions: as the statement's own. -/
import Derived.Test.YtgeljnjcpkmlmaaGreatDoorDfDec
import Derived.Test.YtgeljnjcpkmlmaaGreatDoorDfWrk
import Derived.Test.YtgeljnjcpkmlmaaGreatDoorDfShort
import Derived.Laws.BitsAllLaws
namespace Go.Proofs.YtgeljnjcpkmlmaaGreatDoor
open Go.RowKit Go.Shelf

theorem u8_xor_u8 (a b : UInt8) : bits .xor .u8 (a.toNat : Int) (b.toNat : Int) = ((a ^^^ b).toNat : Int) := by
  rw [u8_xor_nat _ _ a.toNat_lt b.toNat_lt, UInt8.toNat_xor]
theorem u8_xor_ne {a b : UInt8} (h : b ≠ 0) : a ^^^ b ≠ a := by
  intro e
  apply h
  have : a ^^^ (a ^^^ b) = a ^^^ a := by rw [e]
  rwa [← UInt8.xor_assoc, UInt8.xor_self, UInt8.zero_xor] at this
theorem dec_more {d x : Dv} {c : UInt8} {e : Int} (hd : defOk d) (h : DecR (bytesD d ++ [c]) x e) : e = 10 := by
  rcases h with ⟨_, h1, h2⟩ | ⟨h1, _⟩
  · have := (bytesD_inj h1 hd (x := []) (y := [c]) (by rw [List.append_nil]; exact h2)).2
    cases this
  · exact h1
theorem dec_less {d x : Dv} {e : Int} (hd : defOk d) (h : DecR (bytesD d).dropLast x e) : e = 10 := by
  rcases h with ⟨_, h1, h2⟩ | ⟨h1, _⟩
  · have hne : bytesD d ≠ [] := fun e0 => by
      unfold bytesD txB at e0
      exact uvB_ne _ (List.append_eq_nil_iff.1 (List.append_eq_nil_iff.1 e0).1).1
    have := (bytesD_inj h1 hd (x := [(bytesD d).getLast hne]) (y := []) (by rw [h2, List.append_nil, List.dropLast_concat_getLast])).2
    cases this
  · exact h1
theorem dec_other {d x : Dv} {l : List UInt8} (hl : l ≠ bytesD d) (h : DecR l x 0) : x ≠ d := by
  rcases h with ⟨_, h1, h2⟩ | ⟨h1, _⟩
  · rintro rfl; exact hl h2.symm
  · omega
theorem dec_code {d : Dv} {l : List UInt8} {e : Int} (h : DecR l d e) : e = 0 ∨ e = 10 := by
  rcases h with ⟨h, _⟩ | ⟨h, _⟩ <;> simp [h]
theorem bytesD_pos (d : Dv) : 1 ≤ (bytesD d).length := by
  unfold bytesD txB
  simp only [List.length_append]
  have := uvB_pos d.n.data.toList.length
  omega
theorem bV_set (l : List UInt8) (k : Nat) (x : UInt8) : (bV l).set k (u8V x) = bV (l.set k x) := by
  unfold bV
  rw [List.map_set]
set_option maxRecDepth 100000 in
set_option maxHeartbeats 4000000 in
theorem defnBytes_any (d : Dv) (A : Option Addr) (n c : Nat) (at8 by8 : UInt8) (w : World) (hl : d.s.length = n) (hnc : n ≤ c) (hn : n ≤ 9223372036854775807) (hz : DefZ d) (hs : SlD w A d.s) (hE : DfE w) :
    Calls Tryz.prog 8 #[dV d A n c, .int .u8 (at8.toNat : Int), .int .u8 (by8.toNat : Int)] w fun e w' => e = .returned (.bool true) ∧ Below w.heap.size w w' := by
  have b1 := (Below.refl w.heap.size w).alloc (Nat.le_refl _) (.cells #[.string d.n, .int .i64 d.r, .int .i64 d.dl, .slice A n c] 24)
  have SH := Lib.hid (short_any d A n c _ hl hn hz (hs.keep b1))
  have HW0 := Lib.hid (Whole.new w 24 #[.string d.n, .int .i64 d.r, .int .i64 d.dl, .slice A n c])
  have HB := Lib.hid b1
  have HA := Lib.hid (fun (W : World) (hb : Below w.heap.size w W) (hS : ShortD d) => (show DefAt W A n c d from ⟨hl, hnc, by have := hS.1; omega, hz, hs.keep hb⟩))
  have WK := Lib.hid (fun (W : World) (hb : Below w.heap.size w W) => works_any W (hE.keep hb))
  have CK := Lib.hid (fun (W : World) (h : DefAt W A n c d) => defCheck_any d A n c W h)
  unfold dV at SH CK
  clear b1 hE hz hs hnc hn hl
  unfold dV
  go_enter Tryz.func8, Tryz.ntmps8
  go_upto_if 27 with (first
    | (go_at_call 11; refine SH.out.mono ?_; rintro e w1 ⟨⟨b, rfl, hb⟩, hB⟩; have B1 := Lib.hid (HB.out.trans (hB.mono HB.out.size)); have W1 := Lib.hid (HW0.out.keep hB); obtain ⟨y0, y1, y2, y3⟩ := def_cells W1.out; have HSh := Lib.hid hb; clear hb hB; cases b))
  · have W1f := Lib.hid (WK.out w1 B1.out)
    go_wp2_with (go_at_call 12; refine W1f.out.mono ?_; rintro e w2 ⟨rfl, hB2⟩)
    go_ret
    exact ⟨rfl, B1.out.trans (hB2.mono B1.out.size)⟩
  have HS := Lib.hid (HSh.out trivial)
  have HD1 := Lib.hid (HA.out w1 B1.out HS.out)
  go_fit (CK.out w1 HD1.out)
  rintro e w2 ⟨rfl, hB2⟩
  have B2 := Lib.hid (B1.out.trans (hB2.mono B1.out.size))
  have W2 := Lib.hid (W1.out.keep hB2)
  clear hB2 y0 y1 y2 y3 HSh SH CK HW0 HB HD1 B1 W1
  by_cases hok : defOk d
  case neg =>
    rw [ckD_no hok]
    have W2f := Lib.hid (WK.out w2 B2.out)
    clear hok
    go_wp2_with (go_at_call 12; refine W2f.out.mono ?_; rintro e w3 ⟨rfl, hB3⟩)
    go_ret
    exact ⟨rfl, B2.out.trans (hB3.mono B2.out.size)⟩
  rw [ckD_yes hok]
  by_cases hby : by8 = 0
  case pos =>
    subst hby
    have hz0 : ((((0 : UInt8).toNat : Nat) : Int) == 0) = true := by decide
    have W2f := Lib.hid (WK.out w2 B2.out)
    clear hok
    go_wp2_with (go_at_call 12; refine W2f.out.mono ?_; rintro e w3 ⟨rfl, hB3⟩)
    go_ret
    exact ⟨rfl, B2.out.trans (hB3.mono B2.out.size)⟩
  have hz0 : (((by8.toNat : Nat) : Int) == 0) = false := by
    rw [beq_eq_false_iff_ne]
    intro e
    exact hby (UInt8.toNat_inj.1 (show by8.toNat = 0 by omega))
  have HOK := Lib.hid hok
  have HBY := Lib.hid hby
  have EN := Lib.hid ((defEncode_any d A n c w2 (HA.out w2 B2.out HS.out)).mono (fun e w' ⟨h, hb⟩ => And.intro (h.resolve_right (fun h => h.1 hok)).2 hb))
  unfold dV at EN
  obtain ⟨y0, y1, y2, y3⟩ := def_cells W2.out
  clear hok hby
  go_upto_region 4 with (go_at_call 21; refine EN.out.mono ?_; rintro e w3 ⟨⟨v3, rfl, ho3⟩, hB3⟩; obtain ⟨A3, c3, rfl, hc3⟩ := own_slice2 ho3)
  have B3 := Lib.hid (B2.out.trans (hB3.mono B2.out.size))
  have W3 := Lib.hid (W2.out.keep hB3)
  have S3 := Lib.hid (SlB.of_own ho3)
  have HC3 := Lib.hid hc3
  have hpos := bytesD_pos d
  have hle : (bytesD d).length ≤ 65536 := by
    have h1 := bysD_len HOK.out d.s.length
    rw [bysD_all] at h1
    omega
  obtain ⟨l, hll⟩ : ∃ l, l = bytesD d := ⟨_, rfl⟩
  have HLL := Lib.hid hll
  rw [← hll] at S3 HC3 hpos hle ⊢
  obtain ⟨m, hm⟩ : ∃ m, m = l.length := ⟨_, rfl⟩
  have HM := Lib.hid hm
  rw [← hm] at S3 HC3 hpos hle ⊢
  clear hll hm ho3 hB3 hc3 EN y0 y1 y2 y3 W2 B2
  have hm0 : (((m : Nat) : Int) == 0) = false := by rw [beq_eq_false_iff_ne]; omega
  go_upto_region 6 with fail
  clear hm0
  -- one byte more
  have ba := (Below.refl w3.heap.size w3).alloc (Nat.le_refl _) (.cells #[] 5)
  obtain ⟨v4, w4, hrun4, hown4, hgr4⟩ := run_app_src (w3.alloc (.cells #[] 5)) A3 m c3 l (S3.out.keep ba) (by omega) (base := w3.heap.size) (v := .slice (some ⟨w3.heap.size, 0, none⟩) 0 0) (k := 0) (xs := []) (World.ownsRow_made _ _ _ (Nat.le_refl _) (Nat.zero_le _) rfl) (by omega) (by simp)
  rw [Nat.zero_add, List.nil_append] at hown4
  have b4 := ba.grown hgr4 ba.size (fun k e => by simp [Value.ownBlock] at e; omega)
  obtain ⟨v5, w5, hrun5, hown5, hgr5⟩ := run_app_src (w4.alloc (.cells #[u8V by8] 5)) (some ⟨w4.heap.size, 0, none⟩) 1 1 [by8] (SlB.of_own (own_one w4 by8)) (by omega) (hown4.alloc (.cells #[u8V by8] 5)) (by omega) (by have := b4.size; simp; omega)
  have b5 := (b4.alloc b4.size (.cells #[u8V by8] 5)).grown hgr5 (by have := b4.size; simp; omega) (fun k e => (hown4.lt k e).1)
  obtain ⟨A5, c5, rfl, hc5⟩ := own_slice2 hown5
  have R1 := Lib.hid hrun4
  have R2 : Hid ((Builtin.append_ #[38, 38] 38 #[v4, .slice (some ⟨w4.heap.size, 0, none⟩) 1 1]).run Tryz.prog (w4.alloc (.cells #[.int .u8 (by8.toNat : Int)] 5)) = .ok (.slice A5 (m + 1) c5) w5) := Lib.hid hrun5
  rw [← bV_app] at hown5
  have DC1 := Lib.hid (decode_any A5 (m + 1) c5 (l ++ [by8]) w5 (SlB.of_own hown5) (by omega))
  have B5 := Lib.hid (B3.out.trans (b5.mono B3.out.size))
  have K5 := Lib.hid b5
  unfold DecodeR dV at DC1
  clear hrun4 hown4 hgr4 hrun5 hown5 hgr5 b4 b5 ba hc5
  go_upto_region 7 with (first
    | (at_builtin; refine wpList_append_run rfl (.tmp 42) (.tmp 43) 38 38 rfl rfl rfl R1.out ?_; clear R1)
    | (at_builtin; refine wpList_append_run rfl (.tmp 44) (.tmp 46) 38 38 rfl rfl rfl R2.out ?_; clear R2)
    | (go_at_call 28; go_fit DC1.out; rintro e w6 ⟨⟨d6, A6, n6, c6, er6, rfl, hr6, hd6⟩, hb6⟩))
  obtain rfl : er6 = 10 := dec_more HOK.out (by rw [← HLL.out]; exact hr6)
  have K7a := (K5.out.trans (hb6.mono K5.out.size))
  have K7 := Lib.hid (K7a.alloc K7a.size (.cells #[.string d6.n, .int .i64 d6.r, .int .i64 d6.dl, .slice A6 n6 c6] 24))
  clear DC1 hr6 hd6 hb6 K7a K5 B5
  generalize w6.alloc (.cells #[.string d6.n, .int .i64 d6.r, .int .i64 d6.dl, .slice A6 n6 c6] 24) = w7 at K7 ⊢
  -- one byte less
  have S7 := Lib.hid (S3.out.keep K7.out)
  obtain ⟨A8, hA8, hB8⟩ := sliced_B (lo := 0) (hi := m - 1) S7.out (by omega) (by omega) HC3.out rfl
  rw [Nat.sub_zero, Nat.sub_zero] at hA8
  rw [Nat.sub_zero, List.drop_zero, show l.take (m - 1) = l.dropLast by rw [List.dropLast_eq_take, ← HM.out]] at hB8
  have hcut := fun W => cut_to A3 m c3 (m - 1) (by have := HC3.out; omega) W
  rw [hA8] at hcut
  simp only [show (((m - 1 : Nat)) : Int) = (m : Int) - 1 by omega] at hcut
  have hwm : IntKind.i64.wrap ((m : Int) - 1) = (m : Int) - 1 := IntWalk.i64_in _ (by omega)
  have DC2 := Lib.hid (decode_any A8 (m - 1) c3 l.dropLast w7 hB8 (by omega))
  unfold DecodeR dV at DC2
  clear hA8 hB8
  go_upto_region 8 with (first
    | (go_at_call 28; go_fit DC2.out; rintro e w8 ⟨⟨d8, A88, n8, c8, er8, rfl, hr8, hd8⟩, hb8⟩))
  obtain rfl : er8 = 10 := dec_less HOK.out (by rw [← HLL.out]; exact hr8)
  have K9a := K7.out.trans (hb8.mono K7.out.size)
  have K9 := Lib.hid (K9a.alloc K9a.size (.cells #[.string d8.n, .int .i64 d8.r, .int .i64 d8.dl, .slice A88 n8 c8] 24))
  clear DC2 hr8 hd8 hb8 K9a K7 S7 hcut hwm
  generalize w8.alloc (.cells #[.string d8.n, .int .i64 d8.r, .int .i64 d8.dl, .slice A88 n8 c8] 24) = w9 at K9 ⊢
  -- one byte changed
  have ba := (Below.refl w9.heap.size w9).alloc (Nat.le_refl _) (.cells #[] 5)
  obtain ⟨v10, w10, hrun10, hown10, hgr10⟩ := run_app_src (w9.alloc (.cells #[] 5)) A3 m c3 l ((S3.out.keep K9.out).keep ba) (by omega) (base := w9.heap.size) (v := .slice (some ⟨w9.heap.size, 0, none⟩) 0 0) (k := 0) (xs := []) (World.ownsRow_made _ _ _ (Nat.le_refl _) (Nat.zero_le _) rfl) (by omega) (by simp)
  rw [Nat.zero_add, List.nil_append] at hown10
  have b10 := ba.grown hgr10 ba.size (fun k e => by simp [Value.ownBlock] at e; omega)
  obtain ⟨g, c10, rfl⟩ : ∃ g c10, v10 = .slice (some ⟨g, 0, none⟩) m c10 := by
    rcases hown10.2 with ⟨_, e⟩ | ⟨g, cap, _, e, _⟩
    · omega
    · exact ⟨g, cap, e⟩
  have R3 := Lib.hid hrun10
  have O10 := Lib.hid hown10
  have K10 := Lib.hid (K9.out.trans (b10.mono K9.out.size))
  have HG := Lib.hid (show w3.heap.size ≤ g from Nat.le_trans K9.out.size (hown10.lt g rfl).1)
  clear hrun10 hown10 hgr10 b10 ba K9
  go_upto_region 9 with (first
    | (at_builtin; refine wpList_append_run rfl (.tmp 60) (.tmp 61) 38 38 rfl rfl rfl R3.out ?_; clear R3))
  obtain ⟨k, hk⟩ : ∃ k, k = at8.toNat % m := ⟨_, rfl⟩
  have hkm : k < m := by rw [hk]; exact Nat.mod_lt _ (by omega)
  obtain ⟨x, hx⟩ : ∃ x, l[k]? = some x := ⟨_, List.getElem?_eq_getElem (by rw [← HM.out]; exact hkm)⟩
  have c1 : w10.cell? ⟨g, k, none⟩ = some (.int .u8 (x.toNat : Int)) := by
    have := O10.out.cellAt k (by omega)
    rw [this]
    unfold bV; rw [List.getElem?_map, hx]; rfl
  have f1 := O10.out.frozenAt k
  have hat := at8.toNat_lt
  have hwa : IntKind.i64.wrap (at8.toNat : Int) = (at8.toNat : Int) := IntWalk.i64_in _ (by omega)
  have htm : ((at8.toNat : Int)).tmod (m : Int) = (k : Int) := by rw [Int.tmod_eq_emod_of_nonneg (by omega), hk]; omega
  have hk0 : (0 : Int) ≤ (k : Int) := by omega
  have hkm' : (k : Int) < (m : Int) := by omega
  have hm1 : ((m : Int) == 0) = false := by rw [beq_eq_false_iff_ne]; omega
  have hxx := u8_xor_u8 x by8
  have hyx := u8_xor_ne (a := x) HBY.out
  generalize x ^^^ by8 = y at hxx hyx
  have O11 := own_set O10.out k (u8V y)
  rw [bV_set] at O11
  have g11 := grown_set (World.grownBy.refl w10 (some g)) k (u8V y)
  have K11 := Lib.hid (K10.out.grown g11 K10.out.size (fun j e => by cases e; exact HG.out))
  have HNE := Lib.hid (show l.set k y ≠ bytesD d by
    rw [← HLL.out]
    intro e
    have h1 : (l.set k y)[k]? = some y := by rw [List.getElem?_set_self (by rw [← HM.out]; exact hkm)]
    rw [e, hx] at h1
    exact hyx (Option.some.inj h1).symm)
  have DC3 := Lib.hid (decode_any (some ⟨g, 0, none⟩) m c10 (l.set k y) (w10.setCell ⟨g, k, none⟩ (u8V y)) (SlB.of_own O11) (by omega))
  unfold DecodeR dV u8V at DC3
  unfold u8V at K11
  clear O11 g11 hk hx hat O10 K10 hyx
  go_upto_region 10 with fail
  generalize w10.setCell ⟨g, k, none⟩ (.int .u8 (y.toNat : Int)) = w11 at K11 DC3 ⊢
  clear c1 f1 hwa htm hk0 hkm' hm1 hxx
  go_upto_region 11 with (first
    | (go_at_call 28; go_fit DC3.out; rintro e w12 ⟨⟨d12, A12, n12, c12, er12, rfl, hr12, hd12⟩, hb12⟩))
  have ba := (Below.refl w12.heap.size w12).alloc (Nat.le_refl _) (.cells #[.string d12.n, .int .i64 d12.r, .int .i64 d12.dl, .slice A12 n12 c12] 24)
  have N13 := Whole.new w12 24 #[.string d12.n, .int .i64 d12.r, .int .i64 d12.dl, .slice A12 n12 c12]
  have K12 := K11.out.trans (hb12.mono K11.out.size)
  have K13 := Lib.hid (K12.trans (ba.mono K12.size))
  have B13 := Lib.hid (B3.out.trans (K13.out.mono B3.out.size))
  have D13 := hd12.keep ba
  obtain ⟨y0, y1, y2, y3⟩ := def_cells (W3.out.keep K13.out)
  obtain ⟨z0, z1, z2, z3⟩ := def_cells N13
  have HR := Lib.hid hr12
  clear K12 hb12 hd12 ba N13 DC3 hr12
  generalize w12.alloc (.cells #[.string d12.n, .int .i64 d12.r, .int .i64 d12.dl, .slice A12 n12 c12] 24) = w13 at K13 B13 D13 y0 y1 y2 y3 z0 z1 z2 z3 ⊢
  generalize w12.heap.size = C at z0 z1 z2 z3 ⊢
  rcases dec_code HR.out with rfl | rfl
  · have HX := Lib.hid (dec_other HNE.out HR.out)
    have EQ := Lib.hid ((defEqual_any d12 d A12 A n12 n c12 c w13 D13 (HA.out w13 B13.out HS.out)).mono (R' := fun e w' => e = .returned (.bool false) ∧ Below w13.heap.size w13 w') (fun e w' ⟨⟨q0, he, hq0⟩, hb⟩ => ⟨by
      rw [he]
      cases q0 with
      | false => rfl
      | true => exact absurd (hq0.1 rfl) HX.out, hb⟩))
    unfold dV at EQ
    clear D13
    go_wp2_with (first
      | (go_at_call 17; refine EQ.out.mono ?_; rintro e w14 ⟨rfl, hb14⟩; have B14 := Lib.hid (B13.out.trans (hb14.mono B13.out.size)); have WF := Lib.hid (WK.out w14 B14.out); clear hb14)
      | (go_at_call 12; refine WF.out.mono ?_; rintro e w15 ⟨rfl, hb15⟩))
    go_ret
    exact ⟨rfl, B14.out.trans (hb15.mono B14.out.size)⟩
  · have WF := Lib.hid (WK.out w13 B13.out)
    clear D13
    go_wp2_with (first
      | (go_at_call 12; refine WF.out.mono ?_; rintro e w15 ⟨rfl, hb15⟩))
    go_ret
    exact ⟨rfl, B13.out.trans (hb15.mono B13.out.size)⟩
end Go.Proofs.YtgeljnjcpkmlmaaGreatDoor
