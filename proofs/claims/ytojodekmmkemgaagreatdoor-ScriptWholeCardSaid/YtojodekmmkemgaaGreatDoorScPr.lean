/- The text of an operation, by the program. Condition: the program's own variables lie as its start lays them. -/
import Derived.Test.YtojodekmmkemgaaGreatDoorScChk
namespace Go.Proofs.YtojodekmmkemgaaGreatDoor
open Go.RowKit Go.Shelf

theorem skeep2b {w0 wc : World} {B : Nat} {a b : Addr} {x y : Value} (hH : wc.cell? a = some x ∧ wc.cell? b = some y ∧ Below B w0 wc ∧ B ≤ wc.heap.size) : Below B w0 wc := hH.2.2.1
set_option maxRecDepth 100000 in
set_option maxHeartbeats 16000000 in
theorem oprint_any (o : Ov) (A : Option Addr) (n m : Nat) (w : World) (hE : DfE w) (h : OpIn w o A n m) :
    Calls Tryz.prog 22 #[.agg (oA o A n m)] w fun e w' => e = .returned (.tuple #[.string ⟨(txtO o).toArray⟩, .int .i64 (ckO o)]) ∧ Below w.heap.size w w' := by
  have mixed : Tryz.prog.follows Departure.mixedOrders = true := by kernel_rfl
  have B1 := Lib.hid ((Below.refl w.heap.size w).alloc (Nat.le_refl _) (.cells (oA o A n m) 34))
  have C1 := Lib.hid (OpAt.new h)
  have CK := ocheck_any o A n m _ C1.out.i
  have HE := Lib.hid hE
  have HIN := Lib.hid h
  clear hE h
  by_cases hok : opOk o
  case neg =>
    have HV : Hid (txtO o = [] ∧ ckO o = 2) := Lib.hid ⟨txtO_no hok, ckO_no hok⟩
    rw [ckO_no hok] at CK
    have CK := Lib.hid CK
    clear hok HE
    go_enter Tryz.func22, Tryz.ntmps22
    go_wp2_with (first
      | (refine wpList_load_row rfl 34 (.tmp 1) rfl _ rfl 34 (oA o A n m) (0, 0) _ C1.out.w Tryz.underlying34 rfl (info10 _ _ _ _) ?_)
      | (go_at_call 24; refine CK.out.mono ?_; rintro e w2 ⟨rfl, hb⟩; have B2 := Lib.hid (B1.out.trans (hb.mono B1.out.size)); clear hb))
    go_ret2
    rw [HV.out.1, HV.out.2]
    exact ⟨rfl, B2.out⟩
  have HV : Hid (txtO o = textO o ∧ ckO o = 0) := Lib.hid ⟨txtO_yes hok, ckO_yes hok⟩
  rw [ckO_yes hok] at CK
  have CK := Lib.hid CK
  have HOK := Lib.hid hok
  have hkr := opOk_k hok
  obtain ⟨hn0, hn1⟩ := opOk_n hok
  obtain ⟨hm0, hm1⟩ := opOk_m hok
  have h12 : o.k = 1 ∨ o.k = 2 ∨ o.k = 3 ∨ o.k = 4 ∨ o.k = 5 ∨ o.k = 6 ∨ o.k = 7 ∨ o.k = 8 ∨ o.k = 9 ∨ o.k = 10 ∨ o.k = 11 ∨ o.k = 12 := by omega
  have H12 := Lib.hid h12
  obtain ⟨wd, hwd⟩ : ∃ x : ByteArray, x = ⟨(wordO o.k).toArray⟩ := ⟨_, rfl⟩
  obtain ⟨nd, hnd⟩ : ∃ x : ByteArray, x = ⟨(dgs o.n).toArray⟩ := ⟨_, rfl⟩
  obtain ⟨md, hmd⟩ : ∃ x : ByteArray, x = ⟨(dgs o.m).toArray⟩ := ⟨_, rfl⟩
  have WD := fun (W : World) => word_any o.k W
  have IT := fun (W : World) (hW : DfE W) => itoa_any o.n hn0 (by omega) W hW
  have IM := fun (W : World) (hW : DfE W) => itoa_any o.m hm0 (by omega) W hW
  rw [← hwd] at WD
  rw [← hnd] at IT
  rw [← hmd] at IM
  have WD := Lib.hid WD
  have IT := Lib.hid IT
  have IM := Lib.hid IM
  have HTX : Hid (wd.data.toList = wordO o.k ∧ nd.data.toList = dgs o.n ∧ md.data.toList = dgs o.m) := Lib.hid (by rw [hwd, hnd, hmd]; exact ⟨rfl, rfl, rfl⟩)
  clear hok hkr hn0 hn1 hm0 hm1 h12 hwd hnd hmd
  go_enter Tryz.func22, Tryz.ntmps22
  go_upto_region 1 with fail
  generalize w.alloc (.cells (oA o A n m) 34) = w1 at B1 C1 CK ⊢
  go_upto_region 4 with (first
    | (refine wpList_load_row rfl 34 (.tmp 1) rfl _ rfl 34 (oA o A n m) (0, 0) _ C1.out.w Tryz.underlying34 rfl (info10 _ _ _ _) ?_)
    | (go_at_call 24; refine CK.out.mono ?_; rintro e w2 ⟨rfl, hb⟩; have B2 := Lib.hid (B1.out.trans (hb.mono B1.out.size)); have C2 := Lib.hid (C1.out.keep hb); clear hb CK))
  clear B1 C1
  have HE2 := Lib.hid (fun (W : World) (hb : Below w2.heap.size w2 W) => HE.out.keep (B2.out.trans (hb.mono B2.out.size)))
  have SA : Hid (w2.drew.cell? ⟨w.heap.size, 0, none⟩ = some (.int .i64 o.k) ∧ w2.drew.cell? ⟨w.heap.size, 1, none⟩ = some (.int .i64 o.n) ∧ Below w2.heap.size w2 w2.drew ∧ w2.heap.size ≤ w2.drew.heap.size) := Lib.hid ⟨C2.out.w.cell 0, C2.out.w.cell 1, (Below.refl _ _).drew, Nat.le_refl _⟩
  go_wp2_with fail
  go_region_held3 (fun wx => wx.cell? ⟨w.heap.size, 0, none⟩ = some (.int .i64 o.k) ∧ wx.cell? ⟨w.heap.size, 1, none⟩ = some (.int .i64 o.n) ∧ Below w2.heap.size w2 wx ∧ w2.heap.size ≤ wx.heap.size)
    (first | exact SA.out | assumption | (refine skeep2 ?_ hb2; assumption) | (refine skeep2 ?_ ((Below.refl _ _).alloc (Nat.le_refl _) _); assumption))
    (first
      | (go_at_call 54; refine (WD.out _).mono ?_; rintro e w3 ⟨rfl, hb2⟩)
      | (go_at_call 55; refine (IT.out _ (HE2.out _ ?_)).mono ?_; (apply skeep2b; assumption); rintro e w3 ⟨rfl, hb2⟩))
  rename_i hF
  obtain ⟨f0, _, fB, _⟩ := hF
  have hbs : w.heap.size ≤ w3.heap.size := by have := lt_cell f0; simp at this; omega
  have J4 : Hid (Below w2.heap.size w2 (w3.alloc (.cells #[.string wd, .string nd] 9)) ∧ (w3.alloc (.cells #[.string wd, .string nd] 9)).ownsRow w.heap.size 9 1 (.slice (some ⟨w3.heap.size, 0, none⟩) 2 2) ([wd, nd] : List ByteArray).length (([wd, nd] : List ByteArray).map sV)) :=
    Lib.hid ⟨fB, World.ownsRow_lit w3 #[.string wd, .string nd] 2 hbs (by decide) rfl⟩
  generalize w3.alloc (.cells #[.string wd, .string nd] 9) = w4 at J4 f0 fB ⊢
  generalize w3.heap.size = G at J4 ⊢
  clear SA hbs fB f0
  have y2 : w4.cell? ⟨w.heap.size, 2, none⟩ = some (.int .i64 o.m) := (C2.out.keep J4.out.1).w.cell 2
  go_upto_region 6 with (go_at_call 55; refine (IM.out _ (HE2.out _ J4.out.1)).mono ?_; rintro e w5 ⟨rfl, hb⟩; have J5 := Lib.hid (And.intro (J4.out.1.trans (hb.mono J4.out.1.size)) (J4.out.2.kept (gbelow hb) (Classical.em _))); clear hb IM)
  clear y2 J4
  have C5 := Lib.hid (C2.out.keep J5.out.1)
  have BX := Lib.hid (B2.out.trans (J5.out.1.mono B2.out.size))
  have HE5 := Lib.hid (fun (W : World) (hb : Below w5.heap.size w5 W) => HE2.out W (J5.out.1.trans (hb.mono J5.out.1.size)))
  have y0 : w5.cell? ⟨w.heap.size, 0, none⟩ = some (.int .i64 o.k) := C5.out.w.cell 0
  go_upto_region 7 with fail
  clear y0 WD IT C2
  rcases H12.out with h1 | h1 | h1 | h1 | h1 | h1 | h1 | h1 | h1 | h1 | h1 | h1
  · skip
    have e6 : (o.k == 6) = false := by rw [h1]; rfl
    have e9 : (o.k == 9) = false := by rw [h1]; rfl
    have e10 : (o.k == 10) = false := by rw [h1]; rfl
    have e8 : (o.k == 8) = false := by rw [h1]; rfl
    have e11 : (o.k == 11) = false := by rw [h1]; rfl
    have e12 : (o.k == 12) = false := by rw [h1]; rfl
    have HWS : joinW (([wd, nd] : List ByteArray).map (·.data.toList)) = textO o := by
      show joinW _ = joinW (wordO o.k :: dgs o.n :: moreO o)
      rw [moreO_0 (by omega) (by omega) (by omega) (by omega)]
      simp only [List.map_cons, List.map_nil, HTX.out.1, HTX.out.2.1]
    have JN := Lib.hid (pr_join o HOK.out _ _ [wd, nd] w5 J5.out.2 (by simp) (by simp) HWS)
    clear HWS h1
    have HB9 := Lib.hid (BX.out)
    go_wp2_with (first
      | (go_at_call 19; refine JN.out.mono ?_; rintro e w9 ⟨rfl, hb⟩; have BF := Lib.hid (HB9.out.trans (hb.mono HB9.out.size)); clear hb))
    go_ret2
    rw [HV.out.1, HV.out.2]
    exact ⟨rfl, BF.out⟩
  · skip
    have e6 : (o.k == 6) = false := by rw [h1]; rfl
    have e9 : (o.k == 9) = false := by rw [h1]; rfl
    have e10 : (o.k == 10) = false := by rw [h1]; rfl
    have e8 : (o.k == 8) = false := by rw [h1]; rfl
    have e11 : (o.k == 11) = false := by rw [h1]; rfl
    have e12 : (o.k == 12) = false := by rw [h1]; rfl
    have HWS : joinW (([wd, nd] : List ByteArray).map (·.data.toList)) = textO o := by
      show joinW _ = joinW (wordO o.k :: dgs o.n :: moreO o)
      rw [moreO_0 (by omega) (by omega) (by omega) (by omega)]
      simp only [List.map_cons, List.map_nil, HTX.out.1, HTX.out.2.1]
    have JN := Lib.hid (pr_join o HOK.out _ _ [wd, nd] w5 J5.out.2 (by simp) (by simp) HWS)
    clear HWS h1
    have HB9 := Lib.hid (BX.out)
    go_wp2_with (first
      | (go_at_call 19; refine JN.out.mono ?_; rintro e w9 ⟨rfl, hb⟩; have BF := Lib.hid (HB9.out.trans (hb.mono HB9.out.size)); clear hb))
    go_ret2
    rw [HV.out.1, HV.out.2]
    exact ⟨rfl, BF.out⟩
  · skip
    have e6 : (o.k == 6) = false := by rw [h1]; rfl
    have e9 : (o.k == 9) = false := by rw [h1]; rfl
    have e10 : (o.k == 10) = false := by rw [h1]; rfl
    have e8 : (o.k == 8) = false := by rw [h1]; rfl
    have e11 : (o.k == 11) = false := by rw [h1]; rfl
    have e12 : (o.k == 12) = false := by rw [h1]; rfl
    have HWS : joinW (([wd, nd] : List ByteArray).map (·.data.toList)) = textO o := by
      show joinW _ = joinW (wordO o.k :: dgs o.n :: moreO o)
      rw [moreO_0 (by omega) (by omega) (by omega) (by omega)]
      simp only [List.map_cons, List.map_nil, HTX.out.1, HTX.out.2.1]
    have JN := Lib.hid (pr_join o HOK.out _ _ [wd, nd] w5 J5.out.2 (by simp) (by simp) HWS)
    clear HWS h1
    have HB9 := Lib.hid (BX.out)
    go_wp2_with (first
      | (go_at_call 19; refine JN.out.mono ?_; rintro e w9 ⟨rfl, hb⟩; have BF := Lib.hid (HB9.out.trans (hb.mono HB9.out.size)); clear hb))
    go_ret2
    rw [HV.out.1, HV.out.2]
    exact ⟨rfl, BF.out⟩
  · skip
    have e6 : (o.k == 6) = false := by rw [h1]; rfl
    have e9 : (o.k == 9) = false := by rw [h1]; rfl
    have e10 : (o.k == 10) = false := by rw [h1]; rfl
    have e8 : (o.k == 8) = false := by rw [h1]; rfl
    have e11 : (o.k == 11) = false := by rw [h1]; rfl
    have e12 : (o.k == 12) = false := by rw [h1]; rfl
    have HWS : joinW (([wd, nd] : List ByteArray).map (·.data.toList)) = textO o := by
      show joinW _ = joinW (wordO o.k :: dgs o.n :: moreO o)
      rw [moreO_0 (by omega) (by omega) (by omega) (by omega)]
      simp only [List.map_cons, List.map_nil, HTX.out.1, HTX.out.2.1]
    have JN := Lib.hid (pr_join o HOK.out _ _ [wd, nd] w5 J5.out.2 (by simp) (by simp) HWS)
    clear HWS h1
    have HB9 := Lib.hid (BX.out)
    go_wp2_with (first
      | (go_at_call 19; refine JN.out.mono ?_; rintro e w9 ⟨rfl, hb⟩; have BF := Lib.hid (HB9.out.trans (hb.mono HB9.out.size)); clear hb))
    go_ret2
    rw [HV.out.1, HV.out.2]
    exact ⟨rfl, BF.out⟩
  · skip
    have e6 : (o.k == 6) = false := by rw [h1]; rfl
    have e9 : (o.k == 9) = false := by rw [h1]; rfl
    have e10 : (o.k == 10) = false := by rw [h1]; rfl
    have e8 : (o.k == 8) = false := by rw [h1]; rfl
    have e11 : (o.k == 11) = false := by rw [h1]; rfl
    have e12 : (o.k == 12) = false := by rw [h1]; rfl
    have HWS : joinW (([wd, nd] : List ByteArray).map (·.data.toList)) = textO o := by
      show joinW _ = joinW (wordO o.k :: dgs o.n :: moreO o)
      rw [moreO_0 (by omega) (by omega) (by omega) (by omega)]
      simp only [List.map_cons, List.map_nil, HTX.out.1, HTX.out.2.1]
    have JN := Lib.hid (pr_join o HOK.out _ _ [wd, nd] w5 J5.out.2 (by simp) (by simp) HWS)
    clear HWS h1
    have HB9 := Lib.hid (BX.out)
    go_wp2_with (first
      | (go_at_call 19; refine JN.out.mono ?_; rintro e w9 ⟨rfl, hb⟩; have BF := Lib.hid (HB9.out.trans (hb.mono HB9.out.size)); clear hb))
    go_ret2
    rw [HV.out.1, HV.out.2]
    exact ⟨rfl, BF.out⟩
  · skip
    have e6 : (o.k == 6) = true := by rw [h1]; rfl
    obtain ⟨v', w', hrun, hown', hba, hgr⟩ := app_words w.heap.size _ [wd, nd] [md] w5 J5.out.2 (by have := B2.out.size; have := J5.out.1.size; omega) (by simp) (by simp) (by simp)
    have HR : Hid ((Builtin.append_ #[43, 43] 43 #[.slice (some ⟨G, 0, none⟩) 2 2, .slice (some ⟨w5.heap.size, 0, none⟩) 1 1]).run Tryz.prog (w5.alloc (.cells #[.string md] 9)) = .ok v' w') := Lib.hid hrun
    have HO := Lib.hid hown'
    have HWS : joinW (([wd, nd, md] : List ByteArray).map (·.data.toList)) = textO o := by
      show joinW _ = joinW (wordO o.k :: dgs o.n :: moreO o)
      rw [moreO_m (by omega)]
      simp only [List.map_cons, List.map_nil, HTX.out.1, HTX.out.2.1, HTX.out.2.2]
    have JN := Lib.hid (pr_join o HOK.out _ _ [wd, nd, md] w' HO.out (by simp) (by simp) HWS)
    clear HWS h1
    have HB9 := Lib.hid (have b6 := BX.out.trans (hba.mono BX.out.size); b6.grown hgr b6.size (fun k e => ((J5.out.2.kept (gbelow hba) (Classical.em _)).lt k e).1))
    go_wp2_with (first
      | (at_builtin; refine wpList_append_run rfl (.tmp 32) (.tmp 34) 43 43 rfl rfl rfl HR.out ?_)
      | (go_at_call 19; refine JN.out.mono ?_; rintro e w9 ⟨rfl, hb⟩; have BF := Lib.hid (HB9.out.trans (hb.mono HB9.out.size)); clear hb))
    go_ret2
    rw [HV.out.1, HV.out.2]
    exact ⟨rfl, BF.out⟩
  · skip
    have e6 : (o.k == 6) = false := by rw [h1]; rfl
    have e9 : (o.k == 9) = false := by rw [h1]; rfl
    have e10 : (o.k == 10) = false := by rw [h1]; rfl
    have e8 : (o.k == 8) = false := by rw [h1]; rfl
    have e11 : (o.k == 11) = false := by rw [h1]; rfl
    have e12 : (o.k == 12) = false := by rw [h1]; rfl
    have HWS : joinW (([wd, nd] : List ByteArray).map (·.data.toList)) = textO o := by
      show joinW _ = joinW (wordO o.k :: dgs o.n :: moreO o)
      rw [moreO_0 (by omega) (by omega) (by omega) (by omega)]
      simp only [List.map_cons, List.map_nil, HTX.out.1, HTX.out.2.1]
    have JN := Lib.hid (pr_join o HOK.out _ _ [wd, nd] w5 J5.out.2 (by simp) (by simp) HWS)
    clear HWS h1
    have HB9 := Lib.hid (BX.out)
    go_wp2_with (first
      | (go_at_call 19; refine JN.out.mono ?_; rintro e w9 ⟨rfl, hb⟩; have BF := Lib.hid (HB9.out.trans (hb.mono HB9.out.size)); clear hb))
    go_ret2
    rw [HV.out.1, HV.out.2]
    exact ⟨rfl, BF.out⟩
  · skip
    have e6 : (o.k == 6) = false := by rw [h1]; rfl
    have e9 : (o.k == 9) = false := by rw [h1]; rfl
    have e10 : (o.k == 10) = false := by rw [h1]; rfl
    have e8 : (o.k == 8) = true := by rw [h1]; rfl
    have hd : defOk o.d := by
      rcases opOk_cases HOK.out with ⟨g, _, _⟩ | ⟨g, _, _⟩ | ⟨g, _, _, _⟩ | ⟨_, _, _, gd, _⟩ | ⟨g, _, _, _⟩ | ⟨g, _, _, _⟩ | ⟨g, _, _, _, _⟩ <;> first | exact gd | (exfalso; omega)
    obtain ⟨xd, hxd⟩ : ∃ x : ByteArray, x = ⟨(textD o.d).toArray⟩ := ⟨_, rfl⟩
    have TD := (defText_any o.d A n m w5 C5.out.i.d (HE5.out _ (Below.refl _ _))).mono (R' := fun e w' => e = .returned (.tuple #[.string xd, .int .i64 0]) ∧ Below w5.heap.size w5 w') (fun e w' ⟨h, hb⟩ => by
      refine ⟨?_, hb⟩
      rcases h with ⟨_, h⟩ | ⟨h, _⟩
      · rw [hxd]; exact h
      · exact absurd hd h)
    unfold dV at TD
    have TD := Lib.hid TD
    have HXD : Hid (xd.data.toList = textD o.d) := Lib.hid (by rw [hxd])
    clear hxd hd
    have y6 : w5.cell? ⟨w.heap.size, 6, none⟩ = some (.string o.d.n) := C5.out.w.cell 6
    have y7 : w5.cell? ⟨w.heap.size, 7, none⟩ = some (.int .i64 o.d.r) := C5.out.w.cell 7
    have y8 : w5.cell? ⟨w.heap.size, 8, none⟩ = some (.int .i64 o.d.dl) := C5.out.w.cell 8
    have y9 : w5.cell? ⟨w.heap.size, 9, none⟩ = some (.slice A n m) := C5.out.w.cell 9
    go_upto_region 13 with (go_at_call 56; refine TD.out.mono ?_; rintro e w6 ⟨rfl, hb⟩; have J6 := Lib.hid (And.intro (BX.out.trans (hb.mono BX.out.size)) (J5.out.2.kept (gbelow hb) (Classical.em _))); clear hb TD y6 y7 y8 y9)
    obtain ⟨v', w', hrun, hown', hba, hgr⟩ := app_words w.heap.size _ [wd, nd] [md, xd] w6 J6.out.2 J6.out.1.size (by simp) (by simp) (by simp)
    have HR : Hid ((Builtin.append_ #[43, 43] 43 #[.slice (some ⟨G, 0, none⟩) 2 2, .slice (some ⟨w6.heap.size, 0, none⟩) 2 2]).run Tryz.prog (w6.alloc (.cells #[.string md, .string xd] 9)) = .ok v' w') := Lib.hid hrun
    have HO := Lib.hid hown'
    have HWS : joinW (([wd, nd, md, xd] : List ByteArray).map (·.data.toList)) = textO o := by
      show joinW _ = joinW (wordO o.k :: dgs o.n :: moreO o)
      rw [moreO_8 h1]
      simp only [List.map_cons, List.map_nil, HTX.out.1, HTX.out.2.1, HTX.out.2.2, HXD.out]
    have JN := Lib.hid (pr_join o HOK.out _ _ [wd, nd, md, xd] w' HO.out (by simp) (by simp) HWS)
    clear HWS h1
    have HB9 := Lib.hid (have b6 := J6.out.1.trans (hba.mono J6.out.1.size); b6.grown hgr b6.size (fun k e => ((J6.out.2.kept (gbelow hba) (Classical.em _)).lt k e).1))
    go_wp2_with (first
      | (at_builtin; refine wpList_append_run rfl (.tmp 44) (.tmp 47) 43 43 rfl rfl rfl HR.out ?_)
      | (go_at_call 19; refine JN.out.mono ?_; rintro e w9 ⟨rfl, hb⟩; have BF := Lib.hid (HB9.out.trans (hb.mono HB9.out.size)); clear hb))
    go_ret2
    rw [HV.out.1, HV.out.2]
    exact ⟨rfl, BF.out⟩
  · skip
    have e6 : (o.k == 6) = false := by rw [h1]; rfl
    have e9 : (o.k == 9) = true := by rw [h1]; rfl
    obtain ⟨v', w', hrun, hown', hba, hgr⟩ := app_words w.heap.size _ [wd, nd] [md] w5 J5.out.2 (by have := B2.out.size; have := J5.out.1.size; omega) (by simp) (by simp) (by simp)
    have HR : Hid ((Builtin.append_ #[43, 43] 43 #[.slice (some ⟨G, 0, none⟩) 2 2, .slice (some ⟨w5.heap.size, 0, none⟩) 1 1]).run Tryz.prog (w5.alloc (.cells #[.string md] 9)) = .ok v' w') := Lib.hid hrun
    have HO := Lib.hid hown'
    have HWS : joinW (([wd, nd, md] : List ByteArray).map (·.data.toList)) = textO o := by
      show joinW _ = joinW (wordO o.k :: dgs o.n :: moreO o)
      rw [moreO_m (by omega)]
      simp only [List.map_cons, List.map_nil, HTX.out.1, HTX.out.2.1, HTX.out.2.2]
    have JN := Lib.hid (pr_join o HOK.out _ _ [wd, nd, md] w' HO.out (by simp) (by simp) HWS)
    clear HWS h1
    have HB9 := Lib.hid (have b6 := BX.out.trans (hba.mono BX.out.size); b6.grown hgr b6.size (fun k e => ((J5.out.2.kept (gbelow hba) (Classical.em _)).lt k e).1))
    go_wp2_with (first
      | (at_builtin; refine wpList_append_run rfl (.tmp 32) (.tmp 34) 43 43 rfl rfl rfl HR.out ?_)
      | (go_at_call 19; refine JN.out.mono ?_; rintro e w9 ⟨rfl, hb⟩; have BF := Lib.hid (HB9.out.trans (hb.mono HB9.out.size)); clear hb))
    go_ret2
    rw [HV.out.1, HV.out.2]
    exact ⟨rfl, BF.out⟩
  · skip
    have e6 : (o.k == 6) = false := by rw [h1]; rfl
    have e9 : (o.k == 9) = false := by rw [h1]; rfl
    have e10 : (o.k == 10) = true := by rw [h1]; rfl
    obtain ⟨v', w', hrun, hown', hba, hgr⟩ := app_words w.heap.size _ [wd, nd] [md] w5 J5.out.2 (by have := B2.out.size; have := J5.out.1.size; omega) (by simp) (by simp) (by simp)
    have HR : Hid ((Builtin.append_ #[43, 43] 43 #[.slice (some ⟨G, 0, none⟩) 2 2, .slice (some ⟨w5.heap.size, 0, none⟩) 1 1]).run Tryz.prog (w5.alloc (.cells #[.string md] 9)) = .ok v' w') := Lib.hid hrun
    have HO := Lib.hid hown'
    have HWS : joinW (([wd, nd, md] : List ByteArray).map (·.data.toList)) = textO o := by
      show joinW _ = joinW (wordO o.k :: dgs o.n :: moreO o)
      rw [moreO_m (by omega)]
      simp only [List.map_cons, List.map_nil, HTX.out.1, HTX.out.2.1, HTX.out.2.2]
    have JN := Lib.hid (pr_join o HOK.out _ _ [wd, nd, md] w' HO.out (by simp) (by simp) HWS)
    clear HWS h1
    have HB9 := Lib.hid (have b6 := BX.out.trans (hba.mono BX.out.size); b6.grown hgr b6.size (fun k e => ((J5.out.2.kept (gbelow hba) (Classical.em _)).lt k e).1))
    go_wp2_with (first
      | (at_builtin; refine wpList_append_run rfl (.tmp 32) (.tmp 34) 43 43 rfl rfl rfl HR.out ?_)
      | (go_at_call 19; refine JN.out.mono ?_; rintro e w9 ⟨rfl, hb⟩; have BF := Lib.hid (HB9.out.trans (hb.mono HB9.out.size)); clear hb))
    go_ret2
    rw [HV.out.1, HV.out.2]
    exact ⟨rfl, BF.out⟩
  · skip
    have e6 : (o.k == 6) = false := by rw [h1]; rfl
    have e9 : (o.k == 9) = false := by rw [h1]; rfl
    have e10 : (o.k == 10) = false := by rw [h1]; rfl
    have e8 : (o.k == 8) = false := by rw [h1]; rfl
    have e11 : (o.k == 11) = true := by rw [h1]; rfl
    have y3 : w5.cell? ⟨w.heap.size, 3, none⟩ = some (.string o.key) := C5.out.w.cell 3
    obtain ⟨v', w', hrun, hown', hba, hgr⟩ := app_words w.heap.size _ [wd, nd] [o.key] w5 J5.out.2 (by have := B2.out.size; have := J5.out.1.size; omega) (by simp) (by simp) (by simp)
    have HR : Hid ((Builtin.append_ #[43, 43] 43 #[.slice (some ⟨G, 0, none⟩) 2 2, .slice (some ⟨w5.heap.size, 0, none⟩) 1 1]).run Tryz.prog (w5.alloc (.cells #[.string o.key] 9)) = .ok v' w') := Lib.hid hrun
    have HO := Lib.hid hown'
    have HWS : joinW (([wd, nd, o.key] : List ByteArray).map (·.data.toList)) = textO o := by
      show joinW _ = joinW (wordO o.k :: dgs o.n :: moreO o)
      rw [moreO_11 h1]
      simp only [List.map_cons, List.map_nil, HTX.out.1, HTX.out.2.1]
    have JN := Lib.hid (pr_join o HOK.out _ _ [wd, nd, o.key] w' HO.out (by simp) (by simp) HWS)
    clear HWS h1
    have HB9 := Lib.hid (have b6 := BX.out.trans (hba.mono BX.out.size); b6.grown hgr b6.size (fun k e => ((J5.out.2.kept (gbelow hba) (Classical.em _)).lt k e).1))
    go_wp2_with (first
      | (at_builtin; refine wpList_append_run rfl (.tmp 51) (.tmp 54) 43 43 rfl rfl rfl HR.out ?_)
      | (go_at_call 19; refine JN.out.mono ?_; rintro e w9 ⟨rfl, hb⟩; have BF := Lib.hid (HB9.out.trans (hb.mono HB9.out.size)); clear hb))
    go_ret2
    rw [HV.out.1, HV.out.2]
    exact ⟨rfl, BF.out⟩
  · skip
    have e6 : (o.k == 6) = false := by rw [h1]; rfl
    have e9 : (o.k == 9) = false := by rw [h1]; rfl
    have e10 : (o.k == 10) = false := by rw [h1]; rfl
    have e8 : (o.k == 8) = false := by rw [h1]; rfl
    have e11 : (o.k == 11) = false := by rw [h1]; rfl
    have e12 : (o.k == 12) = true := by rw [h1]; rfl
    have hd : okR o.f o.t = true := by
      rcases opOk_cases HOK.out with ⟨g, _, _⟩ | ⟨g, _, _⟩ | ⟨g, _, _, _⟩ | ⟨g, _, _, _, _⟩ | ⟨g, _, _, _⟩ | ⟨g, _, _, _⟩ | ⟨_, _, _, gd, _⟩ <;> first | exact gd | (exfalso; omega)
    have TD := Lib.hid (Rg.text_yes o.f o.t w5 hd)
    clear hd
    have y4 : w5.cell? ⟨w.heap.size, 4, none⟩ = some (.string o.f) := C5.out.w.cell 4
    have y5 : w5.cell? ⟨w.heap.size, 5, none⟩ = some (.string o.t) := C5.out.w.cell 5
    go_upto_region 18 with (go_at_call 57; refine TD.out.mono ?_; rintro e w6 ⟨⟨xd, hxd, rfl⟩, hb⟩; have HXD := Lib.hid hxd; have J6 := Lib.hid (And.intro (BX.out.trans (hb.mono BX.out.size)) (J5.out.2.kept (gbelow hb) (Classical.em _))); clear hb hxd TD y4 y5)
    obtain ⟨v', w', hrun, hown', hba, hgr⟩ := app_words w.heap.size _ [wd, nd] [xd, md] w6 J6.out.2 J6.out.1.size (by simp) (by simp) (by simp)
    have HR : Hid ((Builtin.append_ #[43, 43] 43 #[.slice (some ⟨G, 0, none⟩) 2 2, .slice (some ⟨w6.heap.size, 0, none⟩) 2 2]).run Tryz.prog (w6.alloc (.cells #[.string xd, .string md] 9)) = .ok v' w') := Lib.hid hrun
    have HO := Lib.hid hown'
    have HWS : joinW (([wd, nd, xd, md] : List ByteArray).map (·.data.toList)) = textO o := by
      show joinW _ = joinW (wordO o.k :: dgs o.n :: moreO o)
      rw [moreO_12 h1]
      simp only [List.map_cons, List.map_nil, HTX.out.1, HTX.out.2.1, HTX.out.2.2, HXD.out]
    have JN := Lib.hid (pr_join o HOK.out _ _ [wd, nd, xd, md] w' HO.out (by simp) (by simp) HWS)
    clear HWS h1
    have HB9 := Lib.hid (have b6 := J6.out.1.trans (hba.mono J6.out.1.size); b6.grown hgr b6.size (fun k e => ((J6.out.2.kept (gbelow hba) (Classical.em _)).lt k e).1))
    go_wp2_with (first
      | (at_builtin; refine wpList_append_run rfl (.tmp 64) (.tmp 67) 43 43 rfl rfl rfl HR.out ?_)
      | (go_at_call 19; refine JN.out.mono ?_; rintro e w9 ⟨rfl, hb⟩; have BF := Lib.hid (HB9.out.trans (hb.mono HB9.out.size)); clear hb))
    go_ret2
    rw [HV.out.1, HV.out.2]
    exact ⟨rfl, BF.out⟩
end Go.Proofs.YtojodekmmkemgaaGreatDoor
