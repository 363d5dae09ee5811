/- The text of a command, by the reference. Condition: sizes as a machine's integers can say. -/
import Derived.Test.YtgjnmfmbheejoaaGreatDoorCmRk
import Derived.Test.YtgjnmfmbheejoaaGreatDoorCmDig
import Derived.Test.YtgjnmfmbheejoaaGreatDoorCmTxt
import Derived.Test.YtgjnmfmbheejoaaGreatDoorCmIdn
import Derived.Test.YtgjnmfmbheejoaaGreatDoorRgA
namespace Go.Proofs.YtgjnmfmbheejoaaGreatDoor
open Go.RowKit Go.Shelf

theorem skeep1 {w0 wc w2 : World} {B : Nat} {a : Addr} {x : Value} (hH : wc.cell? a = some x ∧ Below B w0 wc ∧ B ≤ wc.heap.size) (hb : Below wc.heap.size wc w2) : w2.cell? a = some x ∧ Below B w0 w2 ∧ B ≤ w2.heap.size :=
  ⟨bcell hH.1 hb, hH.2.1.trans (hb.mono hH.2.2), Nat.le_trans hH.2.2 hb.size⟩
theorem skeep2 {w0 wc w2 : World} {B : Nat} {a b : Addr} {x y : Value} (hH : wc.cell? a = some x ∧ wc.cell? b = some y ∧ Below B w0 wc ∧ B ≤ wc.heap.size) (hb : Below wc.heap.size wc w2) : w2.cell? a = some x ∧ w2.cell? b = some y ∧ Below B w0 w2 ∧ B ≤ w2.heap.size :=
  ⟨bcell hH.1 hb, skeep1 hH.2 hb⟩
theorem okR_of {c : Cv} (h : cmdOk c) : okR c.f c.t = true := by
  obtain ⟨l, h1, h2, h3⟩ := h
  have h0 : okR (⟨#[]⟩ : ByteArray) ⟨#[]⟩ = true := by decide +kernel
  have hz : ∀ {l : List Fl}, clrA l c = zeroC c.k → (clrA l c).f = c.f → (clrA l c).t = c.t → okR c.f c.t = true := fun {l} e e1 e2 => by
    rw [← e1, ← e2, e]
    exact h0
  rcases fieldsK_some h1 with ⟨_, rfl⟩ | ⟨_, rfl⟩ | ⟨_, rfl⟩ | ⟨_, rfl⟩ | ⟨_, rfl⟩ | ⟨_, rfl⟩ | ⟨_, rfl⟩ | ⟨_, rfl⟩ | ⟨_, rfl⟩ | ⟨_, rfl⟩
  · exact hz h3 rfl rfl
  · exact hz h3 rfl rfl
  · exact hz h3 rfl rfl
  · exact h2 .rng (by simp)
  · exact h2 .rng (by simp)
  · exact hz h3 rfl rfl
  · exact hz h3 rfl rfl
  · exact hz h3 rfl rfl
  · exact h2 .rng (by simp)
  · exact hz h3 rfl rfl
theorem ba_of {t : ByteArray} {l : List UInt8} (h : t.data.toList = l) : t = ⟨l.toArray⟩ := by rw [← h, ba_eta]
set_option maxRecDepth 100000 in
set_option maxHeartbeats 2000000 in
theorem rctx_no (c : Cv) (A : Option Addr) (n m : Nat) (w : World) (h : CmdIn w c A n m) (hok : ¬ cmdOk c) :
    Calls Tryz.prog 29 #[.agg (cA c A n m)] w fun e w' => TxtCR c w w' e := by
  have B1 := Lib.hid ((Below.refl w.heap.size w).alloc (Nat.le_refl _) (.cells (cA c A n m) 36))
  have C1 := Lib.hid (CmdAt.new h)
  have CK := rcheck_any c A n m _ C1.out.i
  rw [ckC_no hok] at CK
  have CK := Lib.hid CK
  have HV : Hid (txtC c = [] ∧ ckC c = 2) := Lib.hid ⟨txtC_no hok, ckC_no hok⟩
  clear hok h
  go_enter Tryz.func29, Tryz.ntmps29
  go_wp2_with (first
    | (refine wpList_load_row rfl 36 (.tmp 1) rfl _ rfl 36 (cA c A n m) (0, 0) _ C1.out.w Tryz.underlying36 rfl (info24 c A n m) ?_)
    | (go_at_call 31; refine CK.out.mono ?_; rintro e w2 ⟨rfl, hb⟩; have B2 := Lib.hid (B1.out.trans (hb.mono B1.out.size)); clear hb))
  go_ret2
  unfold TxtCR
  rw [HV.out.1, HV.out.2]
  exact ⟨rfl, B2.out⟩

set_option maxRecDepth 100000 in
set_option maxHeartbeats 8000000 in
theorem rctx_0 (c : Cv) (A : Option Addr) (n m : Nat) (w : World) (h : CmdIn w c A n m) (hok : cmdOk c) (hk : c.k = 0) :
    Calls Tryz.prog 29 #[.agg (cA c A n m)] w fun e w' => TxtCR c w w' e := by
  have B1 := Lib.hid ((Below.refl w.heap.size w).alloc (Nat.le_refl _) (.cells (cA c A n m) 36))
  have C1 := Lib.hid (CmdAt.new h)
  have CK := rcheck_any c A n m _ C1.out.i
  rw [ckC_yes hok] at CK
  have CK := Lib.hid CK
  have RT := Lib.hid (fun W => Rg.refText_yes c.f c.t W (okR_of hok))
  have hgR := okR_of hok
  have gf := okS_len (okR_left hgR)
  have gt := okS_len (okR_right hgR)
  have HV : Hid (ckC c = 0 ∧ txtC c = textC c) := Lib.hid ⟨ckC_yes hok, txtC_yes hok⟩
  have hall : ∀ x ∈ ([] : List Fl), okF x c := by
    obtain ⟨l0, hf, hall, _⟩ := hok
    rw [hk] at hf
    cases hf
    exact hall
  have HK := Lib.hid (fun (W : World) (B : Nat) (h : CmdAt W B c A n m) => (show W.cell? ⟨B, 0, none⟩ = some (.int .i64 0) by have : _ = some (Value.int .i64 c.k) := h.w.cell 0; rw [hk] at this; exact this))
  have HTX : Hid (textC c = joinW ((wordK 0) :: ([] : List Fl).map (textF · c))) := Lib.hid (by unfold textC partsC; rw [hk]; rfl)
  clear hall hok hk hgR
  go_enter Tryz.func29, Tryz.ntmps29
  go_upto_region 1 with fail
  generalize w.alloc (.cells (cA c A n m) 36) = w1 at B1 C1 CK ⊢
  go_upto_region 3 with (first
    | (refine wpList_load_row rfl 36 (.tmp 1) rfl _ rfl 36 (cA c A n m) (0, 0) _ C1.out.w Tryz.underlying36 rfl (info24 c A n m) ?_)
    | (go_at_call 31; refine CK.out.mono ?_; rintro e w2 ⟨rfl, hb⟩; have B2 := Lib.hid (B1.out.trans (hb.mono B1.out.size)); have C2 := Lib.hid (C1.out.keep hb); have y0 : w2.cell? ⟨w.heap.size, 9, none⟩ = some (.string c.f) := C2.out.w.cell 9; have y1 : w2.cell? ⟨w.heap.size, 10, none⟩ = some (.string c.t) := C2.out.w.cell 10; clear hb CK))
  clear B1 C1
  go_upto_region 4 with (go_at_call 78; refine (RT.out _).mono ?_; rintro e w3 ⟨⟨sp, hsp, rfl⟩, hb⟩; have I3 := Lib.hid (And.intro (B2.out.trans (hb.mono B2.out.size)) (C2.out.keep hb)); have HSP := Lib.hid hsp; have yk := HK.out w3 _ I3.out.2; clear hb RT hsp y0 y1)
  clear B2 C2
  have zsp : sp.size ≤ 64 := by rw [Lib.size_eq, HSP.out]; unfold rtxt; simp only [List.length_append, List.length_cons, List.length_nil]; omega
  clear zsp HSP
  go_wp2_with fail
  go_ret2
  unfold TxtCR
  rw [HV.out.1, HV.out.2, HTX.out]
  exact ⟨rfl, I3.out.1⟩
set_option maxRecDepth 100000 in
set_option maxHeartbeats 8000000 in
theorem rctx_1 (c : Cv) (A : Option Addr) (n m : Nat) (w : World) (h : CmdIn w c A n m) (hok : cmdOk c) (hk : c.k = 1) :
    Calls Tryz.prog 29 #[.agg (cA c A n m)] w fun e w' => TxtCR c w w' e := by
  have B1 := Lib.hid ((Below.refl w.heap.size w).alloc (Nat.le_refl _) (.cells (cA c A n m) 36))
  have C1 := Lib.hid (CmdAt.new h)
  have CK := rcheck_any c A n m _ C1.out.i
  rw [ckC_yes hok] at CK
  have CK := Lib.hid CK
  have RT := Lib.hid (fun W => Rg.refText_yes c.f c.t W (okR_of hok))
  have hgR := okR_of hok
  have gf := okS_len (okR_left hgR)
  have gt := okS_len (okR_right hgR)
  have HV : Hid (ckC c = 0 ∧ txtC c = textC c) := Lib.hid ⟨ckC_yes hok, txtC_yes hok⟩
  have hall : ∀ x ∈ ([.eff, .key, .dl] : List Fl), okF x c := by
    obtain ⟨l0, hf, hall, _⟩ := hok
    rw [hk] at hf
    cases hf
    exact hall
  have HK := Lib.hid (fun (W : World) (B : Nat) (h : CmdAt W B c A n m) => (show W.cell? ⟨B, 0, none⟩ = some (.int .i64 1) by have : _ = some (Value.int .i64 c.k) := h.w.cell 0; rw [hk] at this; exact this))
  have HTX : Hid (textC c = joinW ((wordK 1) :: ([.eff, .key, .dl] : List Fl).map (textF · c))) := Lib.hid (by unfold textC partsC; rw [hk]; rfl)
  have o_eff := hall .eff (by simp)
  have o_key := hall .key (by simp)
  have o_dl := hall .dl (by simp)
  obtain ⟨b_dl0, b_dl1, b_dl2⟩ := id o_dl
  have d_dl := sgn_le (v := c.dl) (by omega) (by omega)
  have SG := Lib.hid (fun W => rsigned_any c.dl W b_dl0 b_dl1 b_dl2)
  have gk := (isName_len o_key).2.1
  rw [← Lib.size_eq] at gk
  have d_eff := textF_len (x := .eff) (c := c) o_eff
  have RE := fun W => Id.refEffect_yes c.ea c.eb c.ec W o_eff
  obtain ⟨se, hse⟩ : ∃ s : ByteArray, s = ⟨(effText c.ea c.eb c.ec).toArray⟩ := ⟨_, rfl⟩
  rw [← hse] at RE
  have RE := Lib.hid RE
  have zse : se.size ≤ 460 := by rw [hse, Lib.size_mk]; exact d_eff
  have HSE : Hid (se.data.toList = effText c.ea c.eb c.ec) := Lib.hid (by rw [hse])
  clear hse d_eff
  clear hall hok hk hgR
  go_enter Tryz.func29, Tryz.ntmps29
  go_upto_region 1 with fail
  generalize w.alloc (.cells (cA c A n m) 36) = w1 at B1 C1 CK ⊢
  go_upto_region 3 with (first
    | (refine wpList_load_row rfl 36 (.tmp 1) rfl _ rfl 36 (cA c A n m) (0, 0) _ C1.out.w Tryz.underlying36 rfl (info24 c A n m) ?_)
    | (go_at_call 31; refine CK.out.mono ?_; rintro e w2 ⟨rfl, hb⟩; have B2 := Lib.hid (B1.out.trans (hb.mono B1.out.size)); have C2 := Lib.hid (C1.out.keep hb); have y0 : w2.cell? ⟨w.heap.size, 9, none⟩ = some (.string c.f) := C2.out.w.cell 9; have y1 : w2.cell? ⟨w.heap.size, 10, none⟩ = some (.string c.t) := C2.out.w.cell 10; clear hb CK))
  clear B1 C1
  go_upto_region 4 with (go_at_call 78; refine (RT.out _).mono ?_; rintro e w3 ⟨⟨sp, hsp, rfl⟩, hb⟩; have I3 := Lib.hid (And.intro (B2.out.trans (hb.mono B2.out.size)) (C2.out.keep hb)); have HSP := Lib.hid hsp; have yk := HK.out w3 _ I3.out.2; clear hb RT hsp y0 y1)
  clear B2 C2
  have zsp : sp.size ≤ 64 := by rw [Lib.size_eq, HSP.out]; unfold rtxt; simp only [List.length_append, List.length_cons, List.length_nil]; omega
  go_upto_region 5 with fail
  have z0 : w3.cell? ⟨w.heap.size, 3, none⟩ = some (.int .i64 c.ea) := I3.out.2.w.cell 3
  have z1 : w3.cell? ⟨w.heap.size, 4, none⟩ = some (.int .i64 c.eb) := I3.out.2.w.cell 4
  have z2 : w3.cell? ⟨w.heap.size, 5, none⟩ = some (.int .i64 c.ec) := I3.out.2.w.cell 5
  go_upto_region 7 with (go_at_call 79; refine (RE.out _).mono ?_; rintro e w4 ⟨rfl, hb⟩; clear yk z0 z1 z2; have I4 := Lib.hid (And.intro (I3.out.1.trans (hb.mono I3.out.1.size)) (I3.out.2.keep hb)); clear hb RE)
  clear I3
  have zw : (⟨#[101, 102, 102, 101, 99, 116, 32]⟩ : ByteArray).size = 7 := rfl
  have z32 : (⟨#[32]⟩ : ByteArray).size = 1 := rfl
  have zq4 : (⟨(sgn c.dl).toArray⟩ : ByteArray).size = ((sgn c.dl)).length := Lib.size_mk _
  obtain ⟨t0, e0, m0, s0⟩ := add_ba ⟨#[101, 102, 102, 101, 99, 116, 32]⟩ se (by omega)
  obtain ⟨t1, e1, m1, s1⟩ := add_ba t0 ⟨#[32]⟩ (by omega)
  obtain ⟨t2, e2, m2, s2⟩ := add_ba t1 c.key (by omega)
  obtain ⟨t3, e3, m3, s3⟩ := add_ba t2 ⟨#[32]⟩ (by omega)
  obtain ⟨t4, e4, m4, s4⟩ := add_ba t3 ⟨(sgn c.dl).toArray⟩ (by omega)
  have HT : Hid (t4 = ⟨(textC c).toArray⟩) := Lib.hid (ba_of (by rw [e4.out, e3.out, e2.out, e1.out, e0.out, HSE.out, HTX.out]; simp [joinW, wordK, textF]))
  clear m0 e0 m1 e1 m2 e2 m3 e3 m4 e4 zw z32 zsp HSP zse HSE
  have SA : Hid (w4.drew.cell? ⟨w.heap.size, 6, none⟩ = some (.string c.key) ∧ w4.drew.cell? ⟨w.heap.size, 7, none⟩ = some (.int .i64 c.dl) ∧ Below w.heap.size w w4.drew ∧ w.heap.size ≤ w4.drew.heap.size) := Lib.hid ⟨I4.out.2.w.cell 6, I4.out.2.w.cell 7, I4.out.1.drew, I4.out.1.size⟩
  clear I4
  go_region_held3 (fun wx => wx.cell? ⟨w.heap.size, 6, none⟩ = some (.string c.key) ∧ wx.cell? ⟨w.heap.size, 7, none⟩ = some (.int .i64 c.dl) ∧ Below w.heap.size w wx ∧ w.heap.size ≤ wx.heap.size)
    (first | exact SA.out | assumption | (refine skeep2 ?_ hb2; assumption))
    (first | (go_at_call 80; refine (SG.out _).mono ?_; rintro e w5 ⟨rfl, hb2⟩))
  rename_i hF
  have BF := Lib.hid hF.2.2.1
  clear hF
  go_wp2_with fail
  go_ret2
  unfold TxtCR
  rw [HV.out.1, HV.out.2, ← HT.out]
  exact ⟨rfl, BF.out⟩
set_option maxRecDepth 100000 in
set_option maxHeartbeats 8000000 in
theorem rctx_2 (c : Cv) (A : Option Addr) (n m : Nat) (w : World) (h : CmdIn w c A n m) (hok : cmdOk c) (hk : c.k = 2) :
    Calls Tryz.prog 29 #[.agg (cA c A n m)] w fun e w' => TxtCR c w w' e := by
  have B1 := Lib.hid ((Below.refl w.heap.size w).alloc (Nat.le_refl _) (.cells (cA c A n m) 36))
  have C1 := Lib.hid (CmdAt.new h)
  have CK := rcheck_any c A n m _ C1.out.i
  rw [ckC_yes hok] at CK
  have CK := Lib.hid CK
  have RT := Lib.hid (fun W => Rg.refText_yes c.f c.t W (okR_of hok))
  have hgR := okR_of hok
  have gf := okS_len (okR_left hgR)
  have gt := okS_len (okR_right hgR)
  have HV : Hid (ckC c = 0 ∧ txtC c = textC c) := Lib.hid ⟨ckC_yes hok, txtC_yes hok⟩
  have hall : ∀ x ∈ ([.call, .key] : List Fl), okF x c := by
    obtain ⟨l0, hf, hall, _⟩ := hok
    rw [hk] at hf
    cases hf
    exact hall
  have HK := Lib.hid (fun (W : World) (B : Nat) (h : CmdAt W B c A n m) => (show W.cell? ⟨B, 0, none⟩ = some (.int .i64 2) by have : _ = some (Value.int .i64 c.k) := h.w.cell 0; rw [hk] at this; exact this))
  have HTX : Hid (textC c = joinW ((wordK 2) :: ([.call, .key] : List Fl).map (textF · c))) := Lib.hid (by unfold textC partsC; rw [hk]; rfl)
  have o_call := hall .call (by simp)
  have o_key := hall .key (by simp)
  obtain ⟨b_call1, b_call2⟩ := id o_call
  have d_call := dgs_le (a := c.call) (by omega)
  have gk := (isName_len o_key).2.1
  rw [← Lib.size_eq] at gk
  clear hall hok hk hgR
  go_enter Tryz.func29, Tryz.ntmps29
  go_upto_region 1 with fail
  generalize w.alloc (.cells (cA c A n m) 36) = w1 at B1 C1 CK ⊢
  go_upto_region 3 with (first
    | (refine wpList_load_row rfl 36 (.tmp 1) rfl _ rfl 36 (cA c A n m) (0, 0) _ C1.out.w Tryz.underlying36 rfl (info24 c A n m) ?_)
    | (go_at_call 31; refine CK.out.mono ?_; rintro e w2 ⟨rfl, hb⟩; have B2 := Lib.hid (B1.out.trans (hb.mono B1.out.size)); have C2 := Lib.hid (C1.out.keep hb); have y0 : w2.cell? ⟨w.heap.size, 9, none⟩ = some (.string c.f) := C2.out.w.cell 9; have y1 : w2.cell? ⟨w.heap.size, 10, none⟩ = some (.string c.t) := C2.out.w.cell 10; clear hb CK))
  clear B1 C1
  go_upto_region 4 with (go_at_call 78; refine (RT.out _).mono ?_; rintro e w3 ⟨⟨sp, hsp, rfl⟩, hb⟩; have I3 := Lib.hid (And.intro (B2.out.trans (hb.mono B2.out.size)) (C2.out.keep hb)); have HSP := Lib.hid hsp; have yk := HK.out w3 _ I3.out.2; clear hb RT hsp y0 y1)
  clear B2 C2
  have zsp : sp.size ≤ 64 := by rw [Lib.size_eq, HSP.out]; unfold rtxt; simp only [List.length_append, List.length_cons, List.length_nil]; omega
  go_upto_region 9 with fail
  clear yk
  have zw : (⟨#[114, 101, 97, 100, 32]⟩ : ByteArray).size = 5 := rfl
  have z32 : (⟨#[32]⟩ : ByteArray).size = 1 := rfl
  have zq0 : (⟨(dgs c.call).toArray⟩ : ByteArray).size = ((dgs c.call)).length := Lib.size_mk _
  obtain ⟨t0, e0, m0, s0⟩ := add_ba ⟨#[114, 101, 97, 100, 32]⟩ ⟨(dgs c.call).toArray⟩ (by omega)
  obtain ⟨t1, e1, m1, s1⟩ := add_ba t0 ⟨#[32]⟩ (by omega)
  obtain ⟨t2, e2, m2, s2⟩ := add_ba t1 c.key (by omega)
  have HT : Hid (t2 = ⟨(textC c).toArray⟩) := Lib.hid (ba_of (by rw [e2.out, e1.out, e0.out, HTX.out]; simp [joinW, wordK, textF]))
  clear m0 e0 m1 e1 m2 e2 zw z32 zsp HSP
  have SA : Hid (w3.drew.cell? ⟨w.heap.size, 1, none⟩ = some (.int .i64 c.call) ∧ w3.drew.cell? ⟨w.heap.size, 6, none⟩ = some (.string c.key) ∧ Below w.heap.size w w3.drew ∧ w.heap.size ≤ w3.drew.heap.size) := Lib.hid ⟨I3.out.2.w.cell 1, I3.out.2.w.cell 6, I3.out.1.drew, I3.out.1.size⟩
  clear I3
  go_region_held3 (fun wx => wx.cell? ⟨w.heap.size, 1, none⟩ = some (.int .i64 c.call) ∧ wx.cell? ⟨w.heap.size, 6, none⟩ = some (.string c.key) ∧ Below w.heap.size w wx ∧ w.heap.size ≤ wx.heap.size)
    (first | exact SA.out | assumption | (refine skeep2 ?_ hb2; assumption))
    (first | (go_at_call 81; refine (digitsC_any _ _ (by omega) (by omega)).mono ?_; rintro e w5 ⟨rfl, hb2⟩))
  rename_i hF
  have BF := Lib.hid hF.2.2.1
  clear hF
  go_wp2_with fail
  go_ret2
  unfold TxtCR
  rw [HV.out.1, HV.out.2, ← HT.out]
  exact ⟨rfl, BF.out⟩
set_option maxRecDepth 100000 in
set_option maxHeartbeats 8000000 in
theorem rctx_3 (c : Cv) (A : Option Addr) (n m : Nat) (w : World) (h : CmdIn w c A n m) (hok : cmdOk c) (hk : c.k = 3) :
    Calls Tryz.prog 29 #[.agg (cA c A n m)] w fun e w' => TxtCR c w w' e := by
  have B1 := Lib.hid ((Below.refl w.heap.size w).alloc (Nat.le_refl _) (.cells (cA c A n m) 36))
  have C1 := Lib.hid (CmdAt.new h)
  have CK := rcheck_any c A n m _ C1.out.i
  rw [ckC_yes hok] at CK
  have CK := Lib.hid CK
  have RT := Lib.hid (fun W => Rg.refText_yes c.f c.t W (okR_of hok))
  have hgR := okR_of hok
  have gf := okS_len (okR_left hgR)
  have gt := okS_len (okR_right hgR)
  have HV : Hid (ckC c = 0 ∧ txtC c = textC c) := Lib.hid ⟨ckC_yes hok, txtC_yes hok⟩
  have hall : ∀ x ∈ ([.mv, .rng] : List Fl), okF x c := by
    obtain ⟨l0, hf, hall, _⟩ := hok
    rw [hk] at hf
    cases hf
    exact hall
  have HK := Lib.hid (fun (W : World) (B : Nat) (h : CmdAt W B c A n m) => (show W.cell? ⟨B, 0, none⟩ = some (.int .i64 3) by have : _ = some (Value.int .i64 c.k) := h.w.cell 0; rw [hk] at this; exact this))
  have HTX : Hid (textC c = joinW ((wordK 3) :: ([.mv, .rng] : List Fl).map (textF · c))) := Lib.hid (by unfold textC partsC; rw [hk]; rfl)
  have o_mv := hall .mv (by simp)
  have o_rng := hall .rng (by simp)
  obtain ⟨b_mv1, b_mv2⟩ := id o_mv
  have d_mv := dgs_le (a := c.mv) (by omega)
  clear hall hok hk hgR
  go_enter Tryz.func29, Tryz.ntmps29
  go_upto_region 1 with fail
  generalize w.alloc (.cells (cA c A n m) 36) = w1 at B1 C1 CK ⊢
  go_upto_region 3 with (first
    | (refine wpList_load_row rfl 36 (.tmp 1) rfl _ rfl 36 (cA c A n m) (0, 0) _ C1.out.w Tryz.underlying36 rfl (info24 c A n m) ?_)
    | (go_at_call 31; refine CK.out.mono ?_; rintro e w2 ⟨rfl, hb⟩; have B2 := Lib.hid (B1.out.trans (hb.mono B1.out.size)); have C2 := Lib.hid (C1.out.keep hb); have y0 : w2.cell? ⟨w.heap.size, 9, none⟩ = some (.string c.f) := C2.out.w.cell 9; have y1 : w2.cell? ⟨w.heap.size, 10, none⟩ = some (.string c.t) := C2.out.w.cell 10; clear hb CK))
  clear B1 C1
  go_upto_region 4 with (go_at_call 78; refine (RT.out _).mono ?_; rintro e w3 ⟨⟨sp, hsp, rfl⟩, hb⟩; have I3 := Lib.hid (And.intro (B2.out.trans (hb.mono B2.out.size)) (C2.out.keep hb)); have HSP := Lib.hid hsp; have yk := HK.out w3 _ I3.out.2; clear hb RT hsp y0 y1)
  clear B2 C2
  have zsp : sp.size ≤ 64 := by rw [Lib.size_eq, HSP.out]; unfold rtxt; simp only [List.length_append, List.length_cons, List.length_nil]; omega
  go_upto_region 11 with fail
  clear yk
  have zw : (⟨#[111, 117, 116, 32]⟩ : ByteArray).size = 4 := rfl
  have z32 : (⟨#[32]⟩ : ByteArray).size = 1 := rfl
  have zq0 : (⟨(dgs c.mv).toArray⟩ : ByteArray).size = ((dgs c.mv)).length := Lib.size_mk _
  obtain ⟨t0, e0, m0, s0⟩ := add_ba ⟨#[111, 117, 116, 32]⟩ ⟨(dgs c.mv).toArray⟩ (by omega)
  obtain ⟨t1, e1, m1, s1⟩ := add_ba t0 ⟨#[32]⟩ (by omega)
  obtain ⟨t2, e2, m2, s2⟩ := add_ba t1 sp (by omega)
  have HT : Hid (t2 = ⟨(textC c).toArray⟩) := Lib.hid (ba_of (by rw [e2.out, e1.out, e0.out, HSP.out, HTX.out]; simp [joinW, wordK, textF]))
  clear m0 e0 m1 e1 m2 e2 zw z32 zsp HSP
  have y0 : w3.cell? ⟨w.heap.size, 8, none⟩ = some (.int .i64 c.mv) := I3.out.2.w.cell 8
  go_wp2_with (go_at_call 81; refine (digitsC_any _ _ (by omega) (by omega)).mono ?_; rintro e w5 ⟨rfl, hb⟩; have BF := Lib.hid (I3.out.1.trans (hb.mono I3.out.1.size)); clear hb)
  go_ret2
  unfold TxtCR
  rw [HV.out.1, HV.out.2, ← HT.out]
  exact ⟨rfl, BF.out⟩
set_option maxRecDepth 100000 in
set_option maxHeartbeats 8000000 in
theorem rctx_4 (c : Cv) (A : Option Addr) (n m : Nat) (w : World) (h : CmdIn w c A n m) (hok : cmdOk c) (hk : c.k = 4) :
    Calls Tryz.prog 29 #[.agg (cA c A n m)] w fun e w' => TxtCR c w w' e := by
  have B1 := Lib.hid ((Below.refl w.heap.size w).alloc (Nat.le_refl _) (.cells (cA c A n m) 36))
  have C1 := Lib.hid (CmdAt.new h)
  have CK := rcheck_any c A n m _ C1.out.i
  rw [ckC_yes hok] at CK
  have CK := Lib.hid CK
  have RT := Lib.hid (fun W => Rg.refText_yes c.f c.t W (okR_of hok))
  have hgR := okR_of hok
  have gf := okS_len (okR_left hgR)
  have gt := okS_len (okR_right hgR)
  have HV : Hid (ckC c = 0 ∧ txtC c = textC c) := Lib.hid ⟨ckC_yes hok, txtC_yes hok⟩
  have hall : ∀ x ∈ ([.mv, .rng, .data] : List Fl), okF x c := by
    obtain ⟨l0, hf, hall, _⟩ := hok
    rw [hk] at hf
    cases hf
    exact hall
  have HK := Lib.hid (fun (W : World) (B : Nat) (h : CmdAt W B c A n m) => (show W.cell? ⟨B, 0, none⟩ = some (.int .i64 4) by have : _ = some (Value.int .i64 c.k) := h.w.cell 0; rw [hk] at this; exact this))
  have HTX : Hid (textC c = joinW ((wordK 4) :: ([.mv, .rng, .data] : List Fl).map (textF · c))) := Lib.hid (by unfold textC partsC; rw [hk]; rfl)
  have o_mv := hall .mv (by simp)
  have o_rng := hall .rng (by simp)
  have o_data := hall .data (by simp)
  obtain ⟨b_mv1, b_mv2⟩ := id o_mv
  have d_mv := dgs_le (a := c.mv) (by omega)
  have gd : c.data.size ≤ 65536 := o_data
  have d_data := dgs_le (a := (c.data.size : Int)) (by omega)
  clear hall hok hk hgR
  go_enter Tryz.func29, Tryz.ntmps29
  go_upto_region 1 with fail
  generalize w.alloc (.cells (cA c A n m) 36) = w1 at B1 C1 CK ⊢
  go_upto_region 3 with (first
    | (refine wpList_load_row rfl 36 (.tmp 1) rfl _ rfl 36 (cA c A n m) (0, 0) _ C1.out.w Tryz.underlying36 rfl (info24 c A n m) ?_)
    | (go_at_call 31; refine CK.out.mono ?_; rintro e w2 ⟨rfl, hb⟩; have B2 := Lib.hid (B1.out.trans (hb.mono B1.out.size)); have C2 := Lib.hid (C1.out.keep hb); have y0 : w2.cell? ⟨w.heap.size, 9, none⟩ = some (.string c.f) := C2.out.w.cell 9; have y1 : w2.cell? ⟨w.heap.size, 10, none⟩ = some (.string c.t) := C2.out.w.cell 10; clear hb CK))
  clear B1 C1
  go_upto_region 4 with (go_at_call 78; refine (RT.out _).mono ?_; rintro e w3 ⟨⟨sp, hsp, rfl⟩, hb⟩; have I3 := Lib.hid (And.intro (B2.out.trans (hb.mono B2.out.size)) (C2.out.keep hb)); have HSP := Lib.hid hsp; have yk := HK.out w3 _ I3.out.2; clear hb RT hsp y0 y1)
  clear B2 C2
  have zsp : sp.size ≤ 64 := by rw [Lib.size_eq, HSP.out]; unfold rtxt; simp only [List.length_append, List.length_cons, List.length_nil]; omega
  go_upto_region 13 with fail
  clear yk
  have zw : (⟨#[105, 110, 32]⟩ : ByteArray).size = 3 := rfl
  have z32 : (⟨#[32]⟩ : ByteArray).size = 1 := rfl
  have zq0 : (⟨(dgs c.mv).toArray⟩ : ByteArray).size = ((dgs c.mv)).length := Lib.size_mk _
  have zq4 : (⟨(dgs c.data.size).toArray⟩ : ByteArray).size = ((dgs c.data.size)).length := Lib.size_mk _
  obtain ⟨t0, e0, m0, s0⟩ := add_ba ⟨#[105, 110, 32]⟩ ⟨(dgs c.mv).toArray⟩ (by omega)
  obtain ⟨t1, e1, m1, s1⟩ := add_ba t0 ⟨#[32]⟩ (by omega)
  obtain ⟨t2, e2, m2, s2⟩ := add_ba t1 sp (by omega)
  obtain ⟨t3, e3, m3, s3⟩ := add_ba t2 ⟨#[32]⟩ (by omega)
  obtain ⟨t4, e4, m4, s4⟩ := add_ba t3 ⟨(dgs c.data.size).toArray⟩ (by omega)
  have HT : Hid (t4 = ⟨(textC c).toArray⟩) := Lib.hid (ba_of (by rw [e4.out, e3.out, e2.out, e1.out, e0.out, HSP.out, HTX.out]; simp [joinW, wordK, textF]))
  clear m0 e0 m1 e1 m2 e2 m3 e3 m4 e4 zw z32 zsp HSP
  have SA : Hid (w3.drew.cell? ⟨w.heap.size, 8, none⟩ = some (.int .i64 c.mv) ∧ w3.drew.cell? ⟨w.heap.size, 23, none⟩ = some (.string c.data) ∧ Below w.heap.size w w3.drew ∧ w.heap.size ≤ w3.drew.heap.size) := Lib.hid ⟨I3.out.2.w.cell 8, I3.out.2.w.cell 23, I3.out.1.drew, I3.out.1.size⟩
  clear I3
  go_region_held3 (fun wx => wx.cell? ⟨w.heap.size, 8, none⟩ = some (.int .i64 c.mv) ∧ wx.cell? ⟨w.heap.size, 23, none⟩ = some (.string c.data) ∧ Below w.heap.size w wx ∧ w.heap.size ≤ wx.heap.size)
    (first | exact SA.out | assumption | (refine skeep2 ?_ hb2; assumption))
    (first | (go_at_call 81; refine (digitsC_any _ _ (by omega) (by omega)).mono ?_; rintro e w5 ⟨rfl, hb2⟩))
  rename_i hF
  have BF := Lib.hid hF.2.2.1
  clear hF
  go_wp2_with fail
  go_ret2
  unfold TxtCR
  rw [HV.out.1, HV.out.2, ← HT.out]
  exact ⟨rfl, BF.out⟩
set_option maxRecDepth 100000 in
set_option maxHeartbeats 8000000 in
theorem rctx_11 (c : Cv) (A : Option Addr) (n m : Nat) (w : World) (h : CmdIn w c A n m) (hok : cmdOk c) (hk : c.k = 11) :
    Calls Tryz.prog 29 #[.agg (cA c A n m)] w fun e w' => TxtCR c w w' e := by
  have B1 := Lib.hid ((Below.refl w.heap.size w).alloc (Nat.le_refl _) (.cells (cA c A n m) 36))
  have C1 := Lib.hid (CmdAt.new h)
  have CK := rcheck_any c A n m _ C1.out.i
  rw [ckC_yes hok] at CK
  have CK := Lib.hid CK
  have RT := Lib.hid (fun W => Rg.refText_yes c.f c.t W (okR_of hok))
  have hgR := okR_of hok
  have gf := okS_len (okR_left hgR)
  have gt := okS_len (okR_right hgR)
  have HV : Hid (ckC c = 0 ∧ txtC c = textC c) := Lib.hid ⟨ckC_yes hok, txtC_yes hok⟩
  have hall : ∀ x ∈ ([.call, .saga, .defn] : List Fl), okF x c := by
    obtain ⟨l0, hf, hall, _⟩ := hok
    rw [hk] at hf
    cases hf
    exact hall
  have HK := Lib.hid (fun (W : World) (B : Nat) (h : CmdAt W B c A n m) => (show W.cell? ⟨B, 0, none⟩ = some (.int .i64 11) by have : _ = some (Value.int .i64 c.k) := h.w.cell 0; rw [hk] at this; exact this))
  have HTX : Hid (textC c = joinW ((wordK 11) :: ([.call, .saga, .defn] : List Fl).map (textF · c))) := Lib.hid (by unfold textC partsC; rw [hk]; rfl)
  have o_call := hall .call (by simp)
  have o_saga := hall .saga (by simp)
  have o_defn := hall .defn (by simp)
  obtain ⟨b_call1, b_call2⟩ := id o_call
  have d_call := dgs_le (a := c.call) (by omega)
  obtain ⟨b_saga1, b_saga2⟩ := id o_saga
  have d_saga := dgs_le (a := c.saga) (by omega)
  have d_def := textF_len (x := .defn) (c := c) o_defn
  have RE := fun (W : World) (h : CmdIn W c A n m) => (refDefText_any c.d A n m W h.d).mono (R' := fun e w' => e = .returned (.tuple #[.string ⟨(textD c.d).toArray⟩, .int .i64 0]) ∧ Below W.heap.size W w') (fun e w' ⟨h, hb⟩ => by
    have := h.val
    rw [txtL_yes o_defn, ckD_yes o_defn] at this
    exact ⟨this, hb⟩)
  obtain ⟨se, hse⟩ : ∃ s : ByteArray, s = ⟨(textD c.d).toArray⟩ := ⟨_, rfl⟩
  rw [← hse] at RE
  unfold dV at RE
  have RE := Lib.hid RE
  have zse : se.size ≤ 460 := by rw [hse, Lib.size_mk]; exact d_def
  have HSE : Hid (se.data.toList = textD c.d) := Lib.hid (by rw [hse])
  clear hse d_def
  clear hall hok hk hgR
  go_enter Tryz.func29, Tryz.ntmps29
  go_upto_region 1 with fail
  generalize w.alloc (.cells (cA c A n m) 36) = w1 at B1 C1 CK ⊢
  go_upto_region 3 with (first
    | (refine wpList_load_row rfl 36 (.tmp 1) rfl _ rfl 36 (cA c A n m) (0, 0) _ C1.out.w Tryz.underlying36 rfl (info24 c A n m) ?_)
    | (go_at_call 31; refine CK.out.mono ?_; rintro e w2 ⟨rfl, hb⟩; have B2 := Lib.hid (B1.out.trans (hb.mono B1.out.size)); have C2 := Lib.hid (C1.out.keep hb); have y0 : w2.cell? ⟨w.heap.size, 9, none⟩ = some (.string c.f) := C2.out.w.cell 9; have y1 : w2.cell? ⟨w.heap.size, 10, none⟩ = some (.string c.t) := C2.out.w.cell 10; clear hb CK))
  clear B1 C1
  go_upto_region 4 with (go_at_call 78; refine (RT.out _).mono ?_; rintro e w3 ⟨⟨sp, hsp, rfl⟩, hb⟩; have I3 := Lib.hid (And.intro (B2.out.trans (hb.mono B2.out.size)) (C2.out.keep hb)); have HSP := Lib.hid hsp; have yk := HK.out w3 _ I3.out.2; clear hb RT hsp y0 y1)
  clear B2 C2
  have zsp : sp.size ≤ 64 := by rw [Lib.size_eq, HSP.out]; unfold rtxt; simp only [List.length_append, List.length_cons, List.length_nil]; omega
  go_upto_region 5 with fail
  have z0 : w3.cell? ⟨w.heap.size, 12, none⟩ = some (.string c.d.n) := I3.out.2.w.cell 12
  have z1 : w3.cell? ⟨w.heap.size, 13, none⟩ = some (.int .i64 c.d.r) := I3.out.2.w.cell 13
  have z2 : w3.cell? ⟨w.heap.size, 14, none⟩ = some (.int .i64 c.d.dl) := I3.out.2.w.cell 14
  have z3 : w3.cell? ⟨w.heap.size, 15, none⟩ = some (.slice A n m) := I3.out.2.w.cell 15
  go_upto_region 16 with (go_at_call 82; refine (RE.out _ I3.out.2.i).mono ?_; rintro e w4 ⟨rfl, hb⟩; clear yk z0 z1 z2 z3; have I4 := Lib.hid (And.intro (I3.out.1.trans (hb.mono I3.out.1.size)) (I3.out.2.keep hb)); clear hb RE)
  clear I3
  have zw : (⟨#[115, 116, 97, 114, 116, 32]⟩ : ByteArray).size = 6 := rfl
  have z32 : (⟨#[32]⟩ : ByteArray).size = 1 := rfl
  have zq0 : (⟨(dgs c.call).toArray⟩ : ByteArray).size = ((dgs c.call)).length := Lib.size_mk _
  have zq2 : (⟨(dgs c.saga).toArray⟩ : ByteArray).size = ((dgs c.saga)).length := Lib.size_mk _
  obtain ⟨t0, e0, m0, s0⟩ := add_ba ⟨#[115, 116, 97, 114, 116, 32]⟩ ⟨(dgs c.call).toArray⟩ (by omega)
  obtain ⟨t1, e1, m1, s1⟩ := add_ba t0 ⟨#[32]⟩ (by omega)
  obtain ⟨t2, e2, m2, s2⟩ := add_ba t1 ⟨(dgs c.saga).toArray⟩ (by omega)
  obtain ⟨t3, e3, m3, s3⟩ := add_ba t2 ⟨#[32]⟩ (by omega)
  obtain ⟨t4, e4, m4, s4⟩ := add_ba t3 se (by omega)
  have HT : Hid (t4 = ⟨(textC c).toArray⟩) := Lib.hid (ba_of (by rw [e4.out, e3.out, e2.out, e1.out, e0.out, HSE.out, HTX.out]; simp [joinW, wordK, textF]))
  clear m0 e0 m1 e1 m2 e2 m3 e3 m4 e4 zw z32 zsp HSP zse HSE
  have SA : Hid (w4.drew.cell? ⟨w.heap.size, 1, none⟩ = some (.int .i64 c.call) ∧ w4.drew.cell? ⟨w.heap.size, 2, none⟩ = some (.int .i64 c.saga) ∧ Below w.heap.size w w4.drew ∧ w.heap.size ≤ w4.drew.heap.size) := Lib.hid ⟨I4.out.2.w.cell 1, I4.out.2.w.cell 2, I4.out.1.drew, I4.out.1.size⟩
  clear I4
  go_region_held3 (fun wx => wx.cell? ⟨w.heap.size, 1, none⟩ = some (.int .i64 c.call) ∧ wx.cell? ⟨w.heap.size, 2, none⟩ = some (.int .i64 c.saga) ∧ Below w.heap.size w wx ∧ w.heap.size ≤ wx.heap.size)
    (first | exact SA.out | assumption | (refine skeep2 ?_ hb2; assumption))
    (first | (go_at_call 81; refine (digitsC_any _ _ (by omega) (by omega)).mono ?_; rintro e w5 ⟨rfl, hb2⟩))
  rename_i hF
  have BF := Lib.hid hF.2.2.1
  clear hF
  go_wp2_with fail
  go_ret2
  unfold TxtCR
  rw [HV.out.1, HV.out.2, ← HT.out]
  exact ⟨rfl, BF.out⟩
set_option maxRecDepth 100000 in
set_option maxHeartbeats 8000000 in
theorem rctx_12 (c : Cv) (A : Option Addr) (n m : Nat) (w : World) (h : CmdIn w c A n m) (hok : cmdOk c) (hk : c.k = 12) :
    Calls Tryz.prog 29 #[.agg (cA c A n m)] w fun e w' => TxtCR c w w' e := by
  have B1 := Lib.hid ((Below.refl w.heap.size w).alloc (Nat.le_refl _) (.cells (cA c A n m) 36))
  have C1 := Lib.hid (CmdAt.new h)
  have CK := rcheck_any c A n m _ C1.out.i
  rw [ckC_yes hok] at CK
  have CK := Lib.hid CK
  have RT := Lib.hid (fun W => Rg.refText_yes c.f c.t W (okR_of hok))
  have hgR := okR_of hok
  have gf := okS_len (okR_left hgR)
  have gt := okS_len (okR_right hgR)
  have HV : Hid (ckC c = 0 ∧ txtC c = textC c) := Lib.hid ⟨ckC_yes hok, txtC_yes hok⟩
  have hall : ∀ x ∈ ([.call, .saga] : List Fl), okF x c := by
    obtain ⟨l0, hf, hall, _⟩ := hok
    rw [hk] at hf
    cases hf
    exact hall
  have HK := Lib.hid (fun (W : World) (B : Nat) (h : CmdAt W B c A n m) => (show W.cell? ⟨B, 0, none⟩ = some (.int .i64 12) by have : _ = some (Value.int .i64 c.k) := h.w.cell 0; rw [hk] at this; exact this))
  have HTX : Hid (textC c = joinW ((wordK 12) :: ([.call, .saga] : List Fl).map (textF · c))) := Lib.hid (by unfold textC partsC; rw [hk]; rfl)
  have o_call := hall .call (by simp)
  have o_saga := hall .saga (by simp)
  obtain ⟨b_call1, b_call2⟩ := id o_call
  have d_call := dgs_le (a := c.call) (by omega)
  obtain ⟨b_saga1, b_saga2⟩ := id o_saga
  have d_saga := dgs_le (a := c.saga) (by omega)
  clear hall hok hk hgR
  go_enter Tryz.func29, Tryz.ntmps29
  go_upto_region 1 with fail
  generalize w.alloc (.cells (cA c A n m) 36) = w1 at B1 C1 CK ⊢
  go_upto_region 3 with (first
    | (refine wpList_load_row rfl 36 (.tmp 1) rfl _ rfl 36 (cA c A n m) (0, 0) _ C1.out.w Tryz.underlying36 rfl (info24 c A n m) ?_)
    | (go_at_call 31; refine CK.out.mono ?_; rintro e w2 ⟨rfl, hb⟩; have B2 := Lib.hid (B1.out.trans (hb.mono B1.out.size)); have C2 := Lib.hid (C1.out.keep hb); have y0 : w2.cell? ⟨w.heap.size, 9, none⟩ = some (.string c.f) := C2.out.w.cell 9; have y1 : w2.cell? ⟨w.heap.size, 10, none⟩ = some (.string c.t) := C2.out.w.cell 10; clear hb CK))
  clear B1 C1
  go_upto_region 4 with (go_at_call 78; refine (RT.out _).mono ?_; rintro e w3 ⟨⟨sp, hsp, rfl⟩, hb⟩; have I3 := Lib.hid (And.intro (B2.out.trans (hb.mono B2.out.size)) (C2.out.keep hb)); have HSP := Lib.hid hsp; have yk := HK.out w3 _ I3.out.2; clear hb RT hsp y0 y1)
  clear B2 C2
  have zsp : sp.size ≤ 64 := by rw [Lib.size_eq, HSP.out]; unfold rtxt; simp only [List.length_append, List.length_cons, List.length_nil]; omega
  go_upto_region 18 with fail
  clear yk
  have zw : (⟨#[115, 116, 97, 116, 117, 115, 32]⟩ : ByteArray).size = 7 := rfl
  have z32 : (⟨#[32]⟩ : ByteArray).size = 1 := rfl
  have zq0 : (⟨(dgs c.call).toArray⟩ : ByteArray).size = ((dgs c.call)).length := Lib.size_mk _
  have zq2 : (⟨(dgs c.saga).toArray⟩ : ByteArray).size = ((dgs c.saga)).length := Lib.size_mk _
  obtain ⟨t0, e0, m0, s0⟩ := add_ba ⟨#[115, 116, 97, 116, 117, 115, 32]⟩ ⟨(dgs c.call).toArray⟩ (by omega)
  obtain ⟨t1, e1, m1, s1⟩ := add_ba t0 ⟨#[32]⟩ (by omega)
  obtain ⟨t2, e2, m2, s2⟩ := add_ba t1 ⟨(dgs c.saga).toArray⟩ (by omega)
  have HT : Hid (t2 = ⟨(textC c).toArray⟩) := Lib.hid (ba_of (by rw [e2.out, e1.out, e0.out, HTX.out]; simp [joinW, wordK, textF]))
  clear m0 e0 m1 e1 m2 e2 zw z32 zsp HSP
  have SA : Hid (w3.drew.cell? ⟨w.heap.size, 1, none⟩ = some (.int .i64 c.call) ∧ w3.drew.cell? ⟨w.heap.size, 2, none⟩ = some (.int .i64 c.saga) ∧ Below w.heap.size w w3.drew ∧ w.heap.size ≤ w3.drew.heap.size) := Lib.hid ⟨I3.out.2.w.cell 1, I3.out.2.w.cell 2, I3.out.1.drew, I3.out.1.size⟩
  clear I3
  go_region_held3 (fun wx => wx.cell? ⟨w.heap.size, 1, none⟩ = some (.int .i64 c.call) ∧ wx.cell? ⟨w.heap.size, 2, none⟩ = some (.int .i64 c.saga) ∧ Below w.heap.size w wx ∧ w.heap.size ≤ wx.heap.size)
    (first | exact SA.out | assumption | (refine skeep2 ?_ hb2; assumption))
    (first | (go_at_call 81; refine (digitsC_any _ _ (by omega) (by omega)).mono ?_; rintro e w5 ⟨rfl, hb2⟩))
  rename_i hF
  have BF := Lib.hid hF.2.2.1
  clear hF
  go_wp2_with fail
  go_ret2
  unfold TxtCR
  rw [HV.out.1, HV.out.2, ← HT.out]
  exact ⟨rfl, BF.out⟩
set_option maxRecDepth 100000 in
set_option maxHeartbeats 8000000 in
theorem rctx_13 (c : Cv) (A : Option Addr) (n m : Nat) (w : World) (h : CmdIn w c A n m) (hok : cmdOk c) (hk : c.k = 13) :
    Calls Tryz.prog 29 #[.agg (cA c A n m)] w fun e w' => TxtCR c w w' e := by
  have B1 := Lib.hid ((Below.refl w.heap.size w).alloc (Nat.le_refl _) (.cells (cA c A n m) 36))
  have C1 := Lib.hid (CmdAt.new h)
  have CK := rcheck_any c A n m _ C1.out.i
  rw [ckC_yes hok] at CK
  have CK := Lib.hid CK
  have RT := Lib.hid (fun W => Rg.refText_yes c.f c.t W (okR_of hok))
  have hgR := okR_of hok
  have gf := okS_len (okR_left hgR)
  have gt := okS_len (okR_right hgR)
  have HV : Hid (ckC c = 0 ∧ txtC c = textC c) := Lib.hid ⟨ckC_yes hok, txtC_yes hok⟩
  have hall : ∀ x ∈ ([.call, .saga] : List Fl), okF x c := by
    obtain ⟨l0, hf, hall, _⟩ := hok
    rw [hk] at hf
    cases hf
    exact hall
  have HK := Lib.hid (fun (W : World) (B : Nat) (h : CmdAt W B c A n m) => (show W.cell? ⟨B, 0, none⟩ = some (.int .i64 13) by have : _ = some (Value.int .i64 c.k) := h.w.cell 0; rw [hk] at this; exact this))
  have HTX : Hid (textC c = joinW ((wordK 13) :: ([.call, .saga] : List Fl).map (textF · c))) := Lib.hid (by unfold textC partsC; rw [hk]; rfl)
  have o_call := hall .call (by simp)
  have o_saga := hall .saga (by simp)
  obtain ⟨b_call1, b_call2⟩ := id o_call
  have d_call := dgs_le (a := c.call) (by omega)
  obtain ⟨b_saga1, b_saga2⟩ := id o_saga
  have d_saga := dgs_le (a := c.saga) (by omega)
  clear hall hok hk hgR
  go_enter Tryz.func29, Tryz.ntmps29
  go_upto_region 1 with fail
  generalize w.alloc (.cells (cA c A n m) 36) = w1 at B1 C1 CK ⊢
  go_upto_region 3 with (first
    | (refine wpList_load_row rfl 36 (.tmp 1) rfl _ rfl 36 (cA c A n m) (0, 0) _ C1.out.w Tryz.underlying36 rfl (info24 c A n m) ?_)
    | (go_at_call 31; refine CK.out.mono ?_; rintro e w2 ⟨rfl, hb⟩; have B2 := Lib.hid (B1.out.trans (hb.mono B1.out.size)); have C2 := Lib.hid (C1.out.keep hb); have y0 : w2.cell? ⟨w.heap.size, 9, none⟩ = some (.string c.f) := C2.out.w.cell 9; have y1 : w2.cell? ⟨w.heap.size, 10, none⟩ = some (.string c.t) := C2.out.w.cell 10; clear hb CK))
  clear B1 C1
  go_upto_region 4 with (go_at_call 78; refine (RT.out _).mono ?_; rintro e w3 ⟨⟨sp, hsp, rfl⟩, hb⟩; have I3 := Lib.hid (And.intro (B2.out.trans (hb.mono B2.out.size)) (C2.out.keep hb)); have HSP := Lib.hid hsp; have yk := HK.out w3 _ I3.out.2; clear hb RT hsp y0 y1)
  clear B2 C2
  have zsp : sp.size ≤ 64 := by rw [Lib.size_eq, HSP.out]; unfold rtxt; simp only [List.length_append, List.length_cons, List.length_nil]; omega
  go_upto_region 20 with fail
  clear yk
  have zw : (⟨#[99, 97, 110, 99, 101, 108, 32]⟩ : ByteArray).size = 7 := rfl
  have z32 : (⟨#[32]⟩ : ByteArray).size = 1 := rfl
  have zq0 : (⟨(dgs c.call).toArray⟩ : ByteArray).size = ((dgs c.call)).length := Lib.size_mk _
  have zq2 : (⟨(dgs c.saga).toArray⟩ : ByteArray).size = ((dgs c.saga)).length := Lib.size_mk _
  obtain ⟨t0, e0, m0, s0⟩ := add_ba ⟨#[99, 97, 110, 99, 101, 108, 32]⟩ ⟨(dgs c.call).toArray⟩ (by omega)
  obtain ⟨t1, e1, m1, s1⟩ := add_ba t0 ⟨#[32]⟩ (by omega)
  obtain ⟨t2, e2, m2, s2⟩ := add_ba t1 ⟨(dgs c.saga).toArray⟩ (by omega)
  have HT : Hid (t2 = ⟨(textC c).toArray⟩) := Lib.hid (ba_of (by rw [e2.out, e1.out, e0.out, HTX.out]; simp [joinW, wordK, textF]))
  clear m0 e0 m1 e1 m2 e2 zw z32 zsp HSP
  have SA : Hid (w3.drew.cell? ⟨w.heap.size, 1, none⟩ = some (.int .i64 c.call) ∧ w3.drew.cell? ⟨w.heap.size, 2, none⟩ = some (.int .i64 c.saga) ∧ Below w.heap.size w w3.drew ∧ w.heap.size ≤ w3.drew.heap.size) := Lib.hid ⟨I3.out.2.w.cell 1, I3.out.2.w.cell 2, I3.out.1.drew, I3.out.1.size⟩
  clear I3
  go_region_held3 (fun wx => wx.cell? ⟨w.heap.size, 1, none⟩ = some (.int .i64 c.call) ∧ wx.cell? ⟨w.heap.size, 2, none⟩ = some (.int .i64 c.saga) ∧ Below w.heap.size w wx ∧ w.heap.size ≤ wx.heap.size)
    (first | exact SA.out | assumption | (refine skeep2 ?_ hb2; assumption))
    (first | (go_at_call 81; refine (digitsC_any _ _ (by omega) (by omega)).mono ?_; rintro e w5 ⟨rfl, hb2⟩))
  rename_i hF
  have BF := Lib.hid hF.2.2.1
  clear hF
  go_wp2_with fail
  go_ret2
  unfold TxtCR
  rw [HV.out.1, HV.out.2, ← HT.out]
  exact ⟨rfl, BF.out⟩
set_option maxRecDepth 100000 in
set_option maxHeartbeats 8000000 in
theorem rctx_14 (c : Cv) (A : Option Addr) (n m : Nat) (w : World) (h : CmdIn w c A n m) (hok : cmdOk c) (hk : c.k = 14) :
    Calls Tryz.prog 29 #[.agg (cA c A n m)] w fun e w' => TxtCR c w w' e := by
  have B1 := Lib.hid ((Below.refl w.heap.size w).alloc (Nat.le_refl _) (.cells (cA c A n m) 36))
  have C1 := Lib.hid (CmdAt.new h)
  have CK := rcheck_any c A n m _ C1.out.i
  rw [ckC_yes hok] at CK
  have CK := Lib.hid CK
  have RT := Lib.hid (fun W => Rg.refText_yes c.f c.t W (okR_of hok))
  have hgR := okR_of hok
  have gf := okS_len (okR_left hgR)
  have gt := okS_len (okR_right hgR)
  have HV : Hid (ckC c = 0 ∧ txtC c = textC c) := Lib.hid ⟨ckC_yes hok, txtC_yes hok⟩
  have hall : ∀ x ∈ ([.call, .rng, .grp] : List Fl), okF x c := by
    obtain ⟨l0, hf, hall, _⟩ := hok
    rw [hk] at hf
    cases hf
    exact hall
  have HK := Lib.hid (fun (W : World) (B : Nat) (h : CmdAt W B c A n m) => (show W.cell? ⟨B, 0, none⟩ = some (.int .i64 14) by have : _ = some (Value.int .i64 c.k) := h.w.cell 0; rw [hk] at this; exact this))
  have HTX : Hid (textC c = joinW ((wordK 14) :: ([.call, .rng, .grp] : List Fl).map (textF · c))) := Lib.hid (by unfold textC partsC; rw [hk]; rfl)
  have o_call := hall .call (by simp)
  have o_rng := hall .rng (by simp)
  have o_grp := hall .grp (by simp)
  obtain ⟨b_call1, b_call2⟩ := id o_call
  have d_call := dgs_le (a := c.call) (by omega)
  obtain ⟨b_grp1, b_grp2⟩ := id o_grp
  have d_grp := dgs_le (a := c.g) (by omega)
  clear hall hok hk hgR
  go_enter Tryz.func29, Tryz.ntmps29
  go_upto_region 1 with fail
  generalize w.alloc (.cells (cA c A n m) 36) = w1 at B1 C1 CK ⊢
  go_upto_region 3 with (first
    | (refine wpList_load_row rfl 36 (.tmp 1) rfl _ rfl 36 (cA c A n m) (0, 0) _ C1.out.w Tryz.underlying36 rfl (info24 c A n m) ?_)
    | (go_at_call 31; refine CK.out.mono ?_; rintro e w2 ⟨rfl, hb⟩; have B2 := Lib.hid (B1.out.trans (hb.mono B1.out.size)); have C2 := Lib.hid (C1.out.keep hb); have y0 : w2.cell? ⟨w.heap.size, 9, none⟩ = some (.string c.f) := C2.out.w.cell 9; have y1 : w2.cell? ⟨w.heap.size, 10, none⟩ = some (.string c.t) := C2.out.w.cell 10; clear hb CK))
  clear B1 C1
  go_upto_region 4 with (go_at_call 78; refine (RT.out _).mono ?_; rintro e w3 ⟨⟨sp, hsp, rfl⟩, hb⟩; have I3 := Lib.hid (And.intro (B2.out.trans (hb.mono B2.out.size)) (C2.out.keep hb)); have HSP := Lib.hid hsp; have yk := HK.out w3 _ I3.out.2; clear hb RT hsp y0 y1)
  clear B2 C2
  have zsp : sp.size ≤ 64 := by rw [Lib.size_eq, HSP.out]; unfold rtxt; simp only [List.length_append, List.length_cons, List.length_nil]; omega
  go_upto_region 22 with fail
  clear yk
  have zw : (⟨#[109, 111, 118, 101, 32]⟩ : ByteArray).size = 5 := rfl
  have z32 : (⟨#[32]⟩ : ByteArray).size = 1 := rfl
  have zq0 : (⟨(dgs c.call).toArray⟩ : ByteArray).size = ((dgs c.call)).length := Lib.size_mk _
  have zq4 : (⟨(dgs c.g).toArray⟩ : ByteArray).size = ((dgs c.g)).length := Lib.size_mk _
  obtain ⟨t0, e0, m0, s0⟩ := add_ba ⟨#[109, 111, 118, 101, 32]⟩ ⟨(dgs c.call).toArray⟩ (by omega)
  obtain ⟨t1, e1, m1, s1⟩ := add_ba t0 ⟨#[32]⟩ (by omega)
  obtain ⟨t2, e2, m2, s2⟩ := add_ba t1 sp (by omega)
  obtain ⟨t3, e3, m3, s3⟩ := add_ba t2 ⟨#[32]⟩ (by omega)
  obtain ⟨t4, e4, m4, s4⟩ := add_ba t3 ⟨(dgs c.g).toArray⟩ (by omega)
  have HT : Hid (t4 = ⟨(textC c).toArray⟩) := Lib.hid (ba_of (by rw [e4.out, e3.out, e2.out, e1.out, e0.out, HSP.out, HTX.out]; simp [joinW, wordK, textF]))
  clear m0 e0 m1 e1 m2 e2 m3 e3 m4 e4 zw z32 zsp HSP
  have SA : Hid (w3.drew.cell? ⟨w.heap.size, 1, none⟩ = some (.int .i64 c.call) ∧ w3.drew.cell? ⟨w.heap.size, 11, none⟩ = some (.int .i64 c.g) ∧ Below w.heap.size w w3.drew ∧ w.heap.size ≤ w3.drew.heap.size) := Lib.hid ⟨I3.out.2.w.cell 1, I3.out.2.w.cell 11, I3.out.1.drew, I3.out.1.size⟩
  clear I3
  go_region_held3 (fun wx => wx.cell? ⟨w.heap.size, 1, none⟩ = some (.int .i64 c.call) ∧ wx.cell? ⟨w.heap.size, 11, none⟩ = some (.int .i64 c.g) ∧ Below w.heap.size w wx ∧ w.heap.size ≤ wx.heap.size)
    (first | exact SA.out | assumption | (refine skeep2 ?_ hb2; assumption))
    (first | (go_at_call 81; refine (digitsC_any _ _ (by omega) (by omega)).mono ?_; rintro e w5 ⟨rfl, hb2⟩))
  rename_i hF
  have BF := Lib.hid hF.2.2.1
  clear hF
  go_wp2_with fail
  go_ret2
  unfold TxtCR
  rw [HV.out.1, HV.out.2, ← HT.out]
  exact ⟨rfl, BF.out⟩
set_option maxRecDepth 100000 in
set_option maxHeartbeats 8000000 in
theorem rctx_15 (c : Cv) (A : Option Addr) (n m : Nat) (w : World) (h : CmdIn w c A n m) (hok : cmdOk c) (hk : c.k = 15) :
    Calls Tryz.prog 29 #[.agg (cA c A n m)] w fun e w' => TxtCR c w w' e := by
  have B1 := Lib.hid ((Below.refl w.heap.size w).alloc (Nat.le_refl _) (.cells (cA c A n m) 36))
  have C1 := Lib.hid (CmdAt.new h)
  have CK := rcheck_any c A n m _ C1.out.i
  rw [ckC_yes hok] at CK
  have CK := Lib.hid CK
  have RT := Lib.hid (fun W => Rg.refText_yes c.f c.t W (okR_of hok))
  have hgR := okR_of hok
  have gf := okS_len (okR_left hgR)
  have gt := okS_len (okR_right hgR)
  have HV : Hid (ckC c = 0 ∧ txtC c = textC c) := Lib.hid ⟨ckC_yes hok, txtC_yes hok⟩
  have hall : ∀ x ∈ ([.item, .res, .data] : List Fl), okF x c := by
    obtain ⟨l0, hf, hall, _⟩ := hok
    rw [hk] at hf
    cases hf
    exact hall
  have HK := Lib.hid (fun (W : World) (B : Nat) (h : CmdAt W B c A n m) => (show W.cell? ⟨B, 0, none⟩ = some (.int .i64 15) by have : _ = some (Value.int .i64 c.k) := h.w.cell 0; rw [hk] at this; exact this))
  have HTX : Hid (textC c = joinW ((wordK 15) :: ([.item, .res, .data] : List Fl).map (textF · c))) := Lib.hid (by unfold textC partsC; rw [hk]; rfl)
  have o_item := hall .item (by simp)
  have o_res := hall .res (by simp)
  have o_data := hall .data (by simp)
  obtain ⟨b_res1, b_res2⟩ := id o_res
  have d_res := dgs_le (a := c.res) (by omega)
  have gd : c.data.size ≤ 65536 := o_data
  have d_data := dgs_le (a := (c.data.size : Int)) (by omega)
  have d_it := textF_len (x := .item) (c := c) o_item
  have RE := fun W => Id.refItem_all c.it.a c.it.b c.it.c c.it.m c.it.i c.it.g W
  rw [Id.itemW_yes o_item] at RE
  dsimp only at RE
  obtain ⟨se, hse⟩ : ∃ s : ByteArray, s = ⟨(itemText c.it.a c.it.b c.it.c c.it.m c.it.i c.it.g).toArray⟩ := ⟨_, rfl⟩
  rw [← hse] at RE
  have RE := Lib.hid RE
  have zse : se.size ≤ 460 := by rw [hse, Lib.size_mk]; exact d_it
  have HSE : Hid (se.data.toList = itemText c.it.a c.it.b c.it.c c.it.m c.it.i c.it.g) := Lib.hid (by rw [hse])
  clear hse d_it
  clear hall hok hk hgR
  go_enter Tryz.func29, Tryz.ntmps29
  go_upto_region 1 with fail
  generalize w.alloc (.cells (cA c A n m) 36) = w1 at B1 C1 CK ⊢
  go_upto_region 3 with (first
    | (refine wpList_load_row rfl 36 (.tmp 1) rfl _ rfl 36 (cA c A n m) (0, 0) _ C1.out.w Tryz.underlying36 rfl (info24 c A n m) ?_)
    | (go_at_call 31; refine CK.out.mono ?_; rintro e w2 ⟨rfl, hb⟩; have B2 := Lib.hid (B1.out.trans (hb.mono B1.out.size)); have C2 := Lib.hid (C1.out.keep hb); have y0 : w2.cell? ⟨w.heap.size, 9, none⟩ = some (.string c.f) := C2.out.w.cell 9; have y1 : w2.cell? ⟨w.heap.size, 10, none⟩ = some (.string c.t) := C2.out.w.cell 10; clear hb CK))
  clear B1 C1
  go_upto_region 4 with (go_at_call 78; refine (RT.out _).mono ?_; rintro e w3 ⟨⟨sp, hsp, rfl⟩, hb⟩; have I3 := Lib.hid (And.intro (B2.out.trans (hb.mono B2.out.size)) (C2.out.keep hb)); have HSP := Lib.hid hsp; have yk := HK.out w3 _ I3.out.2; clear hb RT hsp y0 y1)
  clear B2 C2
  have zsp : sp.size ≤ 64 := by rw [Lib.size_eq, HSP.out]; unfold rtxt; simp only [List.length_append, List.length_cons, List.length_nil]; omega
  go_upto_region 5 with fail
  have z0 : w3.cell? ⟨w.heap.size, 16, none⟩ = some (.int .i64 c.it.a) := I3.out.2.w.cell 16
  have z1 : w3.cell? ⟨w.heap.size, 17, none⟩ = some (.int .i64 c.it.b) := I3.out.2.w.cell 17
  have z2 : w3.cell? ⟨w.heap.size, 18, none⟩ = some (.int .i64 c.it.c) := I3.out.2.w.cell 18
  have z3 : w3.cell? ⟨w.heap.size, 19, none⟩ = some (.int .i64 c.it.m) := I3.out.2.w.cell 19
  have z4 : w3.cell? ⟨w.heap.size, 20, none⟩ = some (.bool c.it.i) := I3.out.2.w.cell 20
  have z5 : w3.cell? ⟨w.heap.size, 21, none⟩ = some (.int .i64 c.it.g) := I3.out.2.w.cell 21
  go_upto_region 25 with (go_at_call 83; refine (RE.out _).mono ?_; rintro e w4 ⟨rfl, hb⟩; clear yk z0 z1 z2 z3 z4 z5; have I4 := Lib.hid (And.intro (I3.out.1.trans (hb.mono I3.out.1.size)) (I3.out.2.keep hb)); clear hb RE)
  clear I3
  have zw : (⟨#[114, 101, 115, 117, 108, 116, 32]⟩ : ByteArray).size = 7 := rfl
  have z32 : (⟨#[32]⟩ : ByteArray).size = 1 := rfl
  have zq2 : (⟨(dgs c.res).toArray⟩ : ByteArray).size = ((dgs c.res)).length := Lib.size_mk _
  have zq4 : (⟨(dgs c.data.size).toArray⟩ : ByteArray).size = ((dgs c.data.size)).length := Lib.size_mk _
  obtain ⟨t0, e0, m0, s0⟩ := add_ba ⟨#[114, 101, 115, 117, 108, 116, 32]⟩ se (by omega)
  obtain ⟨t1, e1, m1, s1⟩ := add_ba t0 ⟨#[32]⟩ (by omega)
  obtain ⟨t2, e2, m2, s2⟩ := add_ba t1 ⟨(dgs c.res).toArray⟩ (by omega)
  obtain ⟨t3, e3, m3, s3⟩ := add_ba t2 ⟨#[32]⟩ (by omega)
  obtain ⟨t4, e4, m4, s4⟩ := add_ba t3 ⟨(dgs c.data.size).toArray⟩ (by omega)
  have HT : Hid (t4 = ⟨(textC c).toArray⟩) := Lib.hid (ba_of (by rw [e4.out, e3.out, e2.out, e1.out, e0.out, HSE.out, HTX.out]; simp [joinW, wordK, textF]))
  clear m0 e0 m1 e1 m2 e2 m3 e3 m4 e4 zw z32 zsp HSP zse HSE
  have SA : Hid (w4.drew.cell? ⟨w.heap.size, 22, none⟩ = some (.int .i64 c.res) ∧ w4.drew.cell? ⟨w.heap.size, 23, none⟩ = some (.string c.data) ∧ Below w.heap.size w w4.drew ∧ w.heap.size ≤ w4.drew.heap.size) := Lib.hid ⟨I4.out.2.w.cell 22, I4.out.2.w.cell 23, I4.out.1.drew, I4.out.1.size⟩
  clear I4
  go_region_held3 (fun wx => wx.cell? ⟨w.heap.size, 22, none⟩ = some (.int .i64 c.res) ∧ wx.cell? ⟨w.heap.size, 23, none⟩ = some (.string c.data) ∧ Below w.heap.size w wx ∧ w.heap.size ≤ wx.heap.size)
    (first | exact SA.out | assumption | (refine skeep2 ?_ hb2; assumption))
    (first | (go_at_call 81; refine (digitsC_any _ _ (by omega) (by omega)).mono ?_; rintro e w5 ⟨rfl, hb2⟩))
  rename_i hF
  have BF := Lib.hid hF.2.2.1
  clear hF
  go_wp2_with fail
  go_ret2
  unfold TxtCR
  rw [HV.out.1, HV.out.2, ← HT.out]
  exact ⟨rfl, BF.out⟩
/-- The reference's Text. -/
theorem rctext_any (c : Cv) (A : Option Addr) (n m : Nat) (w : World) (h : CmdIn w c A n m) :
    Calls Tryz.prog 29 #[.agg (cA c A n m)] w fun e w' => TxtCR c w w' e := by
  by_cases hok : cmdOk c
  case neg => exact rctx_no c A n m w h hok
  obtain ⟨l, hl, _⟩ := id hok
  rcases fieldsK_some hl with h1 | h1 | h1 | h1 | h1 | h1 | h1 | h1 | h1 | h1
  · exact rctx_0 c A n m w h hok h1.1
  · exact rctx_1 c A n m w h hok h1.1
  · exact rctx_2 c A n m w h hok h1.1
  · exact rctx_3 c A n m w h hok h1.1
  · exact rctx_4 c A n m w h hok h1.1
  · exact rctx_11 c A n m w h hok h1.1
  · exact rctx_12 c A n m w h hok h1.1
  · exact rctx_13 c A n m w h hok h1.1
  · exact rctx_14 c A n m w h hok h1.1
  · exact rctx_15 c A n m w h hok h1.1
end Go.Proofs.YtgjnmfmbheejoaaGreatDoor
