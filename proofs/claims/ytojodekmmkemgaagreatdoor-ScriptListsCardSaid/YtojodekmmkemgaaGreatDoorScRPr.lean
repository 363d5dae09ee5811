/- The text of an operation, by the reference. Condition: sizes as a machine's integers can say. -/
import Derived.Test.YtojodekmmkemgaaGreatDoorScRChk
import Derived.Test.YtojodekmmkemgaaGreatDoorScDig
import Derived.Test.YtojodekmmkemgaaGreatDoorScChk
import Derived.Great.Walk
namespace Go.Proofs.YtojodekmmkemgaaGreatDoor
open Go.RowKit Go.Shelf

theorem wpAnyH_switch {P : Program} {md : Region.Mode} {ops : Array Oper} {Q : Exit → Act → World → Prop} {S S' : World → Prop} (hS : ∀ w, S' w → S w) :
    ∀ (fuel : Nat) (listed : Array Bool) (a : Act) (w : World), wpAnyH P md ops Q S' fuel listed a w → wpAnyH P md ops Q S fuel listed a w
  | 0, _, _, _, h => h
  | fuel + 1, _, _, _, h => ⟨h.1, fun i hi => wpOp_mono (fun a' w' h' => ⟨hS _ h'.1, wpAnyH_switch hS fuel _ a' w' h'.2⟩) (h.2 i hi)⟩
theorem szl (t : ByteArray) : t.data.toList.length = t.size := (Lib.size_eq t).symm
def rwordV : Array Value := ((List.range 12).map fun i : Nat => Value.string ⟨(wordO ((i : Int) + 1)).toArray⟩).toArray
theorem rwordV_get (k : Nat) (h : k < 12) : rwordV[k]? = some (.string ⟨(wordO ((k : Int) + 1)).toArray⟩) := by
  unfold rwordV
  rw [List.getElem?_toArray, List.getElem?_map, List.getElem?_range h]
  rfl
set_option maxRecDepth 100000 in
set_option maxHeartbeats 4000000 in
theorem wordsT_any (j : Nat) (hj : j < 12) (w : World) :
    Calls Tryz.prog 58 #[] w fun e w' => e = .returned (.slice (some ⟨w.heap.size, 0, none⟩) 12 12) ∧ Below w.heap.size w w' ∧ w'.cell? ⟨w.heap.size, j, none⟩ = some (.string ⟨(wordO ((j : Int) + 1)).toArray⟩) := by
  have H1 : Hid (Below w.heap.size w (w.alloc (.cells rwordV 9)) ∧ (w.alloc (.cells rwordV 9)).cell? ⟨w.heap.size, j, none⟩ = some (.string ⟨(wordO ((j : Int) + 1)).toArray⟩)) := Lib.hid ⟨(Below.refl _ _).alloc (Nat.le_refl _) _, by rw [(Whole.new w 9 rwordV).cell]; exact rwordV_get j hj⟩
  go_enter Tryz.func58, Tryz.ntmps58
  go_wp2_with (refine Great.wpList_buildSliceTo rfl 43 9 12 _ rfl w.heap.size rfl (some 1) rfl Tryz.underlying43 rwordV (by kernel_rfl) ?_)
  go_ret
  exact ⟨rfl, H1.out.1, H1.out.2⟩
set_option maxRecDepth 100000 in
set_option maxHeartbeats 16000000 in
theorem roprint_any (o : Ov) (A : Option Addr) (n m : Nat) (w : World) (h : OpIn w o A n m) :
    Calls Tryz.prog 23 #[.agg (oA o A n m)] w fun e w' => e = .returned (.tuple #[.string ⟨(txtO o).toArray⟩, .int .i64 (ckO o)]) ∧ Below w.heap.size w w' := by
  have mixed : Tryz.prog.follows Departure.mixedOrders = true := by kernel_rfl
  have B1 := Lib.hid ((Below.refl w.heap.size w).alloc (Nat.le_refl _) (.cells (oA o A n m) 34))
  have C1 := Lib.hid (OpAt.new h)
  have CK := rocheck_any o A n m _ C1.out.i
  clear h
  by_cases hok : opOk o
  case neg =>
    have HV : Hid (txtO o = [] ∧ ckO o = 2) := Lib.hid ⟨txtO_no hok, ckO_no hok⟩
    rw [ckO_no hok] at CK
    have CK := Lib.hid CK
    clear hok
    go_enter Tryz.func23, Tryz.ntmps23
    go_wp2_with (first
      | (refine wpList_load_row rfl 34 (.tmp 1) rfl _ rfl 34 (oA o A n m) (0, 0) _ C1.out.w Tryz.underlying34 rfl (info10 _ _ _ _) ?_)
      | (go_at_call 25; refine CK.out.mono ?_; rintro e w2 ⟨rfl, hb⟩; have B2 := Lib.hid (B1.out.trans (hb.mono B1.out.size)); clear hb))
    go_ret2
    rw [HV.out.1, HV.out.2]
    exact ⟨rfl, B2.out⟩
  have HV : Hid (txtO o = textO o ∧ ckO o = 0) := Lib.hid ⟨txtO_yes hok, ckO_yes hok⟩
  rw [ckO_yes hok] at CK
  have CK := Lib.hid CK
  have HOK := Lib.hid hok
  have hkr := opOk_k hok
  obtain ⟨hn0, hn1⟩ := opOk_n hok
  obtain ⟨hm0, hm1⟩ := opOk_m hok
  have H12 : Hid (1 ≤ o.k ∧ o.k ≤ 12) := Lib.hid hkr
  obtain ⟨j, hj⟩ : ∃ j : Nat, j = (o.k - 1).toNat := ⟨_, rfl⟩
  have hjk : o.k = (j : Int) + 1 := by omega
  have hj12 : j < 12 := by omega
  have hjI : (j : Int) < 12 := by omega
  have hj0 : ¬ ((12 : Int) ≤ (j : Int)) := by omega
  have hj1 : ¬ ((j : Int) < 0) := by omega
  have hj2 : (0 : Int) ≤ (j : Int) := by omega
  have hwj : IntKind.i64.wrap (o.k - 1) = (j : Int) := by rw [IntWalk.i64_in _ (by omega)]; omega
  have WDS := fun (W : World) => wordsT_any j hj12 W
  rw [← hjk] at WDS
  obtain ⟨wd, hwd⟩ : ∃ x : ByteArray, x = ⟨(wordO o.k).toArray⟩ := ⟨_, rfl⟩
  obtain ⟨nd, hnd⟩ : ∃ x : ByteArray, x = ⟨(dgs o.n).toArray⟩ := ⟨_, rfl⟩
  obtain ⟨md, hmd⟩ : ∃ x : ByteArray, x = ⟨(dgs o.m).toArray⟩ := ⟨_, rfl⟩
  have IT := fun (W : World) => digitsC_any o.n W hn0 (by omega)
  have IM := fun (W : World) => digitsC_any o.m W hm0 (by omega)
  rw [← hwd] at WDS
  rw [← hnd] at IT
  rw [← hmd] at IM
  have hsz : wd.size ≤ 20 ∧ nd.size ≤ 20 ∧ md.size ≤ 20 := by
    have d1 := dgs_le (a := o.n) (by omega)
    have d2 := dgs_le (a := o.m) (by omega)
    have d3 := wordO_len o.k
    rw [hwd, hnd, hmd, Lib.size_mk, Lib.size_mk, Lib.size_mk]
    omega
  obtain ⟨a1, e1, z1, r1⟩ := add_ba wd ⟨#[32]⟩ (by show wd.size + 1 ≤ _; omega)
  obtain ⟨a2, e2, z2, r2⟩ := add_ba a1 nd (by rw [z1]; show wd.size + 1 + _ ≤ _; omega)
  obtain ⟨a3, e3, z3, r3⟩ := add_ba ⟨#[32]⟩ md (by show 1 + md.size ≤ _; omega)
  have hz2 : a2.size ≤ 100 := by rw [z2, z1]; show wd.size + 1 + _ ≤ _; omega
  have hz3 : a3.size ≤ 100 := by rw [z3]; show 1 + _ ≤ _; omega
  have HZ := Lib.hid (And.intro hz2 hz3)
  have HTX : Hid (a2.data.toList = wordO o.k ++ 32 :: dgs o.n ∧ a3.data.toList = 32 :: dgs o.m) := Lib.hid ⟨by rw [e2.out, e1.out, hwd, hnd]; simp, by rw [e3.out, hmd]; rfl⟩
  have WDS := Lib.hid WDS
  have IT := Lib.hid IT
  have IM := Lib.hid IM
  clear hok hkr hn0 hn1 hm0 hm1 hwd hnd hmd hj hjk hj12 hsz e1 e2 e3 z1 z2 z3 hz2 hz3
  go_enter Tryz.func23, Tryz.ntmps23
  go_upto_region 1 with fail
  generalize w.alloc (.cells (oA o A n m) 34) = w1 at B1 C1 CK ⊢
  go_upto_region 3 with (first
    | (refine wpList_load_row rfl 34 (.tmp 1) rfl _ rfl 34 (oA o A n m) (0, 0) _ C1.out.w Tryz.underlying34 rfl (info10 _ _ _ _) ?_)
    | (go_at_call 25; refine CK.out.mono ?_; rintro e w2 ⟨rfl, hb⟩; have B2 := Lib.hid (B1.out.trans (hb.mono B1.out.size)); have C2 := Lib.hid (C1.out.keep hb); clear hb CK))
  clear B1 C1
  have SA : Hid (w2.drew.cell? ⟨w.heap.size, 0, none⟩ = some (.int .i64 o.k) ∧ w2.drew.cell? ⟨w.heap.size, 1, none⟩ = some (.int .i64 o.n) ∧ Below w2.heap.size w2 w2.drew ∧ w2.heap.size ≤ w2.drew.heap.size) := Lib.hid ⟨C2.out.w.cell 0, C2.out.w.cell 1, (Below.refl _ _).drew, Nat.le_refl _⟩
  go_wp2_with fail
  refine wp_region_held_drew (S := fun wx => wx.cell? ⟨w.heap.size, 0, none⟩ = some (.int .i64 o.k) ∧ wx.cell? ⟨w.heap.size, 1, none⟩ = some (.int .i64 o.n) ∧ Below w2.heap.size w2 wx ∧ w2.heap.size ≤ wx.heap.size) (by kernel_rfl) SA.out (fun hHeld => ?_)
  clear SA
  refine wpAnyH_take (i := 1) (v := ?_) rfl (by kernel_rfl) (by kernel_rfl) (by kernel_rfl) (fun _ _ _ h => h) (Or.inl ⟨by rfl, ?_⟩) (by assumption) ?_
  rotate_left
  · intro w hSw
    go_simp
    try with_reducible rfl
  simp only [Act.put, List.getElem_toArray, List.getElem_cons_succ, List.getElem_cons_zero, List.setIfInBounds_toArray, List.set_cons_zero, List.set_cons_succ]
  refine wpAnyH_take (i := 2) (v := ?_) rfl (by kernel_rfl) (by kernel_rfl) (by kernel_rfl) (fun _ _ _ h => h) (Or.inl ⟨by rfl, ?_⟩) (by assumption) ?_
  rotate_left
  · intro w hSw
    go_simp
    try with_reducible rfl
  simp only [Act.put, List.getElem_toArray, List.getElem_cons_succ, List.getElem_cons_zero, List.setIfInBounds_toArray, List.set_cons_zero, List.set_cons_succ]
  refine wpAnyH_take (i := 3) (v := ?_) rfl (by kernel_rfl) (by kernel_rfl) (by kernel_rfl) (fun _ _ _ h => h) (Or.inl ⟨by rfl, ?_⟩) (by assumption) ?_
  rotate_left
  · intro w hSw
    go_simp
    try with_reducible rfl
  simp only [Act.put, List.getElem_toArray, List.getElem_cons_succ, List.getElem_cons_zero, List.setIfInBounds_toArray, List.set_cons_zero, List.set_cons_succ]
  refine wpAnyH_take (i := 7) (v := ?_) rfl (by kernel_rfl) (by kernel_rfl) (by kernel_rfl) (fun _ _ _ h => h) (Or.inl ⟨by rfl, ?_⟩) (by assumption) ?_
  rotate_left
  · intro w hSw
    go_simp
    try with_reducible rfl
  simp only [Act.put, List.getElem_toArray, List.getElem_cons_succ, List.getElem_cons_zero, List.setIfInBounds_toArray, List.set_cons_zero, List.set_cons_succ]
  refine wpAnyH_take (i := 8) (v := ?_) rfl (by kernel_rfl) (by kernel_rfl) (by kernel_rfl) (fun _ _ _ h => h) (Or.inl ⟨by rfl, ?_⟩) (by assumption) ?_
  rotate_left
  · intro w hSw
    go_simp
    try with_reducible rfl
  simp only [Act.put, List.getElem_toArray, List.getElem_cons_succ, List.getElem_cons_zero, List.setIfInBounds_toArray, List.set_cons_zero, List.set_cons_succ]
  refine wpAnyH_ready (rs := [0]) (by kernel_rfl) (by simp) ?_
  refine AllReadyH.cons rfl (fun K hK => ?_) AllReadyH.nil
  go_simp
  refine (WDS.out _).mono ?_
  rintro e w3 ⟨rfl, hb, hcw⟩
  refine hK.out _ _ ?_ (fun hHeld' => ?_)
  · exact skeep2 hHeld hb
  clear hK K hHeld
  have hHeld := hHeld'
  clear hHeld'
  try simp only [Act.put, List.getElem_toArray, List.getElem_cons_succ, List.getElem_cons_zero, List.setIfInBounds_toArray, List.set_cons_zero, List.set_cons_succ]
  refine wpAnyH_switch (S' := fun wx => wx.cell? ⟨w2.heap.size, j, none⟩ = some (.string wd) ∧ (wx.cell? ⟨w.heap.size, 0, none⟩ = some (.int .i64 o.k) ∧ wx.cell? ⟨w.heap.size, 1, none⟩ = some (.int .i64 o.n) ∧ Below w2.heap.size w2 wx ∧ w2.heap.size ≤ wx.heap.size)) (fun _ h => h.2) _ _ _ _ ?_
  have hH2 := And.intro (show w3.cell? ⟨w2.heap.size, j, none⟩ = some (.string wd) from hcw) hHeld
  clear hHeld hb hcw WDS
  have hHeld := hH2
  clear hH2
  refine wpAnyH_take (i := 4) (v := ?_) rfl (by kernel_rfl) (by kernel_rfl) (by kernel_rfl) (fun _ _ _ h => h) (Or.inl ⟨by rfl, ?_⟩) (by assumption) ?_
  rotate_left
  · intro w hSw
    go_simp
    try with_reducible rfl
  simp only [Act.put, List.getElem_toArray, List.getElem_cons_succ, List.getElem_cons_zero, List.setIfInBounds_toArray, List.set_cons_zero, List.set_cons_succ]
  refine wpAnyH_take (i := 5) (v := ?_) rfl (by kernel_rfl) (by kernel_rfl) (by kernel_rfl) (fun _ _ _ h => h) (Or.inl ⟨by rfl, ?_⟩) (by assumption) ?_
  rotate_left
  · intro w hSw
    go_simp
    try with_reducible rfl
  simp only [Act.put, List.getElem_toArray, List.getElem_cons_succ, List.getElem_cons_zero, List.setIfInBounds_toArray, List.set_cons_zero, List.set_cons_succ]
  refine wpAnyH_take (i := 6) (v := ?_) rfl (by kernel_rfl) (by kernel_rfl) (by kernel_rfl) (fun _ _ _ h => h) (Or.inl ⟨by rfl, ?_⟩) (by assumption) ?_
  rotate_left
  · intro w hSw
    go_simp
    try with_reducible rfl
  simp only [Act.put, List.getElem_toArray, List.getElem_cons_succ, List.getElem_cons_zero, List.setIfInBounds_toArray, List.set_cons_zero, List.set_cons_succ]
  refine wpAnyH_ready (rs := [9]) (by kernel_rfl) (by simp) ?_
  refine AllReadyH.cons rfl (fun K hK => ?_) AllReadyH.nil
  go_simp
  refine (IT.out _).mono ?_
  rintro e w4 ⟨rfl, hb⟩
  refine hK.out _ _ ?_ (fun hHeld' => ?_)
  · exact ⟨bcell hHeld.1 hb, skeep2 hHeld.2 hb⟩
  clear hK K hHeld
  have hHeld := hHeld'
  clear hHeld'
  try simp only [Act.put, List.getElem_toArray, List.getElem_cons_succ, List.getElem_cons_zero, List.setIfInBounds_toArray, List.set_cons_zero, List.set_cons_succ]
  clear hb IT
  refine wpAnyH_take (i := 10) (v := ?_) rfl (by kernel_rfl) (by kernel_rfl) (by kernel_rfl) (fun _ _ _ h => h) (Or.inl ⟨by rfl, ?_⟩) (by assumption) ?_
  rotate_left
  · intro w hSw
    go_simp
    try with_reducible rfl
  simp only [Act.put, List.getElem_toArray, List.getElem_cons_succ, List.getElem_cons_zero, List.setIfInBounds_toArray, List.set_cons_zero, List.set_cons_succ]
  refine wpAnyH_take (i := 11) (v := ?_) rfl (by kernel_rfl) (by kernel_rfl) (by kernel_rfl) (fun _ _ _ h => h) (Or.inl ⟨by rfl, ?_⟩) (by assumption) ?_
  rotate_left
  · intro w hSw
    go_simp
    try with_reducible rfl
  simp only [Act.put, List.getElem_toArray, List.getElem_cons_succ, List.getElem_cons_zero, List.setIfInBounds_toArray, List.set_cons_zero, List.set_cons_succ]
  refine wpAnyH_done (by kernel_rfl) ?_ _
  have B4 := Lib.hid hHeld.2.2.2.1
  clear hHeld
  clear r1 r2 hwj hjI hj0 hj1 hj2
  have C4 := Lib.hid (C2.out.keep B4.out)
  have y2 : w4.cell? ⟨w.heap.size, 2, none⟩ = some (.int .i64 o.m) := C4.out.w.cell 2
  go_upto_region 5 with (go_at_call 59; refine (IM.out _).mono ?_; rintro e w5 ⟨rfl, hb⟩; have B5 := Lib.hid (B2.out.trans ((B4.out.trans (hb.mono B4.out.size)).mono B2.out.size)); have C5 := Lib.hid (C4.out.keep hb); clear hb IM)
  clear y2 B4 C4 B2 C2 r3
  have y0 : w5.cell? ⟨w.heap.size, 0, none⟩ = some (.int .i64 o.k) := C5.out.w.cell 0
  go_upto_region 6 with fail
  clear y0
  have hg : (¬ (o.k = 6 ∨ o.k = 9 ∨ o.k = 10) ∧ ¬ o.k = 8 ∧ ¬ o.k = 11 ∧ ¬ o.k = 12) ∨ o.k = 6 ∨ o.k = 9 ∨ o.k = 10 ∨ o.k = 8 ∨ o.k = 11 ∨ o.k = 12 := by omega
  rcases hg with h1 | h1 | h1 | h1 | h1 | h1 | h1
  · skip
    have e6 : (o.k == 6) = false := by rw [beq_eq_false_iff_ne]; omega
    have e9 : (o.k == 9) = false := by rw [beq_eq_false_iff_ne]; omega
    have e10 : (o.k == 10) = false := by rw [beq_eq_false_iff_ne]; omega
    have e8 : (o.k == 8) = false := by rw [beq_eq_false_iff_ne]; omega
    have e11 : (o.k == 11) = false := by rw [beq_eq_false_iff_ne]; omega
    have e12 : (o.k == 12) = false := by rw [beq_eq_false_iff_ne]; omega
    have HW : Hid (a2.data.toList = textO o) := Lib.hid (by rw [HTX.out.1]; show _ = joinW (wordO o.k :: dgs o.n :: moreO o); rw [moreO_0 h1.1 h1.2.1 h1.2.2.1 h1.2.2.2]; rfl)
    clear h1
    go_wp2_with fail
    go_ret2
    rw [HV.out.1, HV.out.2, ← HW.out]
    exact ⟨rfl, B5.out⟩
  · skip
    have e6 : (o.k == 6) = true := by rw [h1]; rfl
    obtain ⟨t1, e1, z1, r1⟩ := add_ba a2 a3 (by have := HZ.out.1; have := HZ.out.2; omega)
    have HW : Hid (t1.data.toList = textO o) := Lib.hid (by rw [e1.out, HTX.out.1, HTX.out.2]; show _ = joinW (wordO o.k :: dgs o.n :: moreO o); rw [moreO_m (by omega)]; simp [joinW])
    clear h1 e1 z1
    go_wp2_with fail
    go_ret2
    rw [HV.out.1, HV.out.2, ← HW.out]
    exact ⟨rfl, B5.out⟩
  · skip
    have e6 : (o.k == 6) = false := by rw [h1]; rfl
    have e9 : (o.k == 9) = true := by rw [h1]; rfl
    obtain ⟨t1, e1, z1, r1⟩ := add_ba a2 a3 (by have := HZ.out.1; have := HZ.out.2; omega)
    have HW : Hid (t1.data.toList = textO o) := Lib.hid (by rw [e1.out, HTX.out.1, HTX.out.2]; show _ = joinW (wordO o.k :: dgs o.n :: moreO o); rw [moreO_m (by omega)]; simp [joinW])
    clear h1 e1 z1
    go_wp2_with fail
    go_ret2
    rw [HV.out.1, HV.out.2, ← HW.out]
    exact ⟨rfl, B5.out⟩
  · skip
    have e6 : (o.k == 6) = false := by rw [h1]; rfl
    have e9 : (o.k == 9) = false := by rw [h1]; rfl
    have e10 : (o.k == 10) = true := by rw [h1]; rfl
    obtain ⟨t1, e1, z1, r1⟩ := add_ba a2 a3 (by have := HZ.out.1; have := HZ.out.2; omega)
    have HW : Hid (t1.data.toList = textO o) := Lib.hid (by rw [e1.out, HTX.out.1, HTX.out.2]; show _ = joinW (wordO o.k :: dgs o.n :: moreO o); rw [moreO_m (by omega)]; simp [joinW])
    clear h1 e1 z1
    go_wp2_with fail
    go_ret2
    rw [HV.out.1, HV.out.2, ← HW.out]
    exact ⟨rfl, B5.out⟩
  · skip
    have e6 : (o.k == 6) = false := by rw [h1]; rfl
    have e9 : (o.k == 9) = false := by rw [h1]; rfl
    have e10 : (o.k == 10) = false := by rw [h1]; rfl
    have e8 : (o.k == 8) = true := by rw [h1]; rfl
    have hd : defOk o.d := by
      rcases opOk_cases HOK.out with ⟨g, _, _⟩ | ⟨g, _, _⟩ | ⟨g, _, _, _⟩ | ⟨_, _, _, gd, _⟩ | ⟨g, _, _, _⟩ | ⟨g, _, _, _⟩ | ⟨g, _, _, _, _⟩ <;> first | exact gd | (exfalso; omega)
    obtain ⟨xd, hxd⟩ : ∃ x : ByteArray, x = ⟨(textD o.d).toArray⟩ := ⟨_, rfl⟩
    have TD := (refDefText_any o.d A n m w5 C5.out.i.d).mono (R' := fun e w' => e = .returned (.tuple #[.string xd, .int .i64 0]) ∧ Below w5.heap.size w5 w') (fun e w' ⟨h, hb⟩ => by
      refine ⟨?_, hb⟩
      rcases h with ⟨_, h⟩ | ⟨h, _⟩
      · rw [hxd]; exact h
      · exact absurd hd h)
    unfold dV at TD
    have TD := Lib.hid TD
    have hxz : xd.size ≤ 2000 := by rw [hxd, Lib.size_mk]; have := textD_le hd; omega
    obtain ⟨t1, e1, z1, r1⟩ := add_ba a2 a3 (by have := HZ.out.1; have := HZ.out.2; omega)
    obtain ⟨t2, e2, z2, r2⟩ := add_ba t1 ⟨#[32]⟩ (by rw [z1]; show _ + 1 ≤ _; have := HZ.out.1; have := HZ.out.2; omega)
    obtain ⟨t3, e3, z3, r3⟩ := add_ba t2 xd (by rw [z2, z1]; show _ + 1 + _ ≤ _; have := HZ.out.1; have := HZ.out.2; omega)
    have HW : Hid (t3.data.toList = textO o) := Lib.hid (by rw [e3.out, e2.out, e1.out, HTX.out.1, HTX.out.2, hxd]; show _ = joinW (wordO o.k :: dgs o.n :: moreO o); rw [moreO_8 h1]; simp [joinW])
    clear h1 e1 e2 e3 z1 z2 z3 hxd hxz hd
    have y6 : w5.cell? ⟨w.heap.size, 6, none⟩ = some (.string o.d.n) := C5.out.w.cell 6
    have y7 : w5.cell? ⟨w.heap.size, 7, none⟩ = some (.int .i64 o.d.r) := C5.out.w.cell 7
    have y8 : w5.cell? ⟨w.heap.size, 8, none⟩ = some (.int .i64 o.d.dl) := C5.out.w.cell 8
    have y9 : w5.cell? ⟨w.heap.size, 9, none⟩ = some (.slice A n m) := C5.out.w.cell 9
    go_wp2_with (go_at_call 60; refine TD.out.mono ?_; rintro e w6 ⟨rfl, hb⟩; have B6 := Lib.hid (B5.out.trans (hb.mono B5.out.size)); clear hb TD y6 y7 y8 y9)
    go_ret2
    rw [HV.out.1, HV.out.2, ← HW.out]
    exact ⟨rfl, B6.out⟩
  · skip
    have e6 : (o.k == 6) = false := by rw [h1]; rfl
    have e9 : (o.k == 9) = false := by rw [h1]; rfl
    have e10 : (o.k == 10) = false := by rw [h1]; rfl
    have e8 : (o.k == 8) = false := by rw [h1]; rfl
    have e11 : (o.k == 11) = true := by rw [h1]; rfl
    have hk : o.key.size ≤ 2000 := by
      rw [← szl]
      rcases opOk_cases HOK.out with ⟨g, _, _⟩ | ⟨g, _, _⟩ | ⟨g, _, _, _⟩ | ⟨g, _, _, gd, _⟩ | ⟨g, _, _, _⟩ | ⟨_, _, gk, _⟩ | ⟨g, _, _, _, _⟩ <;> first | (have := (isName_len gk).2.1; omega) | (exfalso; omega)
    obtain ⟨t1, e1, z1, r1⟩ := add_ba a2 ⟨#[32]⟩ (by show _ + 1 ≤ _; have := HZ.out.1; omega)
    obtain ⟨t2, e2, z2, r2⟩ := add_ba t1 o.key (by rw [z1]; show _ + 1 + _ ≤ _; have := HZ.out.1; omega)
    have HW : Hid (t2.data.toList = textO o) := Lib.hid (by rw [e2.out, e1.out, HTX.out.1]; show _ = joinW (wordO o.k :: dgs o.n :: moreO o); rw [moreO_11 h1]; simp [joinW])
    clear h1 e1 e2 z1 z2 hk
    have y3 : w5.cell? ⟨w.heap.size, 3, none⟩ = some (.string o.key) := C5.out.w.cell 3
    go_wp2_with fail
    go_ret2
    rw [HV.out.1, HV.out.2, ← HW.out]
    exact ⟨rfl, B5.out⟩
  · skip
    have e6 : (o.k == 6) = false := by rw [h1]; rfl
    have e9 : (o.k == 9) = false := by rw [h1]; rfl
    have e10 : (o.k == 10) = false := by rw [h1]; rfl
    have e8 : (o.k == 8) = false := by rw [h1]; rfl
    have e11 : (o.k == 11) = false := by rw [h1]; rfl
    have e12 : (o.k == 12) = true := by rw [h1]; rfl
    have hd : okR o.f o.t = true := by
      rcases opOk_cases HOK.out with ⟨g, _, _⟩ | ⟨g, _, _⟩ | ⟨g, _, _, _⟩ | ⟨g, _, _, _, _⟩ | ⟨g, _, _, _⟩ | ⟨g, _, _, _⟩ | ⟨_, _, _, gd, _⟩ <;> first | exact gd | (exfalso; omega)
    obtain ⟨xd, hxd⟩ : ∃ x : ByteArray, x.data.toList = rtxt o.f.data.toList o.t.data.toList := ⟨⟨(rtxt o.f.data.toList o.t.data.toList).toArray⟩, rfl⟩
    have TD := (Rg.refText_yes o.f o.t w5 hd).mono (R' := fun e w' => e = .returned (.tuple #[.string xd, .int .i64 0]) ∧ Below w5.heap.size w5 w') (fun e w' ⟨⟨x, hx, h⟩, hb⟩ => by
      refine ⟨?_, hb⟩
      rw [h, show x = xd by rw [← ba_eta x, ← ba_eta xd, hx, hxd]])
    have TD := Lib.hid TD
    have hxz : xd.size ≤ 2000 := by
      have h1 := okS_len (okR_left hd)
      have h2 := okS_len (okR_right hd)
      rw [← szl, hxd]
      unfold rtxt
      simp only [List.length_append, List.length_cons, List.length_nil]
      omega
    obtain ⟨t1, e1, z1, r1⟩ := add_ba a2 ⟨#[32]⟩ (by show _ + 1 ≤ _; have := HZ.out.1; omega)
    obtain ⟨t2, e2, z2, r2⟩ := add_ba t1 xd (by rw [z1]; show _ + 1 + _ ≤ _; have := HZ.out.1; omega)
    obtain ⟨t3, e3, z3, r3⟩ := add_ba t2 a3 (by rw [z2, z1]; show _ + 1 + _ + _ ≤ _; have := HZ.out.1; have := HZ.out.2; omega)
    have HW : Hid (t3.data.toList = textO o) := Lib.hid (by rw [e3.out, e2.out, e1.out, HTX.out.1, HTX.out.2, hxd]; show _ = joinW (wordO o.k :: dgs o.n :: moreO o); rw [moreO_12 h1]; simp [joinW])
    clear h1 e1 e2 e3 z1 z2 z3 hxd hxz hd
    have y4 : w5.cell? ⟨w.heap.size, 4, none⟩ = some (.string o.f) := C5.out.w.cell 4
    have y5 : w5.cell? ⟨w.heap.size, 5, none⟩ = some (.string o.t) := C5.out.w.cell 5
    go_wp2_with (go_at_call 61; refine TD.out.mono ?_; rintro e w6 ⟨rfl, hb⟩; have B6 := Lib.hid (B5.out.trans (hb.mono B5.out.size)); clear hb TD y4 y5)
    go_ret2
    rw [HV.out.1, HV.out.2, ← HW.out]
    exact ⟨rfl, B6.out⟩
end Go.Proofs.YtojodekmmkemgaaGreatDoor
