/- The bytes of a definition, by the reference. Condition: the texts are no longer than an int can say. -/
import Derived.Test.YtgjnmfmbheejoaaGreatDoorDfEnc
import Derived.Test.YtgjnmfmbheejoaaGreatDoorRwr2
namespace Go.Proofs.YtgjnmfmbheejoaaGreatDoor
open Go.RowKit Go.Shelf

theorem preD_one (d : Dv) : preD d 0 ++ uvB d.r.toNat = preD d 1 := preD_next rfl
theorem preD_two (d : Dv) : preD d 1 ++ uvB d.dl.toNat = preD d 2 := preD_next rfl
theorem preD_three (d : Dv) : preD d 2 ++ uvB d.s.length = preD d 3 := preD_next rfl
set_option maxRecDepth 100000 in
set_option maxHeartbeats 8000000 in
theorem refDefEncode_any (d : Dv) (A : Option Addr) (n c : Nat) (w : World) (h : DefAt w A n c d) :
    Calls Tryz.prog 75 #[dV d A n c] w fun e w' => EncR w w' d e ∧ Below w.heap.size w w' := by
  have b1 := (Below.refl w.heap.size w).alloc (Nat.le_refl _) (.cells #[.string d.n, .int .i64 d.r, .int .i64 d.dl, .slice A n c] 31)
  have CK := Lib.hid (refDefCheck_any d A n c _ (h.keep b1))
  have HW0 := Lib.hid (Whole.new w 31 #[.string d.n, .int .i64 d.r, .int .i64 d.dl, .slice A n c])
  have HB := Lib.hid b1
  have H := Lib.hid h
  have hbig := h.big
  unfold dV at CK ⊢
  clear h b1
  by_cases hok : defOk d
  case neg =>
    rw [ckD_no hok] at CK
    have HN := Lib.hid hok
    clear hok
    go_enter Tryz.func75, Tryz.ntmps75
    go_wp2_with (go_at_call 132; refine CK.out.mono ?_; rintro e w1 ⟨rfl, hb⟩)
    go_ret2
    exact ⟨Or.inr ⟨HN.out, rfl⟩, HB.out.trans (hb.mono HB.out.size)⟩
  rw [ckD_yes hok] at CK
  have HOK := Lib.hid hok
  have HL := Lib.hid H.out.len
  have hnl : d.n.size ≤ 1000000000 := by have := (isName_len hok.1).2.1; rw [Lib.size_eq]; omega
  obtain ⟨_, r0, r1, t0, t1, n1, n8, _⟩ := id hok
  rw [HL.out] at n1 n8
  have er : ((d.r.toNat : Nat) : Int) = d.r := by omega
  have et : ((d.dl.toNat : Nat) : Int) = d.dl := by omega
  have HR : Hid (d.r.toNat ≤ 1000000 ∧ d.dl.toNat ≤ 1000000 ∧ d.s.length = n) := Lib.hid ⟨by omega, by omega, HL.out⟩
  have ur : IntKind.u64.wrap d.r = d.r := by rw [IntKind.wrap_u64]; omega
  have ut : IntKind.u64.wrap d.dl = d.dl := by rw [IntKind.wrap_u64]; omega
  have un : IntKind.u64.wrap (n : Int) = (n : Int) := by rw [IntKind.wrap_u64]; omega
  have HPL := Lib.hid (fun k => preD_len (defOk_hd HOK.out) k)
  clear hok
  go_enter Tryz.func75, Tryz.ntmps75
  go_upto_region 4 with (first
    | (go_at_call 132; refine CK.out.mono ?_; rintro e w1 ⟨rfl, hb⟩)
    | (go_at_call 67; refine (rnew_any _).mono ?_; rintro e w2 ⟨rfl, rfl⟩))
  have BW := Lib.hid (HB.out.trans (hb.mono HB.out.size))
  have HW1 := Lib.hid (HW0.out.keep hb)
  clear CK hb HW0 HB r0 r1 t0 t1
  have HT := Lib.hid (rtext_w w1.heap.size w1.heap.size d.n [] _ (WrQ.new w1 (Nat.le_refl _)) hnl (by simp))
  rw [← preD_zero] at HT
  have BN := Lib.hid ((Below.refl _ w1).alloc (Nat.le_refl _) (.cells #[.bool true, .slice none 0 0] 170))
  generalize hwn : w1.alloc (.cells #[.bool true, .slice none 0 0] 170) = wn at HT BN ⊢
  clear hwn
  have x0 := (HW1.out.keep BN.out).cell 0
  simp only [List.getElem?_toArray, List.getElem?_cons_zero] at x0
  go_upto_region 5 with (go_at_call 70; refine HT.out.mono ?_; rintro e w3 ⟨rfl, hP3, hK3⟩)
  have B3 := Lib.hid (BN.out.trans hK3.1)
  have U := Lib.hid (ruint_w w1.heap.size w1.heap.size d.r.toNat _ w3 hP3 (by have := HR.out.1; omega) (by have := HPL.out 0; omega))
  rw [preD_one, er] at U
  have x1 := (HW1.out.keep B3.out).cell 1
  simp only [List.getElem?_toArray, List.getElem?_cons_succ, List.getElem?_cons_zero] at x1
  clear hP3 hK3 x0 HT BN
  go_upto_region 6 with (go_at_call 68; refine U.out.mono ?_; rintro e w4 ⟨rfl, hP4, hK4⟩)
  have B4 := Lib.hid (B3.out.trans hK4.1)
  have U2 := Lib.hid (ruint_w w1.heap.size w1.heap.size d.dl.toNat _ w4 hP4 (by have := HR.out.2.1; omega) (by have := HPL.out 1; omega))
  rw [preD_two, et] at U2
  have x2 := (HW1.out.keep B4.out).cell 2
  simp only [List.getElem?_toArray, List.getElem?_cons_succ, List.getElem?_cons_zero] at x2
  clear hP4 hK4 x1 U B3
  go_upto_region 7 with (go_at_call 68; refine U2.out.mono ?_; rintro e w5 ⟨rfl, hP5, hK5⟩)
  have B5 := Lib.hid (B4.out.trans hK5.1)
  have U3 := Lib.hid (ruint_w w1.heap.size w1.heap.size d.s.length _ w5 hP5 (by have := HR.out.2.2; omega) (by have := HPL.out 2; omega))
  rw [preD_three, HL.out] at U3
  have x3 := (HW1.out.keep B5.out).cell 3
  simp only [List.getElem?_toArray, List.getElem?_cons_succ, List.getElem?_cons_zero] at x3
  clear hP5 hK5 x2 U2 B4
  go_upto_region 8 with (go_at_call 68; refine U3.out.mono ?_; rintro e w6 ⟨rfl, hP6, hK6⟩)
  have hlt := HW1.out.lt
  have J0 : Hid (WrQ w6 w1.heap.size w1.heap.size (bysD d 0) ∧ Below w1.heap.size w1 w6) := Lib.hid ⟨by rw [bysD_zero]; exact hP6, B5.out.trans hK6.1⟩
  have HBL := Lib.hid (fun k => bysD_len HOK.out k)
  clear hP6 hK6 U3 B5 x3 er et ur ut un HPL HR
  go_wp2_with fail
  go_loopw [5] (fun i wr => ∃ k : Nat, k ≤ n ∧ i = .int .i64 k ∧ Hid (WrQ wr w1.heap.size w1.heap.size (bysD d k) ∧ Below w1.heap.size w1 wr)) (fun i _ => n - (intOf i).toNat)
  case atStart => exact ⟨0, by omega, rfl, J0⟩
  case round =>
    clear J0
    obtain ⟨k, hk, rfl, HI⟩ := hrel
    have x3 := (HW1.out.below HI.out.2 hlt).cell 3
    simp only [List.getElem?_toArray, List.getElem?_cons_succ, List.getElem?_cons_zero] at x3
    by_cases hkn : k < n
    · obtain ⟨p, hp⟩ : ∃ p, d.s[k]? = some p := ⟨_, List.getElem?_eq_getElem (by rw [HL.out]; exact hkn)⟩
      have BT := BW.out.trans (HI.out.2.mono (by have := hlt; omega))
      obtain ⟨g, o, rfl, y0, y1⟩ := H.out.s.keep BT k p hp
      have hst := HOK.out.2.2.2.2.2.2.2.all (List.mem_of_getElem? hp)
      obtain ⟨hq1, _, hq3, hq4⟩ := stOk_parts hst
      have hkl : p.k.size ≤ 1000000000 := by have := (isName_len hq1).2.1; rw [Lib.size_eq]; omega
      have T := Lib.hid (rtext_w w1.heap.size w1.heap.size p.k (bysD d k) _ HI.out.1 hkl (by have := HBL.out k; omega))
      have HN := Lib.hid (bysD_next hp)
      have HP := Lib.hid hp
      have HV := Lib.hid (And.intro hq3 hq4)
      have HTL : Hid ((bysD d k ++ txB p.k.data.toList).length ≤ 1000) := Lib.hid (by
        have h1 := HBL.out k
        have h2 := txB_len p.k.data.toList (by have := (isName_len hq1).2.1; omega)
        have h3 := (isName_len hq1).2.1
        rw [List.length_append]; omega)
      have hk0 : (0 : Int) ≤ (k : Int) := by omega
      have hkn' : (k : Int) < (n : Int) := by omega
      have hwk : IntKind.i64.wrap ((k : Int) + 1) = (k : Int) + 1 := IntWalk.i64_in _ (by omega)
      have HBT := Lib.hid BT
      clear hp BT hst hq1 hq3 hq4
      go_upto_region 12 with (go_at_call 70; refine T.out.mono ?_; rintro e w7 ⟨rfl, hP7, hK7⟩)
      have B7 := Lib.hid (HI.out.2.trans hK7.1)
      obtain ⟨g2, o2, hgg, y0', y1'⟩ := H.out.s.keep (BW.out.trans (B7.out.mono (by have := hlt; omega))) k p HP.out
      cases hgg
      have z3 := (HW1.out.below B7.out hlt).cell 3
      simp only [List.getElem?_toArray, List.getElem?_cons_succ, List.getElem?_cons_zero] at z3
      have T2 := Lib.hid (rint_w w1.heap.size w1.heap.size p.v _ w7 hP7 (by have := HV.out.1; omega) (by have := HV.out.2; omega) (by have := HTL.out; omega))
      clear hP7 hK7 x3 y0 y1
      go_wp2_with (go_at_call 69; refine T2.out.mono ?_; rintro e w8 ⟨rfl, hP8, hK8⟩)
      go_roundw
      case rel => exact ⟨k + 1, by omega, by go_num, Lib.hid ⟨by rw [← HN.out]; unfold spB; rw [← List.append_assoc]; exact hP8, B7.out.trans hK8.1⟩⟩
      case measure => simp [intOf]; omega
    · obtain rfl : k = n := by omega
      have F := Lib.hid (rbytes_w w1.heap.size w1.heap.size _ wr HI.out.1 (by have := HBL.out k; omega))
      have HE := Lib.hid ((congrArg (bysD d) HL.out).symm.trans (bysD_all d))
      have BT := Lib.hid (BW.out.trans (HI.out.2.mono (by have := hlt; omega)))
      clear HI
      go_wp2_with (go_at_call 72; refine F.out.mono ?_; rintro e w7 ⟨⟨v7, rfl, ho7⟩, hB7⟩)
      go_ret2
      refine ⟨Or.inl ⟨HOK.out, _, rfl, ?_⟩, BT.out.trans (hB7.mono BT.out.size)⟩
      rw [HE.out] at ho7
      exact ho7.mono (by exact BT.out.size)
end Go.Proofs.YtgjnmfmbheejoaaGreatDoor
