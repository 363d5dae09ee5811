/- The text of a definition, by the program. Conditions: the texts are no longer than an int can say; the program's own variables lie as its start lays them. -/
import Derived.Test.YtgeljnjcpkmlmaaGreatDoorDfEnv
import Derived.Deep.RegionHeld3
import Derived.Deep.AppendLies
namespace Go.Proofs.YtgeljnjcpkmlmaaGreatDoor
open Go.RowKit Go.Shelf

/-- What Text answers. -/
def TxtR (d : Dv) (e : Ending) : Prop :=
  (defOk d ∧ e = .returned (.tuple #[.string ⟨(textD d).toArray⟩, .int .i64 0])) ∨ (¬ defOk d ∧ e = .returned (.tuple #[.string ⟨#[]⟩, .int .i64 15]))
theorem nDig_le : ∀ (k u : Nat), u < 10 ^ (k + 1) → Lib.nDigits u ≤ k + 1
  | 0, u, h => by rw [Lib.nDigits_small (by simpa using h)]; omega
  | k + 1, u, h => by
    by_cases h0 : u < 10
    · rw [Lib.nDigits_small h0]; omega
    · rw [Nat.pow_succ] at h
      have := nDig_le k (u / 10) (by omega)
      rw [Lib.nDigits_big h0]; omega
theorem dgs_le {a : Int} (h : a ≤ 9223372036854775808) : (dgs a).length ≤ 19 := by
  unfold dgs
  rw [Lib.decDigits_length]
  exact nDig_le 18 _ (by omega)
theorem sgn_le {v : Int} (h1 : -9223372036854775808 ≤ v) (h2 : v ≤ 9223372036854775807) : (sgn v).length ≤ 20 := by
  have a := dgs_le (a := v) (by omega)
  have b := dgs_le (a := -v) (by omega)
  unfold sgn; split <;> simp <;> omega
theorem fmt_le {v : Int} (h1 : -9223372036854775808 ≤ v) (h2 : v ≤ 9223372036854775807) : (fmtV v).length ≤ 20 := by
  have a := dgs_le (a := v) (by omega)
  have b := sgn_le h1 h2
  unfold fmtV; split <;> omega
theorem spW_le {p : Sp} (h : stOk p = true) : (spW p).length ≤ 40 := by
  obtain ⟨h1, _, h3, h4⟩ := stOk_parts h
  have a := (isName_len h1).2.1
  have b := sgn_le (v := p.v) (by omega) (by omega)
  unfold spW; rw [List.length_append]; omega
theorem joinW_le {m : Nat} : ∀ (ws : List (List UInt8)), (∀ w ∈ ws, w.length ≤ m) → (joinW ws).length ≤ ws.length * (m + 1)
  | [], _ => by simp [joinW]
  | [a], h => by have := h a (by simp); simp [joinW]; omega
  | a :: b :: l, h => by
    have h1 := h a (by simp)
    have h2 := joinW_le (b :: l) (fun w hw => h w (by simp only [List.mem_cons] at hw ⊢; exact Or.inr hw))
    simp only [joinW, List.length_append, List.length_cons, Nat.add_mul] at h2 ⊢
    omega
theorem textD_le {d : Dv} (h : defOk d) : (textD d).length ≤ 451 := by
  have h1 := joinW_le (m := 40) (wordsD d) (fun w hw => by
    unfold wordsD at hw
    simp only [List.mem_cons, List.mem_map] at hw
    rcases hw with rfl | rfl | rfl | ⟨p, hp, rfl⟩
    · have := (isName_len h.1).2.1; omega
    · have := dgs_le (a := d.r) (by have := h.2.2.1; omega); omega
    · have := dgs_le (a := d.dl) (by have := h.2.2.2.2.1; omega); omega
    · exact spW_le (h.2.2.2.2.2.2.2.all hp))
  have h2 := wordsD_len d
  have h3 := h.2.2.2.2.2.2.1
  unfold textD
  rw [h2] at h1
  omega
/-- The words of a definition with its first steps, as texts. -/
def wdsB (d : Dv) (k : Nat) : List ByteArray := d.n :: ⟨(dgs d.r).toArray⟩ :: ⟨(dgs d.dl).toArray⟩ :: (d.s.take k).map (fun p => ⟨(spW p).toArray⟩)
theorem wdsB_next {d : Dv} {k : Nat} {p : Sp} (h : d.s[k]? = some p) : wdsB d k ++ [⟨(spW p).toArray⟩] = wdsB d (k + 1) := by
  unfold wdsB
  rw [List.take_add_one, h]
  simp
theorem wdsB_len {d : Dv} {k : Nat} (h : k ≤ d.s.length) : (wdsB d k).length = k + 3 := by
  unfold wdsB; simp; omega
theorem wdsB_all (d : Dv) : (wdsB d d.s.length).map (·.data.toList) = wordsD d := by
  unfold wdsB wordsD
  rw [List.take_length]
  simp [Function.comp_def]
def sV (s : ByteArray) : Value := .string s
theorem app_word (base : Nat) (v : Value) (xs : List ByteArray) (t : ByteArray) (W : World) (hown : W.ownsRow base 9 1 v xs.length (xs.map sV)) (hb : base ≤ W.heap.size) (hn : xs.length ≤ 1000000000) :
    ∃ v' w', (Builtin.append_ #[27, 27] 27 #[v, .slice (some ⟨W.heap.size, 0, none⟩) 1 1]).run Tryz.prog (W.alloc (.cells #[.string t] 9)) = .ok v' w' ∧ w'.ownsRow base 9 1 v' (xs ++ [t]).length ((xs ++ [t]).map sV) ∧ (W.alloc (.cells #[.string t] 9)).grownBy w' v.ownBlock := by
  obtain ⟨v', w', h1, h2, h3⟩ := run_app_text (W.alloc (.cells #[.string t] 9)) base v xs.length (xs.map sV) (hown.alloc _) ⟨W.heap.size, 0, none⟩ 1 1 [.string t] rfl (news_at W _ [.string t] _ rfl) (by simp [Value.oneCell']) (by omega) (by simp; omega)
  refine ⟨v', w', h1, ?_, h3⟩
  rw [List.length_append, List.map_append]
  exact h2
theorem tkeep {w w0 wc w2 : World} {B : Nat} {x y z u : Value} (hH : wc.cell? ⟨B, 0, none⟩ = some x ∧ wc.cell? ⟨B, 1, none⟩ = some y ∧ wc.cell? ⟨B, 2, none⟩ = some z ∧ wc.cell? ⟨B, 3, none⟩ = some u ∧ DfE wc ∧ Below w0.heap.size w wc ∧ w0.heap.size ≤ wc.heap.size)
    (hb : Below wc.heap.size wc w2) : w2.cell? ⟨B, 0, none⟩ = some x ∧ w2.cell? ⟨B, 1, none⟩ = some y ∧ w2.cell? ⟨B, 2, none⟩ = some z ∧ w2.cell? ⟨B, 3, none⟩ = some u ∧ DfE w2 ∧ Below w0.heap.size w w2 ∧ w0.heap.size ≤ w2.heap.size := by
  obtain ⟨h0, h1, h2, h3, h4, h5, h6⟩ := hH
  exact ⟨bcell h0 hb, bcell h1 hb, bcell h2 hb, bcell h3 hb, h4.keep hb, h5.trans (hb.mono h6), Nat.le_trans h6 hb.size⟩
theorem tenv {w w0 wc : World} {B : Nat} {x y z u : Value} (hH : wc.cell? ⟨B, 0, none⟩ = some x ∧ wc.cell? ⟨B, 1, none⟩ = some y ∧ wc.cell? ⟨B, 2, none⟩ = some z ∧ wc.cell? ⟨B, 3, none⟩ = some u ∧ DfE wc ∧ Below w0.heap.size w wc ∧ w0.heap.size ≤ wc.heap.size) : DfE wc := hH.2.2.2.2.1
theorem ukeep {w wc w2 : World} {C B : Nat} {x y : Value} (hH : wc.cell? ⟨C, 0, none⟩ = some x ∧ wc.cell? ⟨C, 1, none⟩ = some y ∧ Below B w wc ∧ B ≤ wc.heap.size)
    (hb : Below wc.heap.size wc w2) : w2.cell? ⟨C, 0, none⟩ = some x ∧ w2.cell? ⟨C, 1, none⟩ = some y ∧ Below B w w2 ∧ B ≤ w2.heap.size := by
  obtain ⟨h0, h1, h2, h3⟩ := hH
  exact ⟨bcell h0 hb, bcell h1 hb, h2.trans (hb.mono h3), Nat.le_trans h3 hb.size⟩
theorem txt_pack {w wa w5 : World} {base C : Nat} {v x y : Value} {xs : List ByteArray} {cs : Array Value} (t : ByteArray) (hS : wa.cell? ⟨C, 0, none⟩ = some x ∧ wa.cell? ⟨C, 1, none⟩ = some y ∧ Below base w wa ∧ base ≤ wa.heap.size)
    (hO : wa.ownsRow base 9 1 v xs.length (xs.map sV)) (hW : Whole wa C 37 cs) (hl : xs.length ≤ 1000000000) (hb : Below wa.heap.size wa w5) :
    Hid (w5.cell? ⟨C, 0, none⟩ = some x ∧ w5.cell? ⟨C, 1, none⟩ = some y ∧ Below base w w5 ∧ base ≤ w5.heap.size) ∧
    Hid ((w5.alloc (.cells #[.string t] 9)).cell? ⟨C, 0, none⟩ = some x ∧ (w5.alloc (.cells #[.string t] 9)).cell? ⟨C, 1, none⟩ = some y ∧ Below base w (w5.alloc (.cells #[.string t] 9)) ∧ base ≤ (w5.alloc (.cells #[.string t] 9)).heap.size) ∧
    ∃ v6 w6, Hid ((Builtin.append_ #[27, 27] 27 #[v, .slice (some ⟨w5.heap.size, 0, none⟩) 1 1]).run Tryz.prog (w5.alloc (.cells #[.string t] 9)) = .ok v6 w6) ∧ Hid (w6.ownsRow base 9 1 v6 (xs ++ [t]).length ((xs ++ [t]).map sV)) ∧
      Hid (w6.cell? ⟨C, 0, none⟩ = some x ∧ w6.cell? ⟨C, 1, none⟩ = some y ∧ Below base w w6 ∧ base ≤ w6.heap.size) := by
  have OA5 := hO.kept (gbelow hb) (Classical.em _)
  have hW5 := hW.keep hb
  have SB := ukeep hS hb
  have SC := ukeep SB ((Below.refl _ _).alloc (Nat.le_refl _) (.cells #[.string t] 9))
  obtain ⟨v6, w6, hrun6, hown6, hgr6⟩ := app_word base v xs t w5 OA5 SB.2.2.2 hl
  have hne := own_ne OA5 hW5 (show (37 : TypeId) ≠ 9 by decide)
  exact ⟨SB, SC, v6, w6, hrun6, hown6, gcell SC.1 hgr6 hne, gcell SC.2.1 hgr6 hne, SC.2.2.1.grown hgr6 SC.2.2.2 (fun k e => (OA5.lt k e).1), Nat.le_trans SC.2.2.2 hgr6.size⟩
set_option maxRecDepth 100000 in
set_option maxHeartbeats 8000000 in
theorem defText_any (d : Dv) (A : Option Addr) (n c : Nat) (w : World) (h : DefAt w A n c d) (hE : DfE w) :
    Calls Tryz.prog 23 #[dV d A n c] w fun e w' => TxtR d e ∧ Below w.heap.size w w' := by
  have b1 := (Below.refl w.heap.size w).alloc (Nat.le_refl _) (.cells #[.string d.n, .int .i64 d.r, .int .i64 d.dl, .slice A n c] 24)
  have CK := Lib.hid (defCheck_any d A n c _ (h.keep b1))
  have HW0 := Lib.hid (Whole.new w 24 #[.string d.n, .int .i64 d.r, .int .i64 d.dl, .slice A n c])
  have HB := Lib.hid b1
  have H := Lib.hid h
  have HE := Lib.hid hE
  have hbig := h.big
  unfold dV at CK ⊢
  clear h b1 hE
  by_cases hok : defOk d
  case neg =>
    rw [ckD_no hok] at CK
    have HN := Lib.hid hok
    clear hok
    go_enter Tryz.func23, Tryz.ntmps23
    go_wp2_with (go_at_call 25; refine CK.out.mono ?_; rintro e w1 ⟨rfl, hb⟩)
    go_ret2
    exact ⟨Or.inr ⟨HN.out, rfl⟩, HB.out.trans (hb.mono HB.out.size)⟩
  rw [ckD_yes hok] at CK
  have HOK := Lib.hid hok
  have HL := Lib.hid H.out.len
  have TL := Lib.hid (textD_le hok)
  obtain ⟨_, r0, r1, t0, t1, n1, n8, _⟩ := id hok
  rw [HL.out] at n1 n8
  clear hok
  go_enter Tryz.func23, Tryz.ntmps23
  go_upto_region 4 with (go_at_call 25; refine CK.out.mono ?_; rintro e w1 ⟨rfl, hb⟩)
  have BW := Lib.hid (HB.out.trans (hb.mono HB.out.size))
  have HW1 := Lib.hid (HW0.out.keep hb)
  have SA : Hid (w1.drew.cell? ⟨w.heap.size, 0, none⟩ = some (.string d.n) ∧ w1.drew.cell? ⟨w.heap.size, 1, none⟩ = some (.int .i64 d.r) ∧ w1.drew.cell? ⟨w.heap.size, 2, none⟩ = some (.int .i64 d.dl) ∧ w1.drew.cell? ⟨w.heap.size, 3, none⟩ = some (.slice A n c) ∧ DfE w1.drew ∧ Below w.heap.size w w1.drew ∧ w.heap.size ≤ w1.drew.heap.size) :=
    Lib.hid ⟨HW1.out.cell 0, HW1.out.cell 1, HW1.out.cell 2, HW1.out.cell 3, HE.out.keep BW.out.drew, BW.out.drew, BW.out.size⟩
  clear CK hb HW0 HB
  go_wp2_with fail
  go_region_held3 (fun wx => wx.cell? ⟨w.heap.size, 0, none⟩ = some (.string d.n) ∧ wx.cell? ⟨w.heap.size, 1, none⟩ = some (.int .i64 d.r) ∧ wx.cell? ⟨w.heap.size, 2, none⟩ = some (.int .i64 d.dl) ∧ wx.cell? ⟨w.heap.size, 3, none⟩ = some (.slice A n c) ∧ DfE wx ∧ Below w.heap.size w wx ∧ w.heap.size ≤ wx.heap.size)
    (first | exact SA.out | assumption | (refine tkeep ?_ hb2; assumption) | (refine tkeep ?_ ((Below.refl _ _).alloc (Nat.le_refl _) _); assumption))
    (first | (go_at_call 46; refine (itoa_any _ (by omega) (by omega) _ ?_).mono ?_; (apply tenv; assumption); rintro e w2 ⟨rfl, hb2⟩))
  rename_i hF
  obtain ⟨_, _, _, f3, _, fB, _⟩ := hF
  have hbs : w.heap.size ≤ w2.heap.size := by have := lt_cell f3; simp at this; omega
  have J0 : Hid ((w2.alloc (.cells #[.string d.n, .string ⟨(dgs d.r).toArray⟩, .string ⟨(dgs d.dl).toArray⟩] 9)).ownsRow w.heap.size 9 1 (.slice (some ⟨w2.heap.size, 0, none⟩) 3 3) (wdsB d 0).length ((wdsB d 0).map sV) ∧ Below w.heap.size w (w2.alloc (.cells #[.string d.n, .string ⟨(dgs d.r).toArray⟩, .string ⟨(dgs d.dl).toArray⟩] 9))) :=
    Lib.hid ⟨World.ownsRow_lit w2 #[.string d.n, .string ⟨(dgs d.r).toArray⟩, .string ⟨(dgs d.dl).toArray⟩] 3 hbs (by decide) rfl, fB⟩
  generalize hwz : w2.alloc (.cells #[.string d.n, .string ⟨(dgs d.r).toArray⟩, .string ⟨(dgs d.dl).toArray⟩] 9) = wz at J0 f3 ⊢
  clear hwz SA fB hbs r0 r1 t0 t1
  go_wp2_with fail
  clear f3
  have HWL := Lib.hid (fun k (hk : k ≤ n) => wdsB_len (d := d) (k := k) (by rw [HL.out]; exact hk))
  go_loopw [5, 26] (fun v i wr => ∃ k : Nat, k ≤ n ∧ i = .int .i64 k ∧ Hid (wr.ownsRow w.heap.size 9 1 v (wdsB d k).length ((wdsB d k).map sV) ∧ Below w.heap.size w wr)) (fun _ i _ => n - (intOf i).toNat)
  case atStart => exact ⟨0, by omega, rfl, J0⟩
  case round =>
    clear J0
    obtain ⟨k, hk, rfl, HI⟩ := hrel
    by_cases hkn : k < n
    · obtain ⟨p, hp⟩ : ∃ p, d.s[k]? = some p := ⟨_, List.getElem?_eq_getElem (by rw [HL.out]; exact hkn)⟩
      obtain ⟨g, o, rfl, y0, y1⟩ := H.out.s.keep HI.out.2 k p hp
      have hst := HOK.out.2.2.2.2.2.2.2.all (List.mem_of_getElem? hp)
      obtain ⟨hq1, hq2, hq3, hq4⟩ := stOk_parts hst
      have hkl : p.k.size ≤ 1000000000 := by have := (isName_len hq1).2.1; rw [Lib.size_eq]; omega
      have hfl := fmt_le (v := p.v) (by omega) (by omega)
      have BA := (Below.refl _ wr).alloc (Nat.le_refl _) (.cells #[.string p.k, .int .i64 p.v] 37)
      have NA := Whole.new wr 37 #[.string p.k, .int .i64 p.v]
      have HN := Lib.hid (wdsB_next hp)
      have FC := Lib.hid (fun (W : World) (hE : DfE W) => fmt_any p.v (by omega) (by omega) hq2 W hE)
      have hk0 : (0 : Int) ≤ (k : Int) := by omega
      have hkn' : (k : Int) < (n : Int) := by omega
      have hwk : IntKind.i64.wrap ((k : Int) + 1) = (k : Int) + 1 := IntWalk.i64_in _ (by omega)
      have OA := HI.out.1.kept (gbelow BA) (Classical.em _)
      have BB := Lib.hid (HI.out.2.trans (BA.mono HI.out.2.size))
      have AW := Lib.hid (fun (v : Value) (t : ByteArray) (W : World) (hown : W.ownsRow w.heap.size 9 1 v (wdsB d k).length ((wdsB d k).map sV)) (hb : w.heap.size ≤ W.heap.size) => app_word w.heap.size v (wdsB d k) t W hown hb (by have := HWL.out k hk; omega))
      by_cases hv : 0 < p.v
      · have z1 : ((⟨#[43]⟩ : ByteArray)).size = 1 := rfl
        have z2 : ((⟨(fmtV p.v).toArray⟩ : ByteArray)).size = (fmtV p.v).length := Lib.size_mk _
        obtain ⟨t1, e1, m1, s1⟩ := add_ba p.k ⟨#[43]⟩ (by rw [z1]; omega)
        obtain ⟨t2, e2, m2, s2⟩ := add_ba t1 ⟨(fmtV p.v).toArray⟩ (by rw [m1, z2, z1]; omega)
        have ET : Hid (t2 = ⟨(spW p).toArray⟩) := Lib.hid (by
          rw [← ba_eta t2, e2.out, e1.out]
          unfold spW fmtV sgn; simp [hv])
        clear m1 m2 e1 e2 hp hst hq1 hq2 hq3 hq4 hkl hfl z1 z2
        generalize hwa : wr.alloc (.cells #[.string p.k, .int .i64 p.v] 37) = wa at NA OA BB BA
        have hwz : w.heap.size ≤ wa.heap.size := BB.out.size
        have SA : Hid (wa.drew.cell? ⟨wr.heap.size, 0, none⟩ = some (.string p.k) ∧ wa.drew.cell? ⟨wr.heap.size, 1, none⟩ = some (.int .i64 p.v) ∧ Below w.heap.size w wa.drew ∧ w.heap.size ≤ wa.drew.heap.size) := Lib.hid ⟨NA.cell 0, NA.cell 1, BB.out.drew, BB.out.size⟩
        have TP := Lib.hid (fun (w5 : World) (hb : Below wa.drew.heap.size wa.drew w5) => txt_pack (wa := wa.drew) t2 SA.out OA.drew NA (by have := HWL.out k hk; omega) hb)
        have p0 := NA.cell 0
        have p1 := NA.cell 1
        simp only [List.getElem?_toArray, List.getElem?_cons_succ, List.getElem?_cons_zero] at p0 p1
        clear OA NA BA
        go_upto_region 11 with fail
        go_wp2_with fail
        go_region_held3 (fun wx => wx.cell? ⟨wr.heap.size, 0, none⟩ = some (.string p.k) ∧ wx.cell? ⟨wr.heap.size, 1, none⟩ = some (.int .i64 p.v) ∧ Below w.heap.size w wx ∧ w.heap.size ≤ wx.heap.size)
          (first | exact SA.out | assumption | exact SB.out | exact SC.out | exact SD.out)
          (first
            | (go_at_call 47; refine (FC.out _ (HE.out.keep BB.out.drew)).mono ?_; rintro e w5 ⟨rfl, hb5⟩; obtain ⟨SB, SC, v6, w6, RN, HO6, SD⟩ := TP.out w5 hb5; clear hb5)
            | (refine step_append_run (by rfl) (.tmp 33) (.tmp 42) 27 27 (by rfl) (by rfl) (by rfl) RN.out ?_))
        have HZ := Lib.hid SD.out.2.2.1
        rename_i hF
        clear hF SA SB SC SD RN
        go_wp2_with fail
        go_roundw
        case rel => exact ⟨k + 1, by omega, by go_num, Lib.hid ⟨by rw [← HN.out, ← ET.out]; exact HO6.out, HZ.out⟩⟩
        case measure => simp [intOf]; omega
      · have z1 : ((⟨#[]⟩ : ByteArray)).size = 0 := rfl
        have z2 : ((⟨(fmtV p.v).toArray⟩ : ByteArray)).size = (fmtV p.v).length := Lib.size_mk _
        obtain ⟨t1, e1, m1, s1⟩ := add_ba p.k ⟨#[]⟩ (by rw [z1]; omega)
        obtain ⟨t2, e2, m2, s2⟩ := add_ba t1 ⟨(fmtV p.v).toArray⟩ (by rw [m1, z2, z1]; omega)
        have ET : Hid (t2 = ⟨(spW p).toArray⟩) := Lib.hid (by
          rw [← ba_eta t2, e2.out, e1.out]
          unfold spW fmtV sgn; simp [hv])
        clear m1 m2 e1 e2 hp hst hq1 hq2 hq3 hq4 hkl hfl z1 z2
        generalize hwa : wr.alloc (.cells #[.string p.k, .int .i64 p.v] 37) = wa at NA OA BB BA
        have hwz : w.heap.size ≤ wa.heap.size := BB.out.size
        have SA : Hid (wa.drew.cell? ⟨wr.heap.size, 0, none⟩ = some (.string p.k) ∧ wa.drew.cell? ⟨wr.heap.size, 1, none⟩ = some (.int .i64 p.v) ∧ Below w.heap.size w wa.drew ∧ w.heap.size ≤ wa.drew.heap.size) := Lib.hid ⟨NA.cell 0, NA.cell 1, BB.out.drew, BB.out.size⟩
        have TP := Lib.hid (fun (w5 : World) (hb : Below wa.drew.heap.size wa.drew w5) => txt_pack (wa := wa.drew) t2 SA.out OA.drew NA (by have := HWL.out k hk; omega) hb)
        have p0 := NA.cell 0
        have p1 := NA.cell 1
        simp only [List.getElem?_toArray, List.getElem?_cons_succ, List.getElem?_cons_zero] at p0 p1
        clear OA NA BA
        go_upto_region 11 with fail
        go_wp2_with fail
        go_region_held3 (fun wx => wx.cell? ⟨wr.heap.size, 0, none⟩ = some (.string p.k) ∧ wx.cell? ⟨wr.heap.size, 1, none⟩ = some (.int .i64 p.v) ∧ Below w.heap.size w wx ∧ w.heap.size ≤ wx.heap.size)
          (first | exact SA.out | assumption | exact SB.out | exact SC.out | exact SD.out)
          (first
            | (go_at_call 47; refine (FC.out _ (HE.out.keep BB.out.drew)).mono ?_; rintro e w5 ⟨rfl, hb5⟩; obtain ⟨SB, SC, v6, w6, RN, HO6, SD⟩ := TP.out w5 hb5; clear hb5)
            | (refine step_append_run (by rfl) (.tmp 33) (.tmp 42) 27 27 (by rfl) (by rfl) (by rfl) RN.out ?_))
        have HZ := Lib.hid SD.out.2.2.1
        rename_i hF
        clear hF SA SB SC SD RN
        go_wp2_with fail
        go_roundw
        case rel => exact ⟨k + 1, by omega, by go_num, Lib.hid ⟨by rw [← HN.out, ← ET.out]; exact HO6.out, HZ.out⟩⟩
        case measure => simp [intOf]; omega
    · obtain rfl : k = n := by omega
      have HE2 := Lib.hid ((congrArg (fun j => (wdsB d j).map (·.data.toList)) HL.out).symm.trans (wdsB_all d))
      obtain ⟨g, cp, rfl, hg1, hg2⟩ := HI.out.1.form (by rw [HWL.out k (Nat.le_refl _)]; omega)
      have hJ : Lib.join ((wdsB d k).map (·.data.toList)) [32] = textD d := by
        have := HE2.out
        rw [show (wdsB d k).map (·.data.toList) = wordsD d from this, ← joinW_eq]; rfl
      have hcp : (wdsB d k).length ≤ cp := by
        rcases HI.out.1.2 with ⟨e, _⟩ | ⟨g', cap, cur, e, _, _, hc, _⟩
        · cases e
        · cases e; exact hc
      have JN := Lib.hid (Tryz.strings_Join g 0 cp (wdsB d k) ⟨#[32]⟩ wr (fun j x hj => by
        have := HI.out.1.cells (g := g) rfl j (sV x) (by rw [List.getElem?_map, hj]; rfl)
        rw [show (⟨g, 0, none⟩ : Addr).add j = ⟨g, 0 + j, none⟩ by unfold Addr.add; split <;> simp_all] at this
        exact this) hg2 (by rw [HWL.out k (Nat.le_refl _)]; omega) hcp (by rw [show ((⟨#[32]⟩ : ByteArray).data.toList) = [32] from rfl, hJ]; have := TL.out; omega))
      rw [show ((⟨#[32]⟩ : ByteArray).data.toList) = [32] from rfl, hJ] at JN
      have HB9 := Lib.hid HI.out.2
      clear HI hJ hcp HE2 hg1 hg2
      go_wp2_with (go_at_call 48; refine JN.out.mono ?_; rintro e w7 ⟨rfl, hB7⟩)
      go_ret2
      exact ⟨Or.inl ⟨HOK.out, rfl⟩, HB9.out.trans (hB7.mono HB9.out.size)⟩
end Go.Proofs.YtgeljnjcpkmlmaaGreatDoor
