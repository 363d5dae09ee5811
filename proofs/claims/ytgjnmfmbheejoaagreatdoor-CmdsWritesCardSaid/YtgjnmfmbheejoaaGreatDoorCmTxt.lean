/- The text of a command, by the program. Condition: the program's own variables lie as its start lays them. -/
import Derived.Test.YtgjnmfmbheejoaaGreatDoorCmChk
import Derived.Test.YtgjnmfmbheejoaaGreatDoorDfG
namespace Go.Proofs.YtgjnmfmbheejoaaGreatDoor
open Go.RowKit Go.Shelf

/-- What Text answers. -/
def TxtCR (c : Cv) (w w' : World) (e : Ending) : Prop := e = .returned (.tuple #[.string ⟨(txtC c).toArray⟩, .int .i64 (ckC c)]) ∧ Below w.heap.size w w'
theorem textF_len {x : Fl} {c : Cv} (h : okF x c) : (textF x c).length ≤ 460 := by
  cases x
  case eff =>
    obtain ⟨h1, h2, h3, h4, h5, h6⟩ := h
    have a := dgs_le (a := c.ea) (by omega)
    have b := dgs_le (a := c.eb) (by omega)
    unfold textF effText
    simp only [List.length_append, List.length_cons, List.length_nil]
    omega
  case key => have := (isName_len h).2.1; unfold textF; dsimp only; omega
  case dl => obtain ⟨h1, h2, h3⟩ := h; have := sgn_le (v := c.dl) (by omega) (by omega); unfold textF; dsimp only; omega
  case rng =>
    have h1 := okS_len (okR_left h)
    have h2 := okS_len (okR_right h)
    unfold textF rtxt
    simp only [List.length_append, List.length_cons, List.length_nil]
    omega
  case data => have h1 : c.data.size ≤ 65536 := h; have := dgs_le (a := (c.data.size : Int)) (by omega); unfold textF; dsimp only; omega
  case defn => have := textD_le h; unfold textF; dsimp only; omega
  case item =>
    have hg : c.it.g ≤ 7 := h.1.2
    have g := dgs_le (a := c.it.g) (by omega)
    have hw : (wayL c.it.i).length ≤ 4 := by cases c.it.i <;> decide
    unfold textF itemText
    dsimp only
    rcases h.2 with ⟨h1, _, h2, h3, h4, h5, h6, h7⟩ | ⟨h1, h2, _⟩
    · have a := dgs_le (a := c.it.a) (by omega)
      have b := dgs_le (a := c.it.b) (by omega)
      rw [if_pos h1]
      unfold effText
      simp only [List.length_append, List.length_cons, List.length_nil]
      omega
    · have a := dgs_le (a := c.it.m) (by omega)
      rw [if_neg (by omega)]
      simp only [List.length_append, List.length_cons, List.length_nil]
      omega
  case call => obtain ⟨h1, h2⟩ := h; have := dgs_le (a := c.call) (by omega); unfold textF; dsimp only; omega
  case mv => obtain ⟨h1, h2⟩ := h; have := dgs_le (a := c.mv) (by omega); unfold textF; dsimp only; omega
  case saga => obtain ⟨h1, h2⟩ := h; have := dgs_le (a := c.saga) (by omega); unfold textF; dsimp only; omega
  case grp => obtain ⟨h1, h2⟩ := h; have := dgs_le (a := c.g) (by omega); unfold textF; dsimp only; omega
  case res => obtain ⟨h1, h2⟩ := h; have := dgs_le (a := c.res) (by omega); unfold textF; dsimp only; omega
theorem joinW_leK {K : Nat} : ∀ (ws : List (List UInt8)), (∀ w ∈ ws, w.length ≤ K) → (joinW ws).length ≤ (K + 1) * ws.length
  | [], _ => by simp [joinW]
  | [a], h => by
    have := h a (by simp)
    rw [joinW]; simp; omega
  | a :: b :: l, h => by
    have h1 := h a (by simp)
    have h2 := joinW_leK (b :: l) (fun w hw => h w (by simp [hw]))
    have e : (K + 1) * (a :: b :: l).length = (K + 1) * (b :: l).length + (K + 1) := by rw [List.length_cons (a := a), Nat.mul_add, Nat.mul_one]
    rw [joinW, List.length_append, List.length_cons, e]
    omega
/-- The first words of a command's text. -/
def wdsC (c : Cv) (l : List Fl) (j : Nat) : List ByteArray := ⟨(wordK c.k).toArray⟩ :: (l.take j).map (fun x => ⟨(textF x c).toArray⟩)
theorem wdsC_next {c : Cv} {l : List Fl} {j : Nat} {x : Fl} (hx : l[j]? = some x) : wdsC c l j ++ [⟨(textF x c).toArray⟩] = wdsC c l (j + 1) := by
  unfold wdsC
  rw [List.take_add_one, hx]
  simp
theorem wdsC_len {c : Cv} {l : List Fl} {j : Nat} (hj : j ≤ l.length) : (wdsC c l j).length = j + 1 := by
  unfold wdsC
  rw [List.length_cons, List.length_map, List.length_take]
  omega
theorem wdsC_all {c : Cv} {l : List Fl} (hf : fieldsK c.k = some l) : (wdsC c l l.length).map (·.data.toList) = partsC c := by
  unfold wdsC partsC
  rw [hf, List.take_length]
  simp
theorem wordK_len (k : Int) : (wordK k).length ≤ 6 := by
  unfold wordK
  repeat' split
  all_goals decide
/-- What Text holds in memory. -/
structure TxI (w w5 : World) (c : Cv) (A : Option Addr) (n m B : Nat) (L : List Cap) (W : World) : Prop where
  b5 : Below w5.heap.size w5 W
  bl : Below w.heap.size w w5
  cm : CmdAt w5 B c A n m
  cl : Caps w5 L
theorem TxI.keep {w w5 W W' : World} {c : Cv} {A : Option Addr} {n m B : Nat} {L : List Cap} (h : TxI w w5 c A n m B L W) (hb : Below W.heap.size W W') : TxI w w5 c A n m B L W' := ⟨h.b5.trans (hb.mono h.b5.size), h.bl, h.cm, h.cl⟩
theorem TxI.all {w w5 W : World} {c : Cv} {A : Option Addr} {n m B : Nat} {L : List Cap} (h : TxI w w5 c A n m B L W) : Below w.heap.size w W ∧ CmdAt W B c A n m ∧ Caps W L := ⟨h.bl.trans (h.b5.mono h.bl.size), h.cm.keep h.b5, h.cl.keep h.b5⟩
set_option maxRecDepth 100000 in
set_option maxHeartbeats 8000000 in
theorem ctext_any (c : Cv) (A : Option Addr) (n m : Nat) (w : World) (hE : DfE w) (h : CmdIn w c A n m) :
    Calls Tryz.prog 28 #[.agg (cA c A n m)] w fun e w' => TxtCR c w w' e := by
  have B1 := Lib.hid ((Below.refl w.heap.size w).alloc (Nat.le_refl _) (.cells (cA c A n m) 36))
  have C1 := Lib.hid (CmdAt.new h)
  have CK := ccheck_any c A n m _ (hE.keep B1.out) C1.out.i
  have HE := Lib.hid hE
  clear hE h
  by_cases hok : cmdOk c
  case neg =>
    have HV : Hid (txtC c = [] ∧ ckC c = 2) := Lib.hid ⟨txtC_no hok, ckC_no hok⟩
    rw [ckC_no hok] at CK
    have CK := Lib.hid CK
    clear hok HE
    go_enter Tryz.func28, Tryz.ntmps28
    go_wp2_with (first
      | (refine wpList_load_row rfl 36 (.tmp 1) rfl _ rfl 36 (cA c A n m) (0, 0) _ C1.out.w Tryz.underlying36 rfl (info24 c A n m) ?_)
      | (go_at_call 30; refine CK.out.mono ?_; rintro e w2 ⟨rfl, hb⟩; have B2 := Lib.hid (B1.out.trans (hb.mono B1.out.size)); clear hb))
    go_ret2
    unfold TxtCR
    rw [HV.out.1, HV.out.2]
    exact ⟨rfl, B2.out⟩
  case pos =>
    have HCK : Hid (ckC c = 0 ∧ txtC c = textC c) := Lib.hid ⟨ckC_yes hok, txtC_yes hok⟩
    rw [ckC_yes hok] at CK
    have CK := Lib.hid CK
    obtain ⟨l0, hf, hall, _⟩ := hok
    have FK := fun V => fields_any c.k V
    have HN3 := fieldsK_len c.k
    unfold FldsR at FK
    rw [hf] at FK HN3
    dsimp only [Option.getD_some, Option.isSome_some] at FK HN3
    have HJ : Hid ((wdsC c l0 l0.length).map (·.data.toList) = partsC c) := Lib.hid (wdsC_all hf)
    have HJL : Hid ((joinW (partsC c)).length ≤ 140737488355328) := Lib.hid (by
      have h1 := joinW_leK (K := 460) (partsC c) (fun v hv => by
        unfold partsC at hv
        rw [hf] at hv
        rcases List.mem_cons.1 hv with rfl | hv
        · have := wordK_len c.k; omega
        · obtain ⟨x, hx, rfl⟩ := List.mem_map.1 hv
          exact textF_len (hall x hx))
      have h2 : (partsC c).length ≤ 4 := by
        unfold partsC
        rw [hf, List.length_cons, List.length_map]
        simp only [Option.getD_some]
        omega
      have h3 := Nat.mul_le_mul_left (460 + 1) h2
      omega)
    have HW0 : Hid ((⟨(wordK c.k).toArray⟩ : ByteArray) :: (l0.take 0).map (fun x => (⟨(textF x c).toArray⟩ : ByteArray)) = wdsC c l0 0) := Lib.hid rfl
    generalize hwd : (⟨(wordK c.k).toArray⟩ : ByteArray) = wd at FK HW0
    clear hwd
    have FK := Lib.hid FK
    have HALL := Lib.hid hall
    clear hf hall
    go_enter Tryz.func28, Tryz.ntmps28
    go_upto_region 1 with fail
    generalize w.alloc (.cells (cA c A n m) 36) = w1 at B1 C1 CK ⊢
    go_upto_region 4 with (first
      | (refine wpList_load_row rfl 36 (.tmp 1) rfl _ rfl 36 (cA c A n m) (0, 0) _ C1.out.w Tryz.underlying36 rfl (info24 c A n m) ?_)
      | (go_at_call 30; refine CK.out.mono ?_; rintro e w2 ⟨rfl, hb⟩; have B2 := Lib.hid (B1.out.trans (hb.mono B1.out.size)); have C2 := Lib.hid (C1.out.keep hb); have yk : w2.cell? ⟨w.heap.size, 0, none⟩ = some (.int .i64 c.k) := C2.out.w.cell 0; clear hb CK))
    clear B1 C1
    go_upto_region 5 with (go_at_call 48; refine (FK.out w2).mono ?_; rintro e w5 ⟨⟨Af, L, rfl, hfl⟩, hb⟩; have I5 := Lib.hid (show TxI w w5 c A n m w.heap.size L w5 from ⟨Below.refl _ _, B2.out.trans (hb.mono B2.out.size), C2.out.keep hb, hfl.1⟩); have HFA := Lib.hid hfl.2; clear hfl hb FK)
    clear yk B2 C2
    obtain ⟨N, hN⟩ : ∃ N, N = l0.length := ⟨_, rfl⟩
    rw [← hN] at HN3 HJ ⊢
    have HN := Lib.hid hN
    have HWL := Lib.hid (fun (j : Nat) (hj : j ≤ N) => wdsC_len (c := c) (l := l0) (j := j) (by rw [← hN]; exact hj))
    clear hN
    have ba5 := (Below.refl w5.heap.size w5).alloc (Nat.le_refl _) (.cells #[.string wd] 9)
    have J0 : Hid (TxI w w5 c A n m w.heap.size L (w5.alloc (.cells #[.string wd] 9)) ∧ (w5.alloc (.cells #[.string wd] 9)).ownsRow w5.heap.size 9 1 (.slice (some ⟨w5.heap.size, 0, none⟩) 1 1) (wdsC c l0 0).length ((wdsC c l0 0).map sV)) :=
      Lib.hid ⟨I5.out.keep ba5, by rw [← HW0.out]; exact World.ownsRow_lit w5 #[.string wd] 1 (Nat.le_refl _) (by decide) rfl⟩
    clear ba5 I5
    go_upto_region 6 with fail
    generalize hwz : w5.alloc (.cells #[.string wd] 9) = wz at J0 ⊢
    have HX5 : Hid (∃ X, X = w5.heap.size) := Lib.hid ⟨_, rfl⟩
    clear hwz HX5
    go_wp2_with fail
    go_loopw [8, 27] (fun v i wr => ∃ (j : Nat), j ≤ N ∧ i = .int .i64 j ∧ Hid (TxI w w5 c A n m w.heap.size L wr ∧ wr.ownsRow w5.heap.size 9 1 v (wdsC c l0 j).length ((wdsC c l0 j).map sV))) (fun _ i _ => N - (intOf i).toNat)
    case atStart => exact ⟨0, by omega, rfl, J0⟩
    case round =>
      clear J0
      obtain ⟨j, hj, rfl, HI⟩ := hrel
      by_cases hjN : j < N
      · obtain ⟨x, hx⟩ : ∃ x, l0[j]? = some x := ⟨_, List.getElem?_eq_getElem (by rw [← HN.out]; exact hjN)⟩
        obtain ⟨g, cs, a0, b0, a1, b1, a2, b2, a3, b3, a4, b4, rfl, hmem, ⟨e0', e1, e2, e3, e4⟩, hF⟩ := HFA.out j x hx
        have hcs := (HI.out.1.all.2.2 _ hmem).1
        have y0 : wr.cell? ⟨g, j * 5, none⟩ = some (fnv a0 b0) := (hcs.cell _).trans e0'
        have y1 : wr.cell? ⟨g, j * 5 + 1, none⟩ = some (fnv a1 b1) := (hcs.cell _).trans e1
        have y2 : wr.cell? ⟨g, j * 5 + 2, none⟩ = some (fnv a2 b2) := (hcs.cell _).trans e2
        have y3 : wr.cell? ⟨g, j * 5 + 3, none⟩ = some (fnv a3 b3) := (hcs.cell _).trans e3
        have y4 : wr.cell? ⟨g, j * 5 + 4, none⟩ = some (fnv a4 b4) := (hcs.cell _).trans e4
        obtain ⟨gt, lt, ⟨vt, et⟩, ht⟩ := hF.tx
        cases vt
        have ba := (Below.refl wr.heap.size wr).alloc (Nat.le_refl _) (.cells #[fnv a0 b0, fnv a1 b1, fnv a2 b2, fnv a3 b3, fnv a4 b4] 94)
        have I6 := Lib.hid (HI.out.1.keep ba)
        have O6 := Lib.hid (HI.out.2.kept (gbelow ba) (Classical.em _))
        have N6 := Lib.hid (Whole.new wr 94 #[fnv a0 b0, fnv a1 b1, fnv a2 b2, fnv a3 b3, fnv a4 b4])
        have TF := ht c A n m w.heap.size _ (HE.out.keep I6.out.all.1) I6.out.all.2.2 I6.out.all.2.1 (HALL.out x (List.mem_of_getElem? hx))
        have HX := Lib.hid (wdsC_next (c := c) hx)
        generalize (⟨(textF x c).toArray⟩ : ByteArray) = t at TF HX
        have TF := Lib.hid TF
        clear hcs hmem e0' e1 e2 e3 e4 hF ba hx ht HI
        have hj0 : (j : Int) < (N : Int) := by omega
        have hwj : IntKind.i64.wrap ((j : Int) + 1) = (j : Int) + 1 := IntWalk.i64_in _ (by omega)
        have HLJ := Lib.hid (HWL.out j hj)
        go_upto_region 9 with fail
        generalize wr.alloc (.cells #[fnv a0 b0, fnv a1 b1, fnv a2 b2, fnv a3 b3, fnv a4 b4] 94) = w6 at I6 O6 N6 TF ⊢
        generalize wr.heap.size = F at N6 ⊢
        clear y0 y1 y2 y3 y4
        have z3 : w6.cell? ⟨F, 3, none⟩ = some (fnv a3 b3) := N6.out.cell 3
        go_wp2_with (first
          | (go_at_fn a3; refine TF.out.mono ?_; rintro e w7 ⟨rfl, hb⟩; have I7 := I6.out.keep hb; have O7 := O6.out.kept (gbelow hb) (Classical.em _); obtain ⟨v8, w8, hrun, hown, hgr⟩ := app_word w5.heap.size _ (wdsC c l0 j) t w7 O7 I7.b5.size (by rw [HLJ.out]; omega); have HR := Lib.hid hrun; have ba7 := (Below.refl w7.heap.size w7).alloc (Nat.le_refl _) (.cells #[.string t] 9); have I8 := Lib.hid (show TxI w w5 c A n m w.heap.size L w8 from ⟨(I7.keep ba7).b5.grown hgr (I7.keep ba7).b5.size (fun k e => (O7.lt k e).1), I7.bl, I7.cm, I7.cl⟩); have O8 := Lib.hid hown; clear hb I7 O7 hrun hown hgr ba7)
          | (at_builtin; refine wpList_append_run rfl (.tmp 31) (.tmp 35) 75 75 rfl rfl rfl HR.out ?_))
        go_roundw
        case rel => exact ⟨j + 1, by omega, by go_num, Lib.hid ⟨I8.out, by rw [← HX.out]; exact O8.out⟩⟩
        case measure => simp [intOf]; omega
      · obtain rfl : j = N := by omega
        have hnj : ¬ ((j : Int) < (j : Int)) := by omega
        obtain ⟨g, cp, rfl, hg1, hg2⟩ := HI.out.2.form (by rw [HWL.out j (Nat.le_refl _)]; omega)
        have hJ : Lib.join ((wdsC c l0 j).map (·.data.toList)) [32] = textC c := by rw [HJ.out, ← joinW_eq]; rfl
        have hcp : (wdsC c l0 j).length ≤ cp := by
          rcases HI.out.2.2 with ⟨e, _⟩ | ⟨g', cap, cur, e, _, _, hc, _⟩
          · cases e
          · cases e; exact hc
        have JN := Lib.hid (Tryz.strings_Join g 0 cp (wdsC c l0 j) ⟨#[32]⟩ wr (fun i x hi => by
          have := HI.out.2.cells (g := g) rfl i (sV x) (by rw [List.getElem?_map, hi]; rfl)
          rw [show (⟨g, 0, none⟩ : Addr).add i = ⟨g, 0 + i, none⟩ by unfold Addr.add; split <;> simp_all] at this
          exact this) hg2 (by rw [HWL.out j (Nat.le_refl _)]; omega) hcp (by rw [show ((⟨#[32]⟩ : ByteArray).data.toList) = [32] from rfl, hJ]; exact HJL.out))
        rw [show ((⟨#[32]⟩ : ByteArray).data.toList) = [32] from rfl, hJ] at JN
        have HB9 := Lib.hid HI.out.1.all.1
        clear HI hJ hcp hg1 hg2
        go_wp2_with (go_at_call 77; refine JN.out.mono ?_; rintro e w7 ⟨rfl, hB7⟩)
        go_ret2
        unfold TxtCR
        rw [HCK.out.1, HCK.out.2]
        exact ⟨rfl, HB9.out.trans (hB7.mono HB9.out.size)⟩
end Go.Proofs.YtgjnmfmbheejoaaGreatDoor
