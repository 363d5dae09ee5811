/- The bytes of a command, by the program. Condition: the program's own variables lie as its start lays them. -/
import Derived.Test.YtgjnmfmbheejoaaGreatDoorCmChk
namespace Go.Proofs.YtgjnmfmbheejoaaGreatDoor
open Go.RowKit Go.Shelf

/-- What Encode answers. -/
def EncCR (c : Cv) (w w' : World) (e : Ending) : Prop := (∃ A n m, e = .returned (.tuple #[.slice A n m, .int .i64 (encEC c)]) ∧ SlB w' A n (encBC c) ∧ n ≤ m) ∧ Below w.heap.size w w'
/-- What Encode holds in memory. -/
structure EncI (w : World) (c : Cv) (A : Option Addr) (n m B base C : Nat) (L : List Cap) (bs : List UInt8) (W : World) : Prop where
  bl : Below w.heap.size w W
  cm : CmdAt W B c A n m
  cl : Caps W L
  wp : WrP W base C bs
  o1 : w.heap.size ≤ B
  o2 : B < base
  i0 : CmdIn w c A n m
theorem EncI.keep {w W W' : World} {c : Cv} {A : Option Addr} {n m B base C : Nat} {L : List Cap} {bs : List UInt8} (h : EncI w c A n m B base C L bs W) (hb : Below W.heap.size W W') : EncI w c A n m B base C L bs W' :=
  ⟨h.bl.trans (hb.mono h.bl.size), h.cm.keep hb, h.cl.keep hb, h.wp.keep hb, h.o1, h.o2, h.i0⟩
theorem EncI.wrote {w W W' : World} {c : Cv} {A : Option Addr} {n m B base C : Nat} {L : List Cap} {bs bs' : List UInt8} (h : EncI w c A n m B base C L bs W) (hP : WrP W' base C bs') (hK : WrK W W' base C) : EncI w c A n m B base C L bs' W' := by
  have hb : Below w.heap.size w W' := h.bl.trans (hK.1.mono (by have := h.o1; have := h.o2; omega))
  refine ⟨hb, ⟨h.cm.w.below hK.1 h.o2, h.i0.keep hb, fun a ha hs => ?_⟩, h.cl.wrk hK h.wp, hP, h.o1, h.o2, h.i0⟩
  have := slD_lt h.i0.d.s a ha hs
  have := h.o1
  omega
theorem encF_len {x : Fl} {c : Cv} (h : okF x c) : (encF x c).length ≤ 70000 := by
  cases x
  case eff =>
    obtain ⟨h1, h2, h3, h4, h5, h6⟩ := h
    have a := uvB_10 (v := c.ea) (by omega) (by omega)
    have b := uvB_10 (v := c.eb) (by omega) (by omega)
    have d := uvB_10 (v := c.ec) (by omega) (by omega)
    unfold encF
    simp only [List.length_append]
    omega
  case key =>
    have := (isName_len h).2.1
    have := txB_len c.key.data.toList (by omega)
    unfold encF; dsimp only; omega
  case dl =>
    obtain ⟨h1, h2, h3⟩ := h
    have := uvB_len10 (n := zig c.dl) (zig_lt (by omega) (by omega))
    unfold encF; dsimp only; omega
  case rng =>
    have h1 := okS_len (okR_left h)
    have h2 := okS_len (okR_right h)
    have := txB_len c.f.data.toList (by omega)
    have := txB_len c.t.data.toList (by omega)
    unfold encF
    simp only [List.length_append]
    omega
  case data =>
    have h1 : c.data.data.toList.length ≤ 65536 := by rw [data_len]; exact h
    have := txB_len c.data.data.toList h1
    unfold encF; dsimp only; omega
  case defn =>
    have h1 := bytesD_len h
    have := txB_len (bytesD c.d) h1
    unfold encF; dsimp only; omega
  case item =>
    have hr := itNum_range (x := c.it) h
    have := uvB_10 (v := itNum c.it) (by omega) (by omega)
    unfold encF; dsimp only; omega
  case call =>
    obtain ⟨h1, h2⟩ := h
    have := uvB_10 (v := c.call) (by omega) (by omega)
    unfold encF; dsimp only; omega
  case mv =>
    obtain ⟨h1, h2⟩ := h
    have := uvB_10 (v := c.mv) (by omega) (by omega)
    unfold encF; dsimp only; omega
  case saga =>
    obtain ⟨h1, h2⟩ := h
    have := uvB_10 (v := c.saga) (by omega) (by omega)
    unfold encF; dsimp only; omega
  case grp =>
    obtain ⟨h1, h2⟩ := h
    have := uvB_10 (v := c.g) (by omega) (by omega)
    unfold encF; dsimp only; omega
  case res =>
    obtain ⟨h1, h2⟩ := h
    have := uvB_10 (v := c.res) (by omega) (by omega)
    unfold encF; dsimp only; omega
/-- The bytes of the kind and of the first fields. -/
def bysC (c : Cv) (l : List Fl) (j : Nat) : List UInt8 := uvB c.k.toNat ++ (l.take j).flatMap (encF · c)
theorem bysC_next {c : Cv} {l : List Fl} {j : Nat} {x : Fl} (hx : l[j]? = some x) : bysC c l j ++ encF x c = bysC c l (j + 1) := by
  unfold bysC
  rw [List.take_add_one, hx]
  simp
theorem flat_len {c : Cv} : ∀ (l : List Fl), (∀ x ∈ l, okF x c) → (l.flatMap (encF · c)).length ≤ 70000 * l.length
  | [], _ => by simp
  | x :: l, h => by
    have h1 := encF_len (h x (by simp))
    have h2 := flat_len l (fun y hy => h y (by simp [hy]))
    rw [List.flatMap_cons, List.length_append, List.length_cons]
    omega
theorem bysC_len {c : Cv} {l : List Fl} (hk0 : 0 ≤ c.k) (hk : c.k ≤ 15) (h : ∀ x ∈ l, okF x c) (hl : l.length ≤ 3) (j : Nat) : (bysC c l j).length ≤ 300000 := by
  have h1 := uvB_10 (v := c.k) hk0 (by omega)
  have h2 := flat_len (l.take j) (fun x hx => h x (List.mem_of_mem_take hx))
  have h3 : (l.take j).length ≤ 3 := by rw [List.length_take]; omega
  unfold bysC
  rw [List.length_append]
  omega
set_option maxRecDepth 100000 in
set_option maxHeartbeats 8000000 in
theorem cencode_any (c : Cv) (A : Option Addr) (n m : Nat) (w : World) (hE : DfE w) (h : CmdIn w c A n m) :
    Calls Tryz.prog 26 #[.agg (cA c A n m)] w fun e w' => EncCR c w w' e := by
  have B1 := Lib.hid ((Below.refl w.heap.size w).alloc (Nat.le_refl _) (.cells (cA c A n m) 36))
  have C1 := Lib.hid (CmdAt.new h)
  have HI0 := Lib.hid h
  have CK := ccheck_any c A n m _ (hE.keep B1.out) C1.out.i
  have HE := Lib.hid hE
  have HBB := Lib.hid (Nat.le_refl w.heap.size)
  clear hE h
  by_cases hok : cmdOk c
  case neg =>
    rw [ckC_no hok] at CK
    have CK := Lib.hid CK
    have HV := Lib.hid (encBC_no hok)
    clear hok HE HI0
    go_enter Tryz.func26, Tryz.ntmps26
    go_wp2_with (first
      | (refine wpList_load_row rfl 36 (.tmp 1) rfl _ rfl 36 (cA c A n m) (0, 0) _ C1.out.w Tryz.underlying36 rfl (info24 c A n m) ?_)
      | (go_at_call 30; refine CK.out.mono ?_; rintro e w2 ⟨rfl, hb⟩; have B2 := Lib.hid (B1.out.trans (hb.mono B1.out.size)); clear hb))
    go_ret2
    unfold EncCR
    rw [HV.out.1, HV.out.2]
    exact ⟨⟨none, 0, 0, rfl, slB_nil _, Nat.le_refl _⟩, B2.out⟩
  case pos =>
    rw [ckC_yes hok] at CK
    have CK := Lib.hid CK
    by_cases h0 : c.k = 0
    · have HV : Hid (encBC c = [] ∧ encEC c = 0) := Lib.hid (by have := encBC_yes hok (by rw [bytesC_zero c h0]; exact Nat.zero_le _); rw [bytesC_zero c h0] at this; exact this)
      have xk : ∀ {W}, CmdAt W w.heap.size c A n m → W.cell? ⟨w.heap.size, 0, none⟩ = some (.int .i64 0) := fun h => by have : _ = some (Value.int .i64 c.k) := h.w.cell 0; rw [h0] at this; exact this
      have HXK := Lib.hid (fun W h => @xk W h)
      clear hok HE h0 xk HI0
      go_enter Tryz.func26, Tryz.ntmps26
      go_wp2_with (first
        | (refine wpList_load_row rfl 36 (.tmp 1) rfl _ rfl 36 (cA c A n m) (0, 0) _ C1.out.w Tryz.underlying36 rfl (info24 c A n m) ?_)
        | (go_at_call 30; refine CK.out.mono ?_; rintro e w2 ⟨rfl, hb⟩; have B2 := Lib.hid (B1.out.trans (hb.mono B1.out.size)); have yk := HXK.out w2 (C1.out.keep hb); clear hb))
      go_ret2
      unfold EncCR
      rw [HV.out.1, HV.out.2]
      exact ⟨⟨none, 0, 0, rfl, slB_nil _, Nat.le_refl _⟩, B2.out⟩
    · have HOK := Lib.hid hok
      obtain ⟨l0, hf, hall, _⟩ := hok
      have hkr := fieldsK_range hf
      have FK := fun V => fields_any c.k V
      have HN3 := fieldsK_len c.k
      unfold FldsR at FK
      rw [hf] at FK HN3
      dsimp only [Option.getD_some, Option.isSome_some] at FK HN3
      have hBL := fun j => bysC_len hkr.1 hkr.2 hall HN3 j
      have HBY : Hid (bysC c l0 l0.length = bytesC c) := Lib.hid (by unfold bysC bytesC; rw [if_neg h0, hf, List.take_length]; rfl)
      have e0 : (c.k == 0) = false := by rw [beq_eq_false_iff_ne]; exact h0
      have hwk : IntKind.u64.wrap c.k = c.k := by rw [IntKind.wrap_u64]; omega
      have U1 := Lib.hid (fun (base C : Nat) (V : World) (h : WrP V base C []) => uint_z C base c.k hkr.1 (by omega) [] V h (by simp))
      generalize (⟨(wordK c.k).toArray⟩ : ByteArray) = wd at FK
      have FK := Lib.hid FK
      have HBL := Lib.hid hBL
      have HALL := Lib.hid hall
      clear h0 hkr hf hall hBL
      go_enter Tryz.func26, Tryz.ntmps26
      go_upto_region 1 with fail
      generalize w.alloc (.cells (cA c A n m) 36) = w1 at B1 C1 CK ⊢
      go_upto_region 4 with (first
        | (refine wpList_load_row rfl 36 (.tmp 1) rfl _ rfl 36 (cA c A n m) (0, 0) _ C1.out.w Tryz.underlying36 rfl (info24 c A n m) ?_)
        | (go_at_call 30; refine CK.out.mono ?_; rintro e w2 ⟨rfl, hb⟩; have B2 := Lib.hid (B1.out.trans (hb.mono B1.out.size)); have C2 := Lib.hid (C1.out.keep hb); have yk : w2.cell? ⟨w.heap.size, 0, none⟩ = some (.int .i64 c.k) := C2.out.w.cell 0; clear hb CK))
      clear yk B1 C1
      have NW := Lib.hid ((wnew_any w2).mono (R' := fun e w' => e = .returned (.pointer (some ⟨w2.heap.size, 0, none⟩)) ∧ WrP w' w2.heap.size w2.heap.size [] ∧ Below w2.heap.size w2 w') (fun e w' ⟨he, hw⟩ => ⟨he, by rw [hw]; exact WrP.new w2 (Nat.le_refl _), by rw [hw]; exact (Below.refl _ _).alloc (Nat.le_refl _) _⟩))
      go_upto_region 5 with (go_at_call 62; refine NW.out.mono ?_; rintro e w3 ⟨rfl, hP, hb⟩; have I3 := Lib.hid (show EncI w c A n m w.heap.size w2.heap.size w2.heap.size [] [] w3 from ⟨B2.out.trans (hb.mono B2.out.size), C2.out.keep hb, (fun p hp => by cases hp), hP, Nat.le_refl _, C2.out.lt, HI0.out⟩); have yk : w3.cell? ⟨w.heap.size, 0, none⟩ = some (.int .i64 c.k) := I3.out.cm.w.cell 0; clear hP hb NW)
      have U1 := Lib.hid (U1.out _ _ _ I3.out.wp)
      go_upto_region 6 with (go_at_call 63; refine U1.out.mono ?_; rintro e w4 ⟨rfl, hP, hK⟩; have I4 := Lib.hid (I3.out.wrote hP hK); have yk4 : w4.cell? ⟨w.heap.size, 0, none⟩ = some (.int .i64 c.k) := I4.out.cm.w.cell 0; clear hP hK U1)
      clear yk I3 B2 C2
      generalize w2.heap.size = X at I4 ⊢
      go_upto_region 7 with (go_at_call 48; refine (FK.out w4).mono ?_; rintro e w5 ⟨⟨Af, L, rfl, hfl⟩, hb⟩; have I5 := Lib.hid (show EncI w c A n m w.heap.size X X L (bysC c l0 0) w5 from ⟨(I4.out.keep hb).bl, (I4.out.keep hb).cm, hfl.1, by have := (I4.out.keep hb).wp; unfold bysC; simpa using this, (I4.out.keep hb).o1, (I4.out.keep hb).o2, (I4.out.keep hb).i0⟩); have HFA := Lib.hid hfl.2; clear hfl hb FK)
      clear yk4 I4
      obtain ⟨N, hN⟩ : ∃ N, N = l0.length := ⟨_, rfl⟩
      rw [← hN] at HN3 HBY ⊢
      have HN := Lib.hid hN
      clear hN
      go_wp2_with fail
      go_loopw [36] (fun i wr => ∃ (j : Nat), j ≤ N ∧ i = .int .i64 j ∧ Hid (EncI w c A n m w.heap.size X X L (bysC c l0 j) wr)) (fun i _ => N - (intOf i).toNat)
      case atStart => exact ⟨0, by omega, rfl, I5⟩
      case round =>
        clear I5
        obtain ⟨j, hj, rfl, HI⟩ := hrel
        by_cases hjN : j < N
        · obtain ⟨x, hx⟩ : ∃ x, l0[j]? = some x := ⟨_, List.getElem?_eq_getElem (by rw [← HN.out]; exact hjN)⟩
          obtain ⟨g, cs, a0, b0, a1, b1, a2, b2, a3, b3, a4, b4, rfl, hmem, ⟨e0', e1, e2, e3, e4⟩, hF⟩ := HFA.out j x hx
          have hcs := (HI.out.cl _ hmem).1
          have y0 : wr.cell? ⟨g, j * 5, none⟩ = some (fnv a0 b0) := (hcs.cell _).trans e0'
          have y1 : wr.cell? ⟨g, j * 5 + 1, none⟩ = some (fnv a1 b1) := (hcs.cell _).trans e1
          have y2 : wr.cell? ⟨g, j * 5 + 2, none⟩ = some (fnv a2 b2) := (hcs.cell _).trans e2
          have y3 : wr.cell? ⟨g, j * 5 + 3, none⟩ = some (fnv a3 b3) := (hcs.cell _).trans e3
          have y4 : wr.cell? ⟨g, j * 5 + 4, none⟩ = some (fnv a4 b4) := (hcs.cell _).trans e4
          obtain ⟨gw, lw, ⟨vw, ew⟩, hw⟩ := hF.wr
          cases vw
          have ba := (Below.refl wr.heap.size wr).alloc (Nat.le_refl _) (.cells #[fnv a0 b0, fnv a1 b1, fnv a2 b2, fnv a3 b3, fnv a4 b4] 94)
          have I6 := Lib.hid (HI.out.keep ba)
          have N6 := Lib.hid (Whole.new wr 94 #[fnv a0 b0, fnv a1 b1, fnv a2 b2, fnv a3 b3, fnv a4 b4])
          have WF := Lib.hid (hw c A n m w.heap.size X X (bysC c l0 j) _ I6.out.cl I6.out.cm (HALL.out x (List.mem_of_getElem? hx)) I6.out.wp (by have := HBL.out j; omega) I6.out.o2)
          have HX := Lib.hid hx
          clear hcs hmem e0' e1 e2 e3 e4 hF ba hx hw HI
          have hj0 : (j : Int) < (N : Int) := by omega
          have hwj : IntKind.i64.wrap ((j : Int) + 1) = (j : Int) + 1 := IntWalk.i64_in _ (by omega)
          go_upto_region 10 with fail
          generalize wr.alloc (.cells #[fnv a0 b0, fnv a1 b1, fnv a2 b2, fnv a3 b3, fnv a4 b4] 94) = w6 at I6 N6 WF ⊢
          generalize wr.heap.size = F at N6 ⊢
          clear y0 y1 y2 y3 y4
          have z1 : w6.cell? ⟨F, 1, none⟩ = some (fnv a1 b1) := N6.out.cell 1
          go_wp2_with (go_at_fn a1; refine WF.out.mono ?_; rintro e w7 ⟨rfl, hP, hK⟩; have I7 := Lib.hid (I6.out.wrote hP hK); clear hP hK)
          go_roundw
          case rel => exact ⟨j + 1, by omega, by go_num, Lib.hid (by rw [← bysC_next HX.out]; exact I7.out)⟩
          case measure => simp [intOf]; omega
        · obtain rfl : j = N := by omega
          have LM := limited_any X X (bysC c l0 j) wr HI.out.wp (by have := HBL.out j; omega)
          have HBF := Lib.hid HI.out.bl
          rw [HBY.out] at LM
          have HV : Hid (encBC c = (if (bytesC c).length ≤ 65536 then bytesC c else []) ∧ encEC c = (if (bytesC c).length ≤ 65536 then 0 else 11)) := Lib.hid (by
            by_cases hl : (bytesC c).length ≤ 65536
            · rw [if_pos hl, if_pos hl]; exact encBC_yes HOK.out hl
            · rw [if_neg hl, if_neg hl]; exact encBC_long HOK.out (by omega))
          rw [← HV.out.1, ← HV.out.2] at LM
          obtain ⟨ee, hee⟩ : ∃ ee, ee = encEC c := ⟨_, rfl⟩
          rw [← hee] at LM
          have HEE := Lib.hid hee
          have LM := Lib.hid LM
          clear hee HI HALL HBL HBY HFA
          have hnj : ¬ ((j : Int) < (j : Int)) := by omega
          go_wp2_with (go_at_call 66; refine LM.out.mono ?_; rintro e w8 ⟨⟨A8, n8, m8, rfl, h8⟩, hb⟩; have H8 := Lib.hid (And.intro h8 hb); clear h8 hb)
          go_ret2
          unfold EncCR
          rw [← HEE.out]
          exact ⟨⟨_, _, _, rfl, H8.out.1⟩, HBF.out.trans (H8.out.2.mono HBF.out.size)⟩
end Go.Proofs.YtgjnmfmbheejoaaGreatDoor
