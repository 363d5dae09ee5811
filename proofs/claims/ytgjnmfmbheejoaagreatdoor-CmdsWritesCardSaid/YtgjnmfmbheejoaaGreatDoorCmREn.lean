/- The bytes of a command, by the reference. Condition: sizes as a machine's integers can say. -/
import Derived.Test.YtgjnmfmbheejoaaGreatDoorCmRk
import Derived.Test.YtgjnmfmbheejoaaGreatDoorCmRf
import Derived.Test.YtgjnmfmbheejoaaGreatDoorCmEnc
import Derived.Test.YtgjnmfmbheejoaaGreatDoorCmIdn
import Derived.Test.YtgjnmfmbheejoaaGreatDoorRwA
namespace Go.Proofs.YtgjnmfmbheejoaaGreatDoor
open Go.RowKit Go.Shelf

/-- What the reference's Encode holds in memory. -/
structure EncQ (w : World) (c : Cv) (A : Option Addr) (n m B base C : Nat) (bs : List UInt8) (W : World) : Prop where
  bl : Below w.heap.size w W
  cm : CmdAt W B c A n m
  wp : WrQ W base C bs
  o1 : w.heap.size ≤ B
  o2 : B < base
  i0 : CmdIn w c A n m
theorem EncQ.keep {w W W' : World} {c : Cv} {A : Option Addr} {n m B base C : Nat} {bs : List UInt8} (h : EncQ w c A n m B base C bs W) (hb : Below W.heap.size W W') : EncQ w c A n m B base C bs W' :=
  ⟨h.bl.trans (hb.mono h.bl.size), h.cm.keep hb, h.wp.keep hb, h.o1, h.o2, h.i0⟩
theorem EncQ.wrote {w W W' : World} {c : Cv} {A : Option Addr} {n m B base C : Nat} {bs bs' : List UInt8} (h : EncQ w c A n m B base C bs W) (hP : WrQ W' base C bs') (hK : WrK W W' base C) : EncQ w c A n m B base C bs' W' := by
  have hb : Below w.heap.size w W' := h.bl.trans (hK.1.mono (by have := h.o1; have := h.o2; omega))
  refine ⟨hb, ⟨h.cm.w.below hK.1 h.o2, h.i0.keep hb, fun a ha hs => ?_⟩, hP, h.o1, h.o2, h.i0⟩
  have := slD_lt h.i0.d.s a ha hs
  have := h.o1
  omega
theorem rdefBytes_any (c : Cv) (A : Option Addr) (n m : Nat) (W : World) (h : CmdIn W c A n m) (ho : okF .defn c) (s : ByteArray) (hs : s = ⟨(bytesD c.d).toArray⟩) :
    Calls Tryz.prog 75 #[dV c.d A n m] W fun e w' => (∃ A' n' c', e = .returned (.tuple #[.slice A' n' c', .int .i64 0]) ∧ (convert 22 9 (.slice A' n' c')).run Tryz.prog w' = .ok (.string s) w') ∧ Below W.heap.size W w' :=
  (refDefEncode_any c.d A n m W h.d).mono (fun e w' ⟨h, hb⟩ => by
    obtain ⟨A', n', c', he, h1, _⟩ := h.val
    rw [ckD_yes ho] at he
    rw [encL_yes ho] at h1
    exact ⟨⟨A', n', c', he, by rw [hs]; exact conv_bytes h1 c'⟩, hb⟩)
set_option maxRecDepth 100000 in
set_option maxHeartbeats 2000000 in
theorem renc_no (c : Cv) (A : Option Addr) (n m : Nat) (w : World) (h : CmdIn w c A n m) (hok : ¬ cmdOk c) :
    Calls Tryz.prog 27 #[.agg (cA c A n m)] w fun e w' => EncCR c w w' e := by
  have B1 := Lib.hid ((Below.refl w.heap.size w).alloc (Nat.le_refl _) (.cells (cA c A n m) 36))
  have C1 := Lib.hid (CmdAt.new h)
  have CK := rcheck_any c A n m _ C1.out.i
  rw [ckC_no hok] at CK
  have CK := Lib.hid CK
  have HV := Lib.hid (encBC_no hok)
  clear hok h
  go_enter Tryz.func27, Tryz.ntmps27
  go_wp2_with (first
    | (refine wpList_load_row rfl 36 (.tmp 1) rfl _ rfl 36 (cA c A n m) (0, 0) _ C1.out.w Tryz.underlying36 rfl (info24 c A n m) ?_)
    | (go_at_call 31; refine CK.out.mono ?_; rintro e w2 ⟨rfl, hb⟩; have B2 := Lib.hid (B1.out.trans (hb.mono B1.out.size)); clear hb))
  go_ret2
  unfold EncCR
  rw [HV.out.1, HV.out.2]
  exact ⟨⟨none, 0, 0, rfl, slB_nil _, Nat.le_refl _⟩, B2.out⟩
set_option maxRecDepth 100000 in
set_option maxHeartbeats 2000000 in
theorem renc_0 (c : Cv) (A : Option Addr) (n m : Nat) (w : World) (h : CmdIn w c A n m) (hok : cmdOk c) (hk : c.k = 0) :
    Calls Tryz.prog 27 #[.agg (cA c A n m)] w fun e w' => EncCR c w w' e := by
  have B1 := Lib.hid ((Below.refl w.heap.size w).alloc (Nat.le_refl _) (.cells (cA c A n m) 36))
  have C1 := Lib.hid (CmdAt.new h)
  have CK := rcheck_any c A n m _ C1.out.i
  rw [ckC_yes hok] at CK
  have CK := Lib.hid CK
  have HV : Hid (encBC c = [] ∧ encEC c = 0) := Lib.hid (by have := encBC_yes hok (by rw [bytesC_zero c hk]; exact Nat.zero_le _); rw [bytesC_zero c hk] at this; exact this)
  have xk : ∀ {W}, CmdAt W w.heap.size c A n m → W.cell? ⟨w.heap.size, 0, none⟩ = some (.int .i64 0) := fun h => by have : _ = some (Value.int .i64 c.k) := h.w.cell 0; rw [hk] at this; exact this
  have HXK := Lib.hid (fun W h => @xk W h)
  clear hok h hk xk
  go_enter Tryz.func27, Tryz.ntmps27
  go_wp2_with (first
    | (refine wpList_load_row rfl 36 (.tmp 1) rfl _ rfl 36 (cA c A n m) (0, 0) _ C1.out.w Tryz.underlying36 rfl (info24 c A n m) ?_)
    | (go_at_call 31; refine CK.out.mono ?_; rintro e w2 ⟨rfl, hb⟩; have B2 := Lib.hid (B1.out.trans (hb.mono B1.out.size)); have yk := HXK.out w2 (C1.out.keep hb); clear hb))
  go_ret2
  unfold EncCR
  rw [HV.out.1, HV.out.2]
  exact ⟨⟨none, 0, 0, rfl, slB_nil _, Nat.le_refl _⟩, B2.out⟩

set_option maxRecDepth 100000 in
set_option maxHeartbeats 8000000 in
theorem renc_1 (c : Cv) (A : Option Addr) (n m : Nat) (w : World) (h : CmdIn w c A n m) (hok : cmdOk c) (hk : c.k = 1) :
    Calls Tryz.prog 27 #[.agg (cA c A n m)] w fun e w' => EncCR c w w' e := by
  have B1 := Lib.hid ((Below.refl w.heap.size w).alloc (Nat.le_refl _) (.cells (cA c A n m) 36))
  have C1 := Lib.hid (CmdAt.new h)
  have HI0 := Lib.hid h
  have CK := rcheck_any c A n m _ C1.out.i
  rw [ckC_yes hok] at CK
  have CK := Lib.hid CK
  have hall : ∀ x ∈ ([.eff, .key, .dl] : List Fl), okF x c := by
    obtain ⟨l0, hf, hall, _⟩ := hok
    rw [hk] at hf
    cases hf
    exact hall
  have HOK := Lib.hid hok
  have HK := Lib.hid (fun (W : World) (B : Nat) (h : CmdAt W B c A n m) => (show W.cell? ⟨B, 0, none⟩ = some (.int .i64 1) by have : _ = some (Value.int .i64 c.k) := h.w.cell 0; rw [hk] at this; exact this))
  have o_eff := hall .eff (by simp)
  have o_key := hall .key (by simp)
  have o_dl := hall .dl (by simp)
  have hl0 := uvB_10 (v := (1 : Int)) (by decide) (by decide)
  obtain ⟨p0, hp0⟩ : ∃ p : List UInt8, p = [] ++ uvB ((1 : Int)).toNat := ⟨_, rfl⟩
  have hz0 : p0.length ≤ 10 := by rw [hp0, List.nil_append]; exact hl0
  have U0 := fun (base C : Nat) (V : World) (h : WrQ V base C []) => ruint_z C base 1 (by decide) (by decide) [] V h (by simp)
  rw [← hp0] at U0
  obtain ⟨g1, g2, g3, g4, g5, g6⟩ := id o_eff
  have gk := (isName_len o_key).2.1
  rw [← Lib.size_eq] at gk
  obtain ⟨b_dl0, b_dl1, b_dl2⟩ := id o_dl
  have HP0 := Lib.hid hp0
  clear hp0 hl0
  obtain ⟨p1, hp1⟩ : ∃ p : List UInt8, p = p0 ++ uvB (c.ea).toNat := ⟨_, rfl⟩
  have hl1 := uvB_10 (v := c.ea) (by omega) (by omega)
  have U1 := fun (base C : Nat) (V : World) (h : WrQ V base C p0) => ruint_z C base (c.ea) (by omega) (by omega) p0 V h (by omega)
  have wr1 : IntKind.u64.wrap (c.ea) = c.ea := by rw [IntKind.wrap_u64]; omega
  have hz1 : p1.length ≤ p0.length + 10 := by rw [hp1, List.length_append]; omega
  rw [← hp1] at U1
  have HP1 := Lib.hid hp1
  clear hp1 hl1
  obtain ⟨p2, hp2⟩ : ∃ p : List UInt8, p = p1 ++ uvB (c.eb).toNat := ⟨_, rfl⟩
  have hl2 := uvB_10 (v := c.eb) (by omega) (by omega)
  have U2 := fun (base C : Nat) (V : World) (h : WrQ V base C p1) => ruint_z C base (c.eb) (by omega) (by omega) p1 V h (by omega)
  have wr2 : IntKind.u64.wrap (c.eb) = c.eb := by rw [IntKind.wrap_u64]; omega
  have hz2 : p2.length ≤ p1.length + 10 := by rw [hp2, List.length_append]; omega
  rw [← hp2] at U2
  have HP2 := Lib.hid hp2
  clear hp2 hl2
  obtain ⟨p3, hp3⟩ : ∃ p : List UInt8, p = p2 ++ uvB (c.ec).toNat := ⟨_, rfl⟩
  have hl3 := uvB_10 (v := c.ec) (by omega) (by omega)
  have U3 := fun (base C : Nat) (V : World) (h : WrQ V base C p2) => ruint_z C base (c.ec) (by omega) (by omega) p2 V h (by omega)
  have wr3 : IntKind.u64.wrap (c.ec) = c.ec := by rw [IntKind.wrap_u64]; omega
  have hz3 : p3.length ≤ p2.length + 10 := by rw [hp3, List.length_append]; omega
  rw [← hp3] at U3
  have HP3 := Lib.hid hp3
  clear hp3 hl3
  obtain ⟨p4, hp4⟩ : ∃ p : List UInt8, p = p3 ++ txB (c.key).data.toList := ⟨_, rfl⟩
  have hl4 := txB_len (c.key).data.toList (by rw [← Lib.size_eq]; omega)
  rw [← Lib.size_eq] at hl4
  have U4 := fun (base C : Nat) (V : World) (h : WrQ V base C p3) => rtext_w C base (c.key) p3 V h (by omega) (by omega)
  have hz4 : p4.length ≤ p3.length + 70000 := by rw [hp4, List.length_append]; omega
  rw [← hp4] at U4
  have HP4 := Lib.hid hp4
  clear hp4 hl4
  obtain ⟨p5, hp5⟩ : ∃ p : List UInt8, p = p4 ++ uvB (zig (c.dl)) := ⟨_, rfl⟩
  have hl5 := uvB_len10 (n := zig (c.dl)) (zig_lt (by omega) (by omega))
  have U5 := fun (base C : Nat) (V : World) (h : WrQ V base C p4) => rint_w C base (c.dl) p4 V h (by omega) (by omega) (by omega)
  have hz5 : p5.length ≤ p4.length + 10 := by rw [hp5, List.length_append]; omega
  rw [← hp5] at U5
  have HP5 := Lib.hid hp5
  clear hp5 hl5
  have HBY : Hid (p5 = bytesC c) := Lib.hid (by rw [HP5.out, HP4.out, HP3.out, HP2.out, HP1.out, HP0.out]; unfold bytesC; rw [if_neg (by rw [hk]; decide), hk]; show _ = uvB _ ++ ([.eff, .key, .dl] : List Fl).flatMap (encF · c); simp [encF])
  have HZ : Hid (p5.length ≤ 700000) := Lib.hid (by omega)
  have U0 := Lib.hid U0
  have U1 := Lib.hid U1
  have U2 := Lib.hid U2
  have U3 := Lib.hid U3
  have U4 := Lib.hid U4
  have U5 := Lib.hid U5
  clear hall hok h hk hz0 hz1 hz2 hz3 hz4 hz5
  clear o_eff o_key o_dl
  go_enter Tryz.func27, Tryz.ntmps27
  go_upto_region 1 with fail
  generalize w.alloc (.cells (cA c A n m) 36) = w1 at B1 C1 CK ⊢
  go_upto_region 5 with (first
    | (refine wpList_load_row rfl 36 (.tmp 1) rfl _ rfl 36 (cA c A n m) (0, 0) _ C1.out.w Tryz.underlying36 rfl (info24 c A n m) ?_)
    | (go_at_call 31; refine CK.out.mono ?_; rintro e w2 ⟨rfl, hb⟩; have B2 := Lib.hid (B1.out.trans (hb.mono B1.out.size)); have C2 := Lib.hid (C1.out.keep hb); have yk := HK.out w2 _ C2.out; clear hb CK))
  clear yk B1 C1
  have NW := Lib.hid ((rnew_any w2).mono (R' := fun e w' => e = .returned (.pointer (some ⟨w2.heap.size, 0, none⟩)) ∧ WrQ w' w2.heap.size w2.heap.size [] ∧ Below w2.heap.size w2 w') (fun e w' ⟨he, hw⟩ => ⟨he, by rw [hw]; exact WrQ.new w2 (Nat.le_refl _), by rw [hw]; exact (Below.refl _ _).alloc (Nat.le_refl _) _⟩))
  go_upto_region 6 with (go_at_call 67; refine NW.out.mono ?_; rintro e w3 ⟨rfl, hP, hb⟩; have I3 := Lib.hid (show EncQ w c A n m w.heap.size w2.heap.size w2.heap.size [] w3 from ⟨B2.out.trans (hb.mono B2.out.size), C2.out.keep hb, hP, Nat.le_refl _, C2.out.lt, HI0.out⟩); have yk := HK.out w3 _ I3.out.cm; clear hP hb NW)
  clear B2 C2
  generalize w2.heap.size = X at I3 ⊢
  have U0 := Lib.hid (U0.out _ _ _ I3.out.wp)
  go_upto_region 9 with (go_at_call 68; refine U0.out.mono ?_; rintro e w4 ⟨rfl, hP, hK⟩; clear yk; have I4 := Lib.hid (I3.out.wrote hP hK); have yk := HK.out w4 _ I4.out.cm; have y0 : w4.cell? ⟨w.heap.size, 3, none⟩ = some (.int .i64 c.ea) := I4.out.cm.w.cell 3; clear hP hK U0)
  clear I3
  have U1 := Lib.hid (U1.out _ _ _ I4.out.wp)
  go_upto_region 10 with (go_at_call 68; refine U1.out.mono ?_; rintro e w5 ⟨rfl, hP, hK⟩; clear yk y0; have I5 := Lib.hid (I4.out.wrote hP hK); have yk := HK.out w5 _ I5.out.cm; have y0 : w5.cell? ⟨w.heap.size, 4, none⟩ = some (.int .i64 c.eb) := I5.out.cm.w.cell 4; clear hP hK U1)
  clear I4
  have U2 := Lib.hid (U2.out _ _ _ I5.out.wp)
  go_upto_region 11 with (go_at_call 68; refine U2.out.mono ?_; rintro e w6 ⟨rfl, hP, hK⟩; clear yk y0; have I6 := Lib.hid (I5.out.wrote hP hK); have yk := HK.out w6 _ I6.out.cm; have y0 : w6.cell? ⟨w.heap.size, 5, none⟩ = some (.int .i64 c.ec) := I6.out.cm.w.cell 5; clear hP hK U2)
  clear I5
  have U3 := Lib.hid (U3.out _ _ _ I6.out.wp)
  go_upto_region 12 with (go_at_call 68; refine U3.out.mono ?_; rintro e w7 ⟨rfl, hP, hK⟩; clear yk y0; have I7 := Lib.hid (I6.out.wrote hP hK); have yk := HK.out w7 _ I7.out.cm; have y0 : w7.cell? ⟨w.heap.size, 6, none⟩ = some (.string c.key) := I7.out.cm.w.cell 6; clear hP hK U3)
  clear I6
  have U4 := Lib.hid (U4.out _ _ _ I7.out.wp)
  go_upto_region 13 with (go_at_call 70; refine U4.out.mono ?_; rintro e w8 ⟨rfl, hP, hK⟩; clear yk y0; have I8 := Lib.hid (I7.out.wrote hP hK); have yk := HK.out w8 _ I8.out.cm; have y0 : w8.cell? ⟨w.heap.size, 7, none⟩ = some (.int .i64 c.dl) := I8.out.cm.w.cell 7; clear hP hK U4)
  clear I7
  have U5 := Lib.hid (U5.out _ _ _ I8.out.wp)
  go_upto_region 42 with (go_at_call 69; refine U5.out.mono ?_; rintro e w9 ⟨rfl, hP, hK⟩; clear yk y0; have I9 := Lib.hid (I8.out.wrote hP hK); have yk := HK.out w9 _ I9.out.cm; clear hP hK U5)
  clear I8
  clear yk
  rw [HBY.out] at I9
  have HL : Hid ((bytesC c).length ≤ 700000) := Lib.hid (by rw [← HBY.out]; exact HZ.out)
  have LN := Lib.hid (rlen_w _ _ (bytesC c) w9 I9.out.wp (by have := HL.out; omega))
  have HB := Lib.hid I9.out.bl
  by_cases hl : 65536 < (bytesC c).length
  · have hl' : (65536 : Int) < ((bytesC c).length : Int) := by omega
    have HV := Lib.hid (encBC_long HOK.out hl)
    clear hl
    go_wp2_with (go_at_call 71; refine LN.out.mono ?_; rintro e v7 ⟨rfl, hb⟩; have B7 := Lib.hid (HB.out.trans (hb.mono HB.out.size)); clear hb)
    go_ret2
    unfold EncCR
    rw [HV.out.1, HV.out.2]
    exact ⟨⟨none, 0, 0, rfl, slB_nil _, Nat.le_refl _⟩, B7.out⟩
  · have hl' : ¬ ((65536 : Int) < ((bytesC c).length : Int)) := by omega
    have HV := Lib.hid (encBC_yes HOK.out (by omega))
    have BY := Lib.hid (fun (V : World) (hb : Below w9.heap.size w9 V) => rbytes_w _ _ (bytesC c) V (I9.out.wp.keep hb) (by have := HL.out; omega))
    clear hl
    go_wp2_with (first
      | (go_at_call 71; refine LN.out.mono ?_; rintro e v7 ⟨rfl, hb⟩; have BY := Lib.hid (BY.out v7 hb); have B7 := Lib.hid (HB.out.trans (hb.mono HB.out.size)); clear hb)
      | (go_at_call 72; refine BY.out.mono ?_; rintro e v8 ⟨⟨v9, rfl, ho⟩, hb⟩; obtain ⟨A8, c8, rfl, hc8⟩ := own_slice2 ho; have B8 := Lib.hid (And.intro (B7.out.trans (hb.mono B7.out.size)) (And.intro (SlB.of_own ho) hc8)); clear ho hb hc8))
    go_ret2
    unfold EncCR
    rw [HV.out.1, HV.out.2]
    exact ⟨⟨_, _, _, rfl, B8.out.2.1, B8.out.2.2⟩, B8.out.1⟩
set_option maxRecDepth 100000 in
set_option maxHeartbeats 8000000 in
theorem renc_2 (c : Cv) (A : Option Addr) (n m : Nat) (w : World) (h : CmdIn w c A n m) (hok : cmdOk c) (hk : c.k = 2) :
    Calls Tryz.prog 27 #[.agg (cA c A n m)] w fun e w' => EncCR c w w' e := by
  have B1 := Lib.hid ((Below.refl w.heap.size w).alloc (Nat.le_refl _) (.cells (cA c A n m) 36))
  have C1 := Lib.hid (CmdAt.new h)
  have HI0 := Lib.hid h
  have CK := rcheck_any c A n m _ C1.out.i
  rw [ckC_yes hok] at CK
  have CK := Lib.hid CK
  have hall : ∀ x ∈ ([.call, .key] : List Fl), okF x c := by
    obtain ⟨l0, hf, hall, _⟩ := hok
    rw [hk] at hf
    cases hf
    exact hall
  have HOK := Lib.hid hok
  have HK := Lib.hid (fun (W : World) (B : Nat) (h : CmdAt W B c A n m) => (show W.cell? ⟨B, 0, none⟩ = some (.int .i64 2) by have : _ = some (Value.int .i64 c.k) := h.w.cell 0; rw [hk] at this; exact this))
  have o_call := hall .call (by simp)
  have o_key := hall .key (by simp)
  have hl0 := uvB_10 (v := (2 : Int)) (by decide) (by decide)
  obtain ⟨p0, hp0⟩ : ∃ p : List UInt8, p = [] ++ uvB ((2 : Int)).toNat := ⟨_, rfl⟩
  have hz0 : p0.length ≤ 10 := by rw [hp0, List.nil_append]; exact hl0
  have U0 := fun (base C : Nat) (V : World) (h : WrQ V base C []) => ruint_z C base 2 (by decide) (by decide) [] V h (by simp)
  rw [← hp0] at U0
  have gk := (isName_len o_key).2.1
  rw [← Lib.size_eq] at gk
  obtain ⟨b_call1, b_call2⟩ := id o_call
  have HP0 := Lib.hid hp0
  clear hp0 hl0
  obtain ⟨p1, hp1⟩ : ∃ p : List UInt8, p = p0 ++ uvB (c.call).toNat := ⟨_, rfl⟩
  have hl1 := uvB_10 (v := c.call) (by omega) (by omega)
  have U1 := fun (base C : Nat) (V : World) (h : WrQ V base C p0) => ruint_z C base (c.call) (by omega) (by omega) p0 V h (by omega)
  have wr1 : IntKind.u64.wrap (c.call) = c.call := by rw [IntKind.wrap_u64]; omega
  have hz1 : p1.length ≤ p0.length + 10 := by rw [hp1, List.length_append]; omega
  rw [← hp1] at U1
  have HP1 := Lib.hid hp1
  clear hp1 hl1
  obtain ⟨p2, hp2⟩ : ∃ p : List UInt8, p = p1 ++ txB (c.key).data.toList := ⟨_, rfl⟩
  have hl2 := txB_len (c.key).data.toList (by rw [← Lib.size_eq]; omega)
  rw [← Lib.size_eq] at hl2
  have U2 := fun (base C : Nat) (V : World) (h : WrQ V base C p1) => rtext_w C base (c.key) p1 V h (by omega) (by omega)
  have hz2 : p2.length ≤ p1.length + 70000 := by rw [hp2, List.length_append]; omega
  rw [← hp2] at U2
  have HP2 := Lib.hid hp2
  clear hp2 hl2
  have HBY : Hid (p2 = bytesC c) := Lib.hid (by rw [HP2.out, HP1.out, HP0.out]; unfold bytesC; rw [if_neg (by rw [hk]; decide), hk]; show _ = uvB _ ++ ([.call, .key] : List Fl).flatMap (encF · c); simp [encF])
  have HZ : Hid (p2.length ≤ 700000) := Lib.hid (by omega)
  have U0 := Lib.hid U0
  have U1 := Lib.hid U1
  have U2 := Lib.hid U2
  clear hall hok h hk hz0 hz1 hz2
  clear o_call o_key
  go_enter Tryz.func27, Tryz.ntmps27
  go_upto_region 1 with fail
  generalize w.alloc (.cells (cA c A n m) 36) = w1 at B1 C1 CK ⊢
  go_upto_region 5 with (first
    | (refine wpList_load_row rfl 36 (.tmp 1) rfl _ rfl 36 (cA c A n m) (0, 0) _ C1.out.w Tryz.underlying36 rfl (info24 c A n m) ?_)
    | (go_at_call 31; refine CK.out.mono ?_; rintro e w2 ⟨rfl, hb⟩; have B2 := Lib.hid (B1.out.trans (hb.mono B1.out.size)); have C2 := Lib.hid (C1.out.keep hb); have yk := HK.out w2 _ C2.out; clear hb CK))
  clear yk B1 C1
  have NW := Lib.hid ((rnew_any w2).mono (R' := fun e w' => e = .returned (.pointer (some ⟨w2.heap.size, 0, none⟩)) ∧ WrQ w' w2.heap.size w2.heap.size [] ∧ Below w2.heap.size w2 w') (fun e w' ⟨he, hw⟩ => ⟨he, by rw [hw]; exact WrQ.new w2 (Nat.le_refl _), by rw [hw]; exact (Below.refl _ _).alloc (Nat.le_refl _) _⟩))
  go_upto_region 6 with (go_at_call 67; refine NW.out.mono ?_; rintro e w3 ⟨rfl, hP, hb⟩; have I3 := Lib.hid (show EncQ w c A n m w.heap.size w2.heap.size w2.heap.size [] w3 from ⟨B2.out.trans (hb.mono B2.out.size), C2.out.keep hb, hP, Nat.le_refl _, C2.out.lt, HI0.out⟩); have yk := HK.out w3 _ I3.out.cm; clear hP hb NW)
  clear B2 C2
  generalize w2.heap.size = X at I3 ⊢
  have U0 := Lib.hid (U0.out _ _ _ I3.out.wp)
  go_upto_region 15 with (go_at_call 68; refine U0.out.mono ?_; rintro e w4 ⟨rfl, hP, hK⟩; clear yk; have I4 := Lib.hid (I3.out.wrote hP hK); have yk := HK.out w4 _ I4.out.cm; have y0 : w4.cell? ⟨w.heap.size, 1, none⟩ = some (.int .i64 c.call) := I4.out.cm.w.cell 1; clear hP hK U0)
  clear I3
  have U1 := Lib.hid (U1.out _ _ _ I4.out.wp)
  go_upto_region 16 with (go_at_call 68; refine U1.out.mono ?_; rintro e w5 ⟨rfl, hP, hK⟩; clear yk y0; have I5 := Lib.hid (I4.out.wrote hP hK); have yk := HK.out w5 _ I5.out.cm; have y0 : w5.cell? ⟨w.heap.size, 6, none⟩ = some (.string c.key) := I5.out.cm.w.cell 6; clear hP hK U1)
  clear I4
  have U2 := Lib.hid (U2.out _ _ _ I5.out.wp)
  go_upto_region 42 with (go_at_call 70; refine U2.out.mono ?_; rintro e w6 ⟨rfl, hP, hK⟩; clear yk y0; have I6 := Lib.hid (I5.out.wrote hP hK); have yk := HK.out w6 _ I6.out.cm; clear hP hK U2)
  clear I5
  clear yk
  rw [HBY.out] at I6
  have HL : Hid ((bytesC c).length ≤ 700000) := Lib.hid (by rw [← HBY.out]; exact HZ.out)
  have LN := Lib.hid (rlen_w _ _ (bytesC c) w6 I6.out.wp (by have := HL.out; omega))
  have HB := Lib.hid I6.out.bl
  by_cases hl : 65536 < (bytesC c).length
  · have hl' : (65536 : Int) < ((bytesC c).length : Int) := by omega
    have HV := Lib.hid (encBC_long HOK.out hl)
    clear hl
    go_wp2_with (go_at_call 71; refine LN.out.mono ?_; rintro e v7 ⟨rfl, hb⟩; have B7 := Lib.hid (HB.out.trans (hb.mono HB.out.size)); clear hb)
    go_ret2
    unfold EncCR
    rw [HV.out.1, HV.out.2]
    exact ⟨⟨none, 0, 0, rfl, slB_nil _, Nat.le_refl _⟩, B7.out⟩
  · have hl' : ¬ ((65536 : Int) < ((bytesC c).length : Int)) := by omega
    have HV := Lib.hid (encBC_yes HOK.out (by omega))
    have BY := Lib.hid (fun (V : World) (hb : Below w6.heap.size w6 V) => rbytes_w _ _ (bytesC c) V (I6.out.wp.keep hb) (by have := HL.out; omega))
    clear hl
    go_wp2_with (first
      | (go_at_call 71; refine LN.out.mono ?_; rintro e v7 ⟨rfl, hb⟩; have BY := Lib.hid (BY.out v7 hb); have B7 := Lib.hid (HB.out.trans (hb.mono HB.out.size)); clear hb)
      | (go_at_call 72; refine BY.out.mono ?_; rintro e v8 ⟨⟨v9, rfl, ho⟩, hb⟩; obtain ⟨A8, c8, rfl, hc8⟩ := own_slice2 ho; have B8 := Lib.hid (And.intro (B7.out.trans (hb.mono B7.out.size)) (And.intro (SlB.of_own ho) hc8)); clear ho hb hc8))
    go_ret2
    unfold EncCR
    rw [HV.out.1, HV.out.2]
    exact ⟨⟨_, _, _, rfl, B8.out.2.1, B8.out.2.2⟩, B8.out.1⟩
set_option maxRecDepth 100000 in
set_option maxHeartbeats 8000000 in
theorem renc_3 (c : Cv) (A : Option Addr) (n m : Nat) (w : World) (h : CmdIn w c A n m) (hok : cmdOk c) (hk : c.k = 3) :
    Calls Tryz.prog 27 #[.agg (cA c A n m)] w fun e w' => EncCR c w w' e := by
  have B1 := Lib.hid ((Below.refl w.heap.size w).alloc (Nat.le_refl _) (.cells (cA c A n m) 36))
  have C1 := Lib.hid (CmdAt.new h)
  have HI0 := Lib.hid h
  have CK := rcheck_any c A n m _ C1.out.i
  rw [ckC_yes hok] at CK
  have CK := Lib.hid CK
  have hall : ∀ x ∈ ([.mv, .rng] : List Fl), okF x c := by
    obtain ⟨l0, hf, hall, _⟩ := hok
    rw [hk] at hf
    cases hf
    exact hall
  have HOK := Lib.hid hok
  have HK := Lib.hid (fun (W : World) (B : Nat) (h : CmdAt W B c A n m) => (show W.cell? ⟨B, 0, none⟩ = some (.int .i64 3) by have : _ = some (Value.int .i64 c.k) := h.w.cell 0; rw [hk] at this; exact this))
  have o_mv := hall .mv (by simp)
  have o_rng := hall .rng (by simp)
  have hl0 := uvB_10 (v := (3 : Int)) (by decide) (by decide)
  obtain ⟨p0, hp0⟩ : ∃ p : List UInt8, p = [] ++ uvB ((3 : Int)).toNat := ⟨_, rfl⟩
  have hz0 : p0.length ≤ 10 := by rw [hp0, List.nil_append]; exact hl0
  have U0 := fun (base C : Nat) (V : World) (h : WrQ V base C []) => ruint_z C base 3 (by decide) (by decide) [] V h (by simp)
  rw [← hp0] at U0
  have gf := okS_len (okR_left o_rng)
  have gt := okS_len (okR_right o_rng)
  rw [← Lib.size_eq] at gf gt
  obtain ⟨b_mv1, b_mv2⟩ := id o_mv
  have HP0 := Lib.hid hp0
  clear hp0 hl0
  obtain ⟨p1, hp1⟩ : ∃ p : List UInt8, p = p0 ++ uvB (c.mv).toNat := ⟨_, rfl⟩
  have hl1 := uvB_10 (v := c.mv) (by omega) (by omega)
  have U1 := fun (base C : Nat) (V : World) (h : WrQ V base C p0) => ruint_z C base (c.mv) (by omega) (by omega) p0 V h (by omega)
  have wr1 : IntKind.u64.wrap (c.mv) = c.mv := by rw [IntKind.wrap_u64]; omega
  have hz1 : p1.length ≤ p0.length + 10 := by rw [hp1, List.length_append]; omega
  rw [← hp1] at U1
  have HP1 := Lib.hid hp1
  clear hp1 hl1
  obtain ⟨p2, hp2⟩ : ∃ p : List UInt8, p = p1 ++ txB (c.f).data.toList := ⟨_, rfl⟩
  have hl2 := txB_len (c.f).data.toList (by rw [← Lib.size_eq]; omega)
  rw [← Lib.size_eq] at hl2
  have U2 := fun (base C : Nat) (V : World) (h : WrQ V base C p1) => rtext_w C base (c.f) p1 V h (by omega) (by omega)
  have hz2 : p2.length ≤ p1.length + 70000 := by rw [hp2, List.length_append]; omega
  rw [← hp2] at U2
  have HP2 := Lib.hid hp2
  clear hp2 hl2
  obtain ⟨p3, hp3⟩ : ∃ p : List UInt8, p = p2 ++ txB (c.t).data.toList := ⟨_, rfl⟩
  have hl3 := txB_len (c.t).data.toList (by rw [← Lib.size_eq]; omega)
  rw [← Lib.size_eq] at hl3
  have U3 := fun (base C : Nat) (V : World) (h : WrQ V base C p2) => rtext_w C base (c.t) p2 V h (by omega) (by omega)
  have hz3 : p3.length ≤ p2.length + 70000 := by rw [hp3, List.length_append]; omega
  rw [← hp3] at U3
  have HP3 := Lib.hid hp3
  clear hp3 hl3
  have HBY : Hid (p3 = bytesC c) := Lib.hid (by rw [HP3.out, HP2.out, HP1.out, HP0.out]; unfold bytesC; rw [if_neg (by rw [hk]; decide), hk]; show _ = uvB _ ++ ([.mv, .rng] : List Fl).flatMap (encF · c); simp [encF])
  have HZ : Hid (p3.length ≤ 700000) := Lib.hid (by omega)
  have U0 := Lib.hid U0
  have U1 := Lib.hid U1
  have U2 := Lib.hid U2
  have U3 := Lib.hid U3
  clear hall hok h hk hz0 hz1 hz2 hz3
  clear o_mv o_rng
  go_enter Tryz.func27, Tryz.ntmps27
  go_upto_region 1 with fail
  generalize w.alloc (.cells (cA c A n m) 36) = w1 at B1 C1 CK ⊢
  go_upto_region 5 with (first
    | (refine wpList_load_row rfl 36 (.tmp 1) rfl _ rfl 36 (cA c A n m) (0, 0) _ C1.out.w Tryz.underlying36 rfl (info24 c A n m) ?_)
    | (go_at_call 31; refine CK.out.mono ?_; rintro e w2 ⟨rfl, hb⟩; have B2 := Lib.hid (B1.out.trans (hb.mono B1.out.size)); have C2 := Lib.hid (C1.out.keep hb); have yk := HK.out w2 _ C2.out; clear hb CK))
  clear yk B1 C1
  have NW := Lib.hid ((rnew_any w2).mono (R' := fun e w' => e = .returned (.pointer (some ⟨w2.heap.size, 0, none⟩)) ∧ WrQ w' w2.heap.size w2.heap.size [] ∧ Below w2.heap.size w2 w') (fun e w' ⟨he, hw⟩ => ⟨he, by rw [hw]; exact WrQ.new w2 (Nat.le_refl _), by rw [hw]; exact (Below.refl _ _).alloc (Nat.le_refl _) _⟩))
  go_upto_region 6 with (go_at_call 67; refine NW.out.mono ?_; rintro e w3 ⟨rfl, hP, hb⟩; have I3 := Lib.hid (show EncQ w c A n m w.heap.size w2.heap.size w2.heap.size [] w3 from ⟨B2.out.trans (hb.mono B2.out.size), C2.out.keep hb, hP, Nat.le_refl _, C2.out.lt, HI0.out⟩); have yk := HK.out w3 _ I3.out.cm; clear hP hb NW)
  clear B2 C2
  generalize w2.heap.size = X at I3 ⊢
  have U0 := Lib.hid (U0.out _ _ _ I3.out.wp)
  go_upto_region 19 with (go_at_call 68; refine U0.out.mono ?_; rintro e w4 ⟨rfl, hP, hK⟩; clear yk; have I4 := Lib.hid (I3.out.wrote hP hK); have yk := HK.out w4 _ I4.out.cm; have y0 : w4.cell? ⟨w.heap.size, 8, none⟩ = some (.int .i64 c.mv) := I4.out.cm.w.cell 8; clear hP hK U0)
  clear I3
  have U1 := Lib.hid (U1.out _ _ _ I4.out.wp)
  go_upto_region 20 with (go_at_call 68; refine U1.out.mono ?_; rintro e w5 ⟨rfl, hP, hK⟩; clear yk y0; have I5 := Lib.hid (I4.out.wrote hP hK); have yk := HK.out w5 _ I5.out.cm; have y0 : w5.cell? ⟨w.heap.size, 9, none⟩ = some (.string c.f) := I5.out.cm.w.cell 9; clear hP hK U1)
  clear I4
  have U2 := Lib.hid (U2.out _ _ _ I5.out.wp)
  go_upto_region 21 with (go_at_call 70; refine U2.out.mono ?_; rintro e w6 ⟨rfl, hP, hK⟩; clear yk y0; have I6 := Lib.hid (I5.out.wrote hP hK); have yk := HK.out w6 _ I6.out.cm; have y0 : w6.cell? ⟨w.heap.size, 10, none⟩ = some (.string c.t) := I6.out.cm.w.cell 10; clear hP hK U2)
  clear I5
  have U3 := Lib.hid (U3.out _ _ _ I6.out.wp)
  go_upto_region 42 with (go_at_call 70; refine U3.out.mono ?_; rintro e w7 ⟨rfl, hP, hK⟩; clear yk y0; have I7 := Lib.hid (I6.out.wrote hP hK); have yk := HK.out w7 _ I7.out.cm; clear hP hK U3)
  clear I6
  clear yk
  rw [HBY.out] at I7
  have HL : Hid ((bytesC c).length ≤ 700000) := Lib.hid (by rw [← HBY.out]; exact HZ.out)
  have LN := Lib.hid (rlen_w _ _ (bytesC c) w7 I7.out.wp (by have := HL.out; omega))
  have HB := Lib.hid I7.out.bl
  by_cases hl : 65536 < (bytesC c).length
  · have hl' : (65536 : Int) < ((bytesC c).length : Int) := by omega
    have HV := Lib.hid (encBC_long HOK.out hl)
    clear hl
    go_wp2_with (go_at_call 71; refine LN.out.mono ?_; rintro e v7 ⟨rfl, hb⟩; have B7 := Lib.hid (HB.out.trans (hb.mono HB.out.size)); clear hb)
    go_ret2
    unfold EncCR
    rw [HV.out.1, HV.out.2]
    exact ⟨⟨none, 0, 0, rfl, slB_nil _, Nat.le_refl _⟩, B7.out⟩
  · have hl' : ¬ ((65536 : Int) < ((bytesC c).length : Int)) := by omega
    have HV := Lib.hid (encBC_yes HOK.out (by omega))
    have BY := Lib.hid (fun (V : World) (hb : Below w7.heap.size w7 V) => rbytes_w _ _ (bytesC c) V (I7.out.wp.keep hb) (by have := HL.out; omega))
    clear hl
    go_wp2_with (first
      | (go_at_call 71; refine LN.out.mono ?_; rintro e v7 ⟨rfl, hb⟩; have BY := Lib.hid (BY.out v7 hb); have B7 := Lib.hid (HB.out.trans (hb.mono HB.out.size)); clear hb)
      | (go_at_call 72; refine BY.out.mono ?_; rintro e v8 ⟨⟨v9, rfl, ho⟩, hb⟩; obtain ⟨A8, c8, rfl, hc8⟩ := own_slice2 ho; have B8 := Lib.hid (And.intro (B7.out.trans (hb.mono B7.out.size)) (And.intro (SlB.of_own ho) hc8)); clear ho hb hc8))
    go_ret2
    unfold EncCR
    rw [HV.out.1, HV.out.2]
    exact ⟨⟨_, _, _, rfl, B8.out.2.1, B8.out.2.2⟩, B8.out.1⟩
set_option maxRecDepth 100000 in
set_option maxHeartbeats 8000000 in
theorem renc_4 (c : Cv) (A : Option Addr) (n m : Nat) (w : World) (h : CmdIn w c A n m) (hok : cmdOk c) (hk : c.k = 4) :
    Calls Tryz.prog 27 #[.agg (cA c A n m)] w fun e w' => EncCR c w w' e := by
  have B1 := Lib.hid ((Below.refl w.heap.size w).alloc (Nat.le_refl _) (.cells (cA c A n m) 36))
  have C1 := Lib.hid (CmdAt.new h)
  have HI0 := Lib.hid h
  have CK := rcheck_any c A n m _ C1.out.i
  rw [ckC_yes hok] at CK
  have CK := Lib.hid CK
  have hall : ∀ x ∈ ([.mv, .rng, .data] : List Fl), okF x c := by
    obtain ⟨l0, hf, hall, _⟩ := hok
    rw [hk] at hf
    cases hf
    exact hall
  have HOK := Lib.hid hok
  have HK := Lib.hid (fun (W : World) (B : Nat) (h : CmdAt W B c A n m) => (show W.cell? ⟨B, 0, none⟩ = some (.int .i64 4) by have : _ = some (Value.int .i64 c.k) := h.w.cell 0; rw [hk] at this; exact this))
  have o_mv := hall .mv (by simp)
  have o_rng := hall .rng (by simp)
  have o_data := hall .data (by simp)
  have hl0 := uvB_10 (v := (4 : Int)) (by decide) (by decide)
  obtain ⟨p0, hp0⟩ : ∃ p : List UInt8, p = [] ++ uvB ((4 : Int)).toNat := ⟨_, rfl⟩
  have hz0 : p0.length ≤ 10 := by rw [hp0, List.nil_append]; exact hl0
  have U0 := fun (base C : Nat) (V : World) (h : WrQ V base C []) => ruint_z C base 4 (by decide) (by decide) [] V h (by simp)
  rw [← hp0] at U0
  have gf := okS_len (okR_left o_rng)
  have gt := okS_len (okR_right o_rng)
  rw [← Lib.size_eq] at gf gt
  obtain ⟨b_mv1, b_mv2⟩ := id o_mv
  have gd : c.data.size ≤ 65536 := o_data
  have HP0 := Lib.hid hp0
  clear hp0 hl0
  obtain ⟨p1, hp1⟩ : ∃ p : List UInt8, p = p0 ++ uvB (c.mv).toNat := ⟨_, rfl⟩
  have hl1 := uvB_10 (v := c.mv) (by omega) (by omega)
  have U1 := fun (base C : Nat) (V : World) (h : WrQ V base C p0) => ruint_z C base (c.mv) (by omega) (by omega) p0 V h (by omega)
  have wr1 : IntKind.u64.wrap (c.mv) = c.mv := by rw [IntKind.wrap_u64]; omega
  have hz1 : p1.length ≤ p0.length + 10 := by rw [hp1, List.length_append]; omega
  rw [← hp1] at U1
  have HP1 := Lib.hid hp1
  clear hp1 hl1
  obtain ⟨p2, hp2⟩ : ∃ p : List UInt8, p = p1 ++ txB (c.f).data.toList := ⟨_, rfl⟩
  have hl2 := txB_len (c.f).data.toList (by rw [← Lib.size_eq]; omega)
  rw [← Lib.size_eq] at hl2
  have U2 := fun (base C : Nat) (V : World) (h : WrQ V base C p1) => rtext_w C base (c.f) p1 V h (by omega) (by omega)
  have hz2 : p2.length ≤ p1.length + 70000 := by rw [hp2, List.length_append]; omega
  rw [← hp2] at U2
  have HP2 := Lib.hid hp2
  clear hp2 hl2
  obtain ⟨p3, hp3⟩ : ∃ p : List UInt8, p = p2 ++ txB (c.t).data.toList := ⟨_, rfl⟩
  have hl3 := txB_len (c.t).data.toList (by rw [← Lib.size_eq]; omega)
  rw [← Lib.size_eq] at hl3
  have U3 := fun (base C : Nat) (V : World) (h : WrQ V base C p2) => rtext_w C base (c.t) p2 V h (by omega) (by omega)
  have hz3 : p3.length ≤ p2.length + 70000 := by rw [hp3, List.length_append]; omega
  rw [← hp3] at U3
  have HP3 := Lib.hid hp3
  clear hp3 hl3
  obtain ⟨p4, hp4⟩ : ∃ p : List UInt8, p = p3 ++ txB (c.data).data.toList := ⟨_, rfl⟩
  have hl4 := txB_len (c.data).data.toList (by rw [← Lib.size_eq]; omega)
  rw [← Lib.size_eq] at hl4
  have U4 := fun (base C : Nat) (V : World) (h : WrQ V base C p3) => rtext_w C base (c.data) p3 V h (by omega) (by omega)
  have hz4 : p4.length ≤ p3.length + 70000 := by rw [hp4, List.length_append]; omega
  rw [← hp4] at U4
  have HP4 := Lib.hid hp4
  clear hp4 hl4
  have HBY : Hid (p4 = bytesC c) := Lib.hid (by rw [HP4.out, HP3.out, HP2.out, HP1.out, HP0.out]; unfold bytesC; rw [if_neg (by rw [hk]; decide), hk]; show _ = uvB _ ++ ([.mv, .rng, .data] : List Fl).flatMap (encF · c); simp [encF])
  have HZ : Hid (p4.length ≤ 700000) := Lib.hid (by omega)
  have U0 := Lib.hid U0
  have U1 := Lib.hid U1
  have U2 := Lib.hid U2
  have U3 := Lib.hid U3
  have U4 := Lib.hid U4
  clear hall hok h hk hz0 hz1 hz2 hz3 hz4
  clear o_mv o_rng o_data
  go_enter Tryz.func27, Tryz.ntmps27
  go_upto_region 1 with fail
  generalize w.alloc (.cells (cA c A n m) 36) = w1 at B1 C1 CK ⊢
  go_upto_region 5 with (first
    | (refine wpList_load_row rfl 36 (.tmp 1) rfl _ rfl 36 (cA c A n m) (0, 0) _ C1.out.w Tryz.underlying36 rfl (info24 c A n m) ?_)
    | (go_at_call 31; refine CK.out.mono ?_; rintro e w2 ⟨rfl, hb⟩; have B2 := Lib.hid (B1.out.trans (hb.mono B1.out.size)); have C2 := Lib.hid (C1.out.keep hb); have yk := HK.out w2 _ C2.out; clear hb CK))
  clear yk B1 C1
  have NW := Lib.hid ((rnew_any w2).mono (R' := fun e w' => e = .returned (.pointer (some ⟨w2.heap.size, 0, none⟩)) ∧ WrQ w' w2.heap.size w2.heap.size [] ∧ Below w2.heap.size w2 w') (fun e w' ⟨he, hw⟩ => ⟨he, by rw [hw]; exact WrQ.new w2 (Nat.le_refl _), by rw [hw]; exact (Below.refl _ _).alloc (Nat.le_refl _) _⟩))
  go_upto_region 6 with (go_at_call 67; refine NW.out.mono ?_; rintro e w3 ⟨rfl, hP, hb⟩; have I3 := Lib.hid (show EncQ w c A n m w.heap.size w2.heap.size w2.heap.size [] w3 from ⟨B2.out.trans (hb.mono B2.out.size), C2.out.keep hb, hP, Nat.le_refl _, C2.out.lt, HI0.out⟩); have yk := HK.out w3 _ I3.out.cm; clear hP hb NW)
  clear B2 C2
  generalize w2.heap.size = X at I3 ⊢
  have U0 := Lib.hid (U0.out _ _ _ I3.out.wp)
  go_upto_region 19 with (go_at_call 68; refine U0.out.mono ?_; rintro e w4 ⟨rfl, hP, hK⟩; clear yk; have I4 := Lib.hid (I3.out.wrote hP hK); have yk := HK.out w4 _ I4.out.cm; have y0 : w4.cell? ⟨w.heap.size, 8, none⟩ = some (.int .i64 c.mv) := I4.out.cm.w.cell 8; clear hP hK U0)
  clear I3
  have U1 := Lib.hid (U1.out _ _ _ I4.out.wp)
  go_upto_region 20 with (go_at_call 68; refine U1.out.mono ?_; rintro e w5 ⟨rfl, hP, hK⟩; clear yk y0; have I5 := Lib.hid (I4.out.wrote hP hK); have yk := HK.out w5 _ I5.out.cm; have y0 : w5.cell? ⟨w.heap.size, 9, none⟩ = some (.string c.f) := I5.out.cm.w.cell 9; clear hP hK U1)
  clear I4
  have U2 := Lib.hid (U2.out _ _ _ I5.out.wp)
  go_upto_region 21 with (go_at_call 70; refine U2.out.mono ?_; rintro e w6 ⟨rfl, hP, hK⟩; clear yk y0; have I6 := Lib.hid (I5.out.wrote hP hK); have yk := HK.out w6 _ I6.out.cm; have y0 : w6.cell? ⟨w.heap.size, 10, none⟩ = some (.string c.t) := I6.out.cm.w.cell 10; clear hP hK U2)
  clear I5
  have U3 := Lib.hid (U3.out _ _ _ I6.out.wp)
  go_upto_region 23 with (go_at_call 70; refine U3.out.mono ?_; rintro e w7 ⟨rfl, hP, hK⟩; clear yk y0; have I7 := Lib.hid (I6.out.wrote hP hK); have yk := HK.out w7 _ I7.out.cm; have y0 : w7.cell? ⟨w.heap.size, 23, none⟩ = some (.string c.data) := I7.out.cm.w.cell 23; clear hP hK U3)
  clear I6
  have U4 := Lib.hid (U4.out _ _ _ I7.out.wp)
  go_upto_region 42 with (go_at_call 70; refine U4.out.mono ?_; rintro e w8 ⟨rfl, hP, hK⟩; clear yk y0; have I8 := Lib.hid (I7.out.wrote hP hK); have yk := HK.out w8 _ I8.out.cm; clear hP hK U4)
  clear I7
  clear yk
  rw [HBY.out] at I8
  have HL : Hid ((bytesC c).length ≤ 700000) := Lib.hid (by rw [← HBY.out]; exact HZ.out)
  have LN := Lib.hid (rlen_w _ _ (bytesC c) w8 I8.out.wp (by have := HL.out; omega))
  have HB := Lib.hid I8.out.bl
  by_cases hl : 65536 < (bytesC c).length
  · have hl' : (65536 : Int) < ((bytesC c).length : Int) := by omega
    have HV := Lib.hid (encBC_long HOK.out hl)
    clear hl
    go_wp2_with (go_at_call 71; refine LN.out.mono ?_; rintro e v7 ⟨rfl, hb⟩; have B7 := Lib.hid (HB.out.trans (hb.mono HB.out.size)); clear hb)
    go_ret2
    unfold EncCR
    rw [HV.out.1, HV.out.2]
    exact ⟨⟨none, 0, 0, rfl, slB_nil _, Nat.le_refl _⟩, B7.out⟩
  · have hl' : ¬ ((65536 : Int) < ((bytesC c).length : Int)) := by omega
    have HV := Lib.hid (encBC_yes HOK.out (by omega))
    have BY := Lib.hid (fun (V : World) (hb : Below w8.heap.size w8 V) => rbytes_w _ _ (bytesC c) V (I8.out.wp.keep hb) (by have := HL.out; omega))
    clear hl
    go_wp2_with (first
      | (go_at_call 71; refine LN.out.mono ?_; rintro e v7 ⟨rfl, hb⟩; have BY := Lib.hid (BY.out v7 hb); have B7 := Lib.hid (HB.out.trans (hb.mono HB.out.size)); clear hb)
      | (go_at_call 72; refine BY.out.mono ?_; rintro e v8 ⟨⟨v9, rfl, ho⟩, hb⟩; obtain ⟨A8, c8, rfl, hc8⟩ := own_slice2 ho; have B8 := Lib.hid (And.intro (B7.out.trans (hb.mono B7.out.size)) (And.intro (SlB.of_own ho) hc8)); clear ho hb hc8))
    go_ret2
    unfold EncCR
    rw [HV.out.1, HV.out.2]
    exact ⟨⟨_, _, _, rfl, B8.out.2.1, B8.out.2.2⟩, B8.out.1⟩
set_option maxRecDepth 100000 in
set_option maxHeartbeats 8000000 in
theorem renc_11 (c : Cv) (A : Option Addr) (n m : Nat) (w : World) (h : CmdIn w c A n m) (hok : cmdOk c) (hk : c.k = 11) :
    Calls Tryz.prog 27 #[.agg (cA c A n m)] w fun e w' => EncCR c w w' e := by
  have B1 := Lib.hid ((Below.refl w.heap.size w).alloc (Nat.le_refl _) (.cells (cA c A n m) 36))
  have C1 := Lib.hid (CmdAt.new h)
  have HI0 := Lib.hid h
  have CK := rcheck_any c A n m _ C1.out.i
  rw [ckC_yes hok] at CK
  have CK := Lib.hid CK
  have hall : ∀ x ∈ ([.call, .saga, .defn] : List Fl), okF x c := by
    obtain ⟨l0, hf, hall, _⟩ := hok
    rw [hk] at hf
    cases hf
    exact hall
  have HOK := Lib.hid hok
  have HK := Lib.hid (fun (W : World) (B : Nat) (h : CmdAt W B c A n m) => (show W.cell? ⟨B, 0, none⟩ = some (.int .i64 11) by have : _ = some (Value.int .i64 c.k) := h.w.cell 0; rw [hk] at this; exact this))
  have o_call := hall .call (by simp)
  have o_saga := hall .saga (by simp)
  have o_defn := hall .defn (by simp)
  have hl0 := uvB_10 (v := (11 : Int)) (by decide) (by decide)
  obtain ⟨p0, hp0⟩ : ∃ p : List UInt8, p = [] ++ uvB ((11 : Int)).toNat := ⟨_, rfl⟩
  have hz0 : p0.length ≤ 10 := by rw [hp0, List.nil_append]; exact hl0
  have U0 := fun (base C : Nat) (V : World) (h : WrQ V base C []) => ruint_z C base 11 (by decide) (by decide) [] V h (by simp)
  rw [← hp0] at U0
  obtain ⟨b_call1, b_call2⟩ := id o_call
  obtain ⟨b_saga1, b_saga2⟩ := id o_saga
  have hbl := bytesD_len o_defn
  obtain ⟨sd, hsd⟩ : ∃ s : ByteArray, s = ⟨(bytesD c.d).toArray⟩ := ⟨_, rfl⟩
  have gsd : sd.size ≤ 65536 := by rw [hsd, Lib.size_mk]; exact hbl
  have RE := fun (W : World) (h : CmdIn W c A n m) => rdefBytes_any c A n m W h o_defn sd hsd
  unfold dV at RE
  have RE := Lib.hid RE
  have HSD : Hid (sd.data.toList = bytesD c.d) := Lib.hid (by rw [hsd])
  clear hsd hbl
  have HP0 := Lib.hid hp0
  clear hp0 hl0
  obtain ⟨p1, hp1⟩ : ∃ p : List UInt8, p = p0 ++ uvB (c.call).toNat := ⟨_, rfl⟩
  have hl1 := uvB_10 (v := c.call) (by omega) (by omega)
  have U1 := fun (base C : Nat) (V : World) (h : WrQ V base C p0) => ruint_z C base (c.call) (by omega) (by omega) p0 V h (by omega)
  have wr1 : IntKind.u64.wrap (c.call) = c.call := by rw [IntKind.wrap_u64]; omega
  have hz1 : p1.length ≤ p0.length + 10 := by rw [hp1, List.length_append]; omega
  rw [← hp1] at U1
  have HP1 := Lib.hid hp1
  clear hp1 hl1
  obtain ⟨p2, hp2⟩ : ∃ p : List UInt8, p = p1 ++ uvB (c.saga).toNat := ⟨_, rfl⟩
  have hl2 := uvB_10 (v := c.saga) (by omega) (by omega)
  have U2 := fun (base C : Nat) (V : World) (h : WrQ V base C p1) => ruint_z C base (c.saga) (by omega) (by omega) p1 V h (by omega)
  have wr2 : IntKind.u64.wrap (c.saga) = c.saga := by rw [IntKind.wrap_u64]; omega
  have hz2 : p2.length ≤ p1.length + 10 := by rw [hp2, List.length_append]; omega
  rw [← hp2] at U2
  have HP2 := Lib.hid hp2
  clear hp2 hl2
  obtain ⟨p3, hp3⟩ : ∃ p : List UInt8, p = p2 ++ txB (sd).data.toList := ⟨_, rfl⟩
  have hl3 := txB_len (sd).data.toList (by rw [← Lib.size_eq]; omega)
  rw [← Lib.size_eq] at hl3
  have U3 := fun (base C : Nat) (V : World) (h : WrQ V base C p2) => rtext_w C base (sd) p2 V h (by omega) (by omega)
  have hz3 : p3.length ≤ p2.length + 70000 := by rw [hp3, List.length_append]; omega
  rw [← hp3] at U3
  have HP3 := Lib.hid hp3
  clear hp3 hl3
  have HBY : Hid (p3 = bytesC c) := Lib.hid (by rw [HP3.out, HP2.out, HP1.out, HP0.out, HSD.out]; unfold bytesC; rw [if_neg (by rw [hk]; decide), hk]; show _ = uvB _ ++ ([.call, .saga, .defn] : List Fl).flatMap (encF · c); simp [encF])
  have HZ : Hid (p3.length ≤ 700000) := Lib.hid (by omega)
  have U0 := Lib.hid U0
  have U1 := Lib.hid U1
  have U2 := Lib.hid U2
  have U3 := Lib.hid U3
  clear hall hok h hk hz0 hz1 hz2 hz3
  clear o_call o_saga o_defn
  go_enter Tryz.func27, Tryz.ntmps27
  go_upto_region 1 with fail
  generalize w.alloc (.cells (cA c A n m) 36) = w1 at B1 C1 CK ⊢
  go_upto_region 5 with (first
    | (refine wpList_load_row rfl 36 (.tmp 1) rfl _ rfl 36 (cA c A n m) (0, 0) _ C1.out.w Tryz.underlying36 rfl (info24 c A n m) ?_)
    | (go_at_call 31; refine CK.out.mono ?_; rintro e w2 ⟨rfl, hb⟩; have B2 := Lib.hid (B1.out.trans (hb.mono B1.out.size)); have C2 := Lib.hid (C1.out.keep hb); have yk := HK.out w2 _ C2.out; clear hb CK))
  clear yk B1 C1
  have NW := Lib.hid ((rnew_any w2).mono (R' := fun e w' => e = .returned (.pointer (some ⟨w2.heap.size, 0, none⟩)) ∧ WrQ w' w2.heap.size w2.heap.size [] ∧ Below w2.heap.size w2 w') (fun e w' ⟨he, hw⟩ => ⟨he, by rw [hw]; exact WrQ.new w2 (Nat.le_refl _), by rw [hw]; exact (Below.refl _ _).alloc (Nat.le_refl _) _⟩))
  go_upto_region 6 with (go_at_call 67; refine NW.out.mono ?_; rintro e w3 ⟨rfl, hP, hb⟩; have I3 := Lib.hid (show EncQ w c A n m w.heap.size w2.heap.size w2.heap.size [] w3 from ⟨B2.out.trans (hb.mono B2.out.size), C2.out.keep hb, hP, Nat.le_refl _, C2.out.lt, HI0.out⟩); have yk := HK.out w3 _ I3.out.cm; clear hP hb NW)
  clear B2 C2
  generalize w2.heap.size = X at I3 ⊢
  have U0 := Lib.hid (U0.out _ _ _ I3.out.wp)
  go_upto_region 27 with (go_at_call 68; refine U0.out.mono ?_; rintro e w4 ⟨rfl, hP, hK⟩; clear yk; have I4 := Lib.hid (I3.out.wrote hP hK); have yk := HK.out w4 _ I4.out.cm; have y0 : w4.cell? ⟨w.heap.size, 1, none⟩ = some (.int .i64 c.call) := I4.out.cm.w.cell 1; clear hP hK U0)
  clear I3
  have U1 := Lib.hid (U1.out _ _ _ I4.out.wp)
  go_upto_region 28 with (go_at_call 68; refine U1.out.mono ?_; rintro e w5 ⟨rfl, hP, hK⟩; clear yk y0; have I5 := Lib.hid (I4.out.wrote hP hK); have yk := HK.out w5 _ I5.out.cm; have y0 : w5.cell? ⟨w.heap.size, 2, none⟩ = some (.int .i64 c.saga) := I5.out.cm.w.cell 2; clear hP hK U1)
  clear I4
  have U2 := Lib.hid (U2.out _ _ _ I5.out.wp)
  go_upto_region 30 with (go_at_call 68; refine U2.out.mono ?_; rintro e w6 ⟨rfl, hP, hK⟩; clear yk y0; have I6 := Lib.hid (I5.out.wrote hP hK); have yk := HK.out w6 _ I6.out.cm; have y0 : w6.cell? ⟨w.heap.size, 12, none⟩ = some (.string c.d.n) := I6.out.cm.w.cell 12; have y1 : w6.cell? ⟨w.heap.size, 13, none⟩ = some (.int .i64 c.d.r) := I6.out.cm.w.cell 13; have y2 : w6.cell? ⟨w.heap.size, 14, none⟩ = some (.int .i64 c.d.dl) := I6.out.cm.w.cell 14; have y3 : w6.cell? ⟨w.heap.size, 15, none⟩ = some (.slice A n m) := I6.out.cm.w.cell 15; clear hP hK U2)
  clear I5
  have RE := Lib.hid (RE.out _ I6.out.cm.i)
  go_upto_region 31 with (go_at_call 75; refine RE.out.mono ?_; rintro e w7 ⟨⟨A', n', c', rfl, hcv⟩, hb⟩; clear yk y0 y1 y2 y3; have I7 := Lib.hid (I6.out.keep hb); have yk := HK.out w7 _ I7.out.cm; clear hb RE)
  clear I6
  have U3 := Lib.hid (U3.out _ _ _ I7.out.wp)
  go_upto_region 42 with (go_at_call 70; refine U3.out.mono ?_; rintro e w8 ⟨rfl, hP, hK⟩; clear yk ; have I8 := Lib.hid (I7.out.wrote hP hK); have yk := HK.out w8 _ I8.out.cm; clear hP hK U3)
  clear I7
  clear yk
  rw [HBY.out] at I8
  have HL : Hid ((bytesC c).length ≤ 700000) := Lib.hid (by rw [← HBY.out]; exact HZ.out)
  have LN := Lib.hid (rlen_w _ _ (bytesC c) w8 I8.out.wp (by have := HL.out; omega))
  have HB := Lib.hid I8.out.bl
  by_cases hl : 65536 < (bytesC c).length
  · have hl' : (65536 : Int) < ((bytesC c).length : Int) := by omega
    have HV := Lib.hid (encBC_long HOK.out hl)
    clear hl
    go_wp2_with (go_at_call 71; refine LN.out.mono ?_; rintro e v7 ⟨rfl, hb⟩; have B7 := Lib.hid (HB.out.trans (hb.mono HB.out.size)); clear hb)
    go_ret2
    unfold EncCR
    rw [HV.out.1, HV.out.2]
    exact ⟨⟨none, 0, 0, rfl, slB_nil _, Nat.le_refl _⟩, B7.out⟩
  · have hl' : ¬ ((65536 : Int) < ((bytesC c).length : Int)) := by omega
    have HV := Lib.hid (encBC_yes HOK.out (by omega))
    have BY := Lib.hid (fun (V : World) (hb : Below w8.heap.size w8 V) => rbytes_w _ _ (bytesC c) V (I8.out.wp.keep hb) (by have := HL.out; omega))
    clear hl
    go_wp2_with (first
      | (go_at_call 71; refine LN.out.mono ?_; rintro e v7 ⟨rfl, hb⟩; have BY := Lib.hid (BY.out v7 hb); have B7 := Lib.hid (HB.out.trans (hb.mono HB.out.size)); clear hb)
      | (go_at_call 72; refine BY.out.mono ?_; rintro e v8 ⟨⟨v9, rfl, ho⟩, hb⟩; obtain ⟨A8, c8, rfl, hc8⟩ := own_slice2 ho; have B8 := Lib.hid (And.intro (B7.out.trans (hb.mono B7.out.size)) (And.intro (SlB.of_own ho) hc8)); clear ho hb hc8))
    go_ret2
    unfold EncCR
    rw [HV.out.1, HV.out.2]
    exact ⟨⟨_, _, _, rfl, B8.out.2.1, B8.out.2.2⟩, B8.out.1⟩
set_option maxRecDepth 100000 in
set_option maxHeartbeats 8000000 in
theorem renc_12 (c : Cv) (A : Option Addr) (n m : Nat) (w : World) (h : CmdIn w c A n m) (hok : cmdOk c) (hk : c.k = 12) :
    Calls Tryz.prog 27 #[.agg (cA c A n m)] w fun e w' => EncCR c w w' e := by
  have B1 := Lib.hid ((Below.refl w.heap.size w).alloc (Nat.le_refl _) (.cells (cA c A n m) 36))
  have C1 := Lib.hid (CmdAt.new h)
  have HI0 := Lib.hid h
  have CK := rcheck_any c A n m _ C1.out.i
  rw [ckC_yes hok] at CK
  have CK := Lib.hid CK
  have hall : ∀ x ∈ ([.call, .saga] : List Fl), okF x c := by
    obtain ⟨l0, hf, hall, _⟩ := hok
    rw [hk] at hf
    cases hf
    exact hall
  have HOK := Lib.hid hok
  have HK := Lib.hid (fun (W : World) (B : Nat) (h : CmdAt W B c A n m) => (show W.cell? ⟨B, 0, none⟩ = some (.int .i64 12) by have : _ = some (Value.int .i64 c.k) := h.w.cell 0; rw [hk] at this; exact this))
  have o_call := hall .call (by simp)
  have o_saga := hall .saga (by simp)
  have hl0 := uvB_10 (v := (12 : Int)) (by decide) (by decide)
  obtain ⟨p0, hp0⟩ : ∃ p : List UInt8, p = [] ++ uvB ((12 : Int)).toNat := ⟨_, rfl⟩
  have hz0 : p0.length ≤ 10 := by rw [hp0, List.nil_append]; exact hl0
  have U0 := fun (base C : Nat) (V : World) (h : WrQ V base C []) => ruint_z C base 12 (by decide) (by decide) [] V h (by simp)
  rw [← hp0] at U0
  obtain ⟨b_call1, b_call2⟩ := id o_call
  obtain ⟨b_saga1, b_saga2⟩ := id o_saga
  have HP0 := Lib.hid hp0
  clear hp0 hl0
  obtain ⟨p1, hp1⟩ : ∃ p : List UInt8, p = p0 ++ uvB (c.call).toNat := ⟨_, rfl⟩
  have hl1 := uvB_10 (v := c.call) (by omega) (by omega)
  have U1 := fun (base C : Nat) (V : World) (h : WrQ V base C p0) => ruint_z C base (c.call) (by omega) (by omega) p0 V h (by omega)
  have wr1 : IntKind.u64.wrap (c.call) = c.call := by rw [IntKind.wrap_u64]; omega
  have hz1 : p1.length ≤ p0.length + 10 := by rw [hp1, List.length_append]; omega
  rw [← hp1] at U1
  have HP1 := Lib.hid hp1
  clear hp1 hl1
  obtain ⟨p2, hp2⟩ : ∃ p : List UInt8, p = p1 ++ uvB (c.saga).toNat := ⟨_, rfl⟩
  have hl2 := uvB_10 (v := c.saga) (by omega) (by omega)
  have U2 := fun (base C : Nat) (V : World) (h : WrQ V base C p1) => ruint_z C base (c.saga) (by omega) (by omega) p1 V h (by omega)
  have wr2 : IntKind.u64.wrap (c.saga) = c.saga := by rw [IntKind.wrap_u64]; omega
  have hz2 : p2.length ≤ p1.length + 10 := by rw [hp2, List.length_append]; omega
  rw [← hp2] at U2
  have HP2 := Lib.hid hp2
  clear hp2 hl2
  have HBY : Hid (p2 = bytesC c) := Lib.hid (by rw [HP2.out, HP1.out, HP0.out]; unfold bytesC; rw [if_neg (by rw [hk]; decide), hk]; show _ = uvB _ ++ ([.call, .saga] : List Fl).flatMap (encF · c); simp [encF])
  have HZ : Hid (p2.length ≤ 700000) := Lib.hid (by omega)
  have U0 := Lib.hid U0
  have U1 := Lib.hid U1
  have U2 := Lib.hid U2
  clear hall hok h hk hz0 hz1 hz2
  clear o_call o_saga
  go_enter Tryz.func27, Tryz.ntmps27
  go_upto_region 1 with fail
  generalize w.alloc (.cells (cA c A n m) 36) = w1 at B1 C1 CK ⊢
  go_upto_region 5 with (first
    | (refine wpList_load_row rfl 36 (.tmp 1) rfl _ rfl 36 (cA c A n m) (0, 0) _ C1.out.w Tryz.underlying36 rfl (info24 c A n m) ?_)
    | (go_at_call 31; refine CK.out.mono ?_; rintro e w2 ⟨rfl, hb⟩; have B2 := Lib.hid (B1.out.trans (hb.mono B1.out.size)); have C2 := Lib.hid (C1.out.keep hb); have yk := HK.out w2 _ C2.out; clear hb CK))
  clear yk B1 C1
  have NW := Lib.hid ((rnew_any w2).mono (R' := fun e w' => e = .returned (.pointer (some ⟨w2.heap.size, 0, none⟩)) ∧ WrQ w' w2.heap.size w2.heap.size [] ∧ Below w2.heap.size w2 w') (fun e w' ⟨he, hw⟩ => ⟨he, by rw [hw]; exact WrQ.new w2 (Nat.le_refl _), by rw [hw]; exact (Below.refl _ _).alloc (Nat.le_refl _) _⟩))
  go_upto_region 6 with (go_at_call 67; refine NW.out.mono ?_; rintro e w3 ⟨rfl, hP, hb⟩; have I3 := Lib.hid (show EncQ w c A n m w.heap.size w2.heap.size w2.heap.size [] w3 from ⟨B2.out.trans (hb.mono B2.out.size), C2.out.keep hb, hP, Nat.le_refl _, C2.out.lt, HI0.out⟩); have yk := HK.out w3 _ I3.out.cm; clear hP hb NW)
  clear B2 C2
  generalize w2.heap.size = X at I3 ⊢
  have U0 := Lib.hid (U0.out _ _ _ I3.out.wp)
  go_upto_region 27 with (go_at_call 68; refine U0.out.mono ?_; rintro e w4 ⟨rfl, hP, hK⟩; clear yk; have I4 := Lib.hid (I3.out.wrote hP hK); have yk := HK.out w4 _ I4.out.cm; have y0 : w4.cell? ⟨w.heap.size, 1, none⟩ = some (.int .i64 c.call) := I4.out.cm.w.cell 1; clear hP hK U0)
  clear I3
  have U1 := Lib.hid (U1.out _ _ _ I4.out.wp)
  go_upto_region 28 with (go_at_call 68; refine U1.out.mono ?_; rintro e w5 ⟨rfl, hP, hK⟩; clear yk y0; have I5 := Lib.hid (I4.out.wrote hP hK); have yk := HK.out w5 _ I5.out.cm; have y0 : w5.cell? ⟨w.heap.size, 2, none⟩ = some (.int .i64 c.saga) := I5.out.cm.w.cell 2; clear hP hK U1)
  clear I4
  have U2 := Lib.hid (U2.out _ _ _ I5.out.wp)
  go_upto_region 42 with (go_at_call 68; refine U2.out.mono ?_; rintro e w6 ⟨rfl, hP, hK⟩; clear yk y0; have I6 := Lib.hid (I5.out.wrote hP hK); have yk := HK.out w6 _ I6.out.cm; clear hP hK U2)
  clear I5
  clear yk
  rw [HBY.out] at I6
  have HL : Hid ((bytesC c).length ≤ 700000) := Lib.hid (by rw [← HBY.out]; exact HZ.out)
  have LN := Lib.hid (rlen_w _ _ (bytesC c) w6 I6.out.wp (by have := HL.out; omega))
  have HB := Lib.hid I6.out.bl
  by_cases hl : 65536 < (bytesC c).length
  · have hl' : (65536 : Int) < ((bytesC c).length : Int) := by omega
    have HV := Lib.hid (encBC_long HOK.out hl)
    clear hl
    go_wp2_with (go_at_call 71; refine LN.out.mono ?_; rintro e v7 ⟨rfl, hb⟩; have B7 := Lib.hid (HB.out.trans (hb.mono HB.out.size)); clear hb)
    go_ret2
    unfold EncCR
    rw [HV.out.1, HV.out.2]
    exact ⟨⟨none, 0, 0, rfl, slB_nil _, Nat.le_refl _⟩, B7.out⟩
  · have hl' : ¬ ((65536 : Int) < ((bytesC c).length : Int)) := by omega
    have HV := Lib.hid (encBC_yes HOK.out (by omega))
    have BY := Lib.hid (fun (V : World) (hb : Below w6.heap.size w6 V) => rbytes_w _ _ (bytesC c) V (I6.out.wp.keep hb) (by have := HL.out; omega))
    clear hl
    go_wp2_with (first
      | (go_at_call 71; refine LN.out.mono ?_; rintro e v7 ⟨rfl, hb⟩; have BY := Lib.hid (BY.out v7 hb); have B7 := Lib.hid (HB.out.trans (hb.mono HB.out.size)); clear hb)
      | (go_at_call 72; refine BY.out.mono ?_; rintro e v8 ⟨⟨v9, rfl, ho⟩, hb⟩; obtain ⟨A8, c8, rfl, hc8⟩ := own_slice2 ho; have B8 := Lib.hid (And.intro (B7.out.trans (hb.mono B7.out.size)) (And.intro (SlB.of_own ho) hc8)); clear ho hb hc8))
    go_ret2
    unfold EncCR
    rw [HV.out.1, HV.out.2]
    exact ⟨⟨_, _, _, rfl, B8.out.2.1, B8.out.2.2⟩, B8.out.1⟩
set_option maxRecDepth 100000 in
set_option maxHeartbeats 8000000 in
theorem renc_13 (c : Cv) (A : Option Addr) (n m : Nat) (w : World) (h : CmdIn w c A n m) (hok : cmdOk c) (hk : c.k = 13) :
    Calls Tryz.prog 27 #[.agg (cA c A n m)] w fun e w' => EncCR c w w' e := by
  have B1 := Lib.hid ((Below.refl w.heap.size w).alloc (Nat.le_refl _) (.cells (cA c A n m) 36))
  have C1 := Lib.hid (CmdAt.new h)
  have HI0 := Lib.hid h
  have CK := rcheck_any c A n m _ C1.out.i
  rw [ckC_yes hok] at CK
  have CK := Lib.hid CK
  have hall : ∀ x ∈ ([.call, .saga] : List Fl), okF x c := by
    obtain ⟨l0, hf, hall, _⟩ := hok
    rw [hk] at hf
    cases hf
    exact hall
  have HOK := Lib.hid hok
  have HK := Lib.hid (fun (W : World) (B : Nat) (h : CmdAt W B c A n m) => (show W.cell? ⟨B, 0, none⟩ = some (.int .i64 13) by have : _ = some (Value.int .i64 c.k) := h.w.cell 0; rw [hk] at this; exact this))
  have o_call := hall .call (by simp)
  have o_saga := hall .saga (by simp)
  have hl0 := uvB_10 (v := (13 : Int)) (by decide) (by decide)
  obtain ⟨p0, hp0⟩ : ∃ p : List UInt8, p = [] ++ uvB ((13 : Int)).toNat := ⟨_, rfl⟩
  have hz0 : p0.length ≤ 10 := by rw [hp0, List.nil_append]; exact hl0
  have U0 := fun (base C : Nat) (V : World) (h : WrQ V base C []) => ruint_z C base 13 (by decide) (by decide) [] V h (by simp)
  rw [← hp0] at U0
  obtain ⟨b_call1, b_call2⟩ := id o_call
  obtain ⟨b_saga1, b_saga2⟩ := id o_saga
  have HP0 := Lib.hid hp0
  clear hp0 hl0
  obtain ⟨p1, hp1⟩ : ∃ p : List UInt8, p = p0 ++ uvB (c.call).toNat := ⟨_, rfl⟩
  have hl1 := uvB_10 (v := c.call) (by omega) (by omega)
  have U1 := fun (base C : Nat) (V : World) (h : WrQ V base C p0) => ruint_z C base (c.call) (by omega) (by omega) p0 V h (by omega)
  have wr1 : IntKind.u64.wrap (c.call) = c.call := by rw [IntKind.wrap_u64]; omega
  have hz1 : p1.length ≤ p0.length + 10 := by rw [hp1, List.length_append]; omega
  rw [← hp1] at U1
  have HP1 := Lib.hid hp1
  clear hp1 hl1
  obtain ⟨p2, hp2⟩ : ∃ p : List UInt8, p = p1 ++ uvB (c.saga).toNat := ⟨_, rfl⟩
  have hl2 := uvB_10 (v := c.saga) (by omega) (by omega)
  have U2 := fun (base C : Nat) (V : World) (h : WrQ V base C p1) => ruint_z C base (c.saga) (by omega) (by omega) p1 V h (by omega)
  have wr2 : IntKind.u64.wrap (c.saga) = c.saga := by rw [IntKind.wrap_u64]; omega
  have hz2 : p2.length ≤ p1.length + 10 := by rw [hp2, List.length_append]; omega
  rw [← hp2] at U2
  have HP2 := Lib.hid hp2
  clear hp2 hl2
  have HBY : Hid (p2 = bytesC c) := Lib.hid (by rw [HP2.out, HP1.out, HP0.out]; unfold bytesC; rw [if_neg (by rw [hk]; decide), hk]; show _ = uvB _ ++ ([.call, .saga] : List Fl).flatMap (encF · c); simp [encF])
  have HZ : Hid (p2.length ≤ 700000) := Lib.hid (by omega)
  have U0 := Lib.hid U0
  have U1 := Lib.hid U1
  have U2 := Lib.hid U2
  clear hall hok h hk hz0 hz1 hz2
  clear o_call o_saga
  go_enter Tryz.func27, Tryz.ntmps27
  go_upto_region 1 with fail
  generalize w.alloc (.cells (cA c A n m) 36) = w1 at B1 C1 CK ⊢
  go_upto_region 5 with (first
    | (refine wpList_load_row rfl 36 (.tmp 1) rfl _ rfl 36 (cA c A n m) (0, 0) _ C1.out.w Tryz.underlying36 rfl (info24 c A n m) ?_)
    | (go_at_call 31; refine CK.out.mono ?_; rintro e w2 ⟨rfl, hb⟩; have B2 := Lib.hid (B1.out.trans (hb.mono B1.out.size)); have C2 := Lib.hid (C1.out.keep hb); have yk := HK.out w2 _ C2.out; clear hb CK))
  clear yk B1 C1
  have NW := Lib.hid ((rnew_any w2).mono (R' := fun e w' => e = .returned (.pointer (some ⟨w2.heap.size, 0, none⟩)) ∧ WrQ w' w2.heap.size w2.heap.size [] ∧ Below w2.heap.size w2 w') (fun e w' ⟨he, hw⟩ => ⟨he, by rw [hw]; exact WrQ.new w2 (Nat.le_refl _), by rw [hw]; exact (Below.refl _ _).alloc (Nat.le_refl _) _⟩))
  go_upto_region 6 with (go_at_call 67; refine NW.out.mono ?_; rintro e w3 ⟨rfl, hP, hb⟩; have I3 := Lib.hid (show EncQ w c A n m w.heap.size w2.heap.size w2.heap.size [] w3 from ⟨B2.out.trans (hb.mono B2.out.size), C2.out.keep hb, hP, Nat.le_refl _, C2.out.lt, HI0.out⟩); have yk := HK.out w3 _ I3.out.cm; clear hP hb NW)
  clear B2 C2
  generalize w2.heap.size = X at I3 ⊢
  have U0 := Lib.hid (U0.out _ _ _ I3.out.wp)
  go_upto_region 27 with (go_at_call 68; refine U0.out.mono ?_; rintro e w4 ⟨rfl, hP, hK⟩; clear yk; have I4 := Lib.hid (I3.out.wrote hP hK); have yk := HK.out w4 _ I4.out.cm; have y0 : w4.cell? ⟨w.heap.size, 1, none⟩ = some (.int .i64 c.call) := I4.out.cm.w.cell 1; clear hP hK U0)
  clear I3
  have U1 := Lib.hid (U1.out _ _ _ I4.out.wp)
  go_upto_region 28 with (go_at_call 68; refine U1.out.mono ?_; rintro e w5 ⟨rfl, hP, hK⟩; clear yk y0; have I5 := Lib.hid (I4.out.wrote hP hK); have yk := HK.out w5 _ I5.out.cm; have y0 : w5.cell? ⟨w.heap.size, 2, none⟩ = some (.int .i64 c.saga) := I5.out.cm.w.cell 2; clear hP hK U1)
  clear I4
  have U2 := Lib.hid (U2.out _ _ _ I5.out.wp)
  go_upto_region 42 with (go_at_call 68; refine U2.out.mono ?_; rintro e w6 ⟨rfl, hP, hK⟩; clear yk y0; have I6 := Lib.hid (I5.out.wrote hP hK); have yk := HK.out w6 _ I6.out.cm; clear hP hK U2)
  clear I5
  clear yk
  rw [HBY.out] at I6
  have HL : Hid ((bytesC c).length ≤ 700000) := Lib.hid (by rw [← HBY.out]; exact HZ.out)
  have LN := Lib.hid (rlen_w _ _ (bytesC c) w6 I6.out.wp (by have := HL.out; omega))
  have HB := Lib.hid I6.out.bl
  by_cases hl : 65536 < (bytesC c).length
  · have hl' : (65536 : Int) < ((bytesC c).length : Int) := by omega
    have HV := Lib.hid (encBC_long HOK.out hl)
    clear hl
    go_wp2_with (go_at_call 71; refine LN.out.mono ?_; rintro e v7 ⟨rfl, hb⟩; have B7 := Lib.hid (HB.out.trans (hb.mono HB.out.size)); clear hb)
    go_ret2
    unfold EncCR
    rw [HV.out.1, HV.out.2]
    exact ⟨⟨none, 0, 0, rfl, slB_nil _, Nat.le_refl _⟩, B7.out⟩
  · have hl' : ¬ ((65536 : Int) < ((bytesC c).length : Int)) := by omega
    have HV := Lib.hid (encBC_yes HOK.out (by omega))
    have BY := Lib.hid (fun (V : World) (hb : Below w6.heap.size w6 V) => rbytes_w _ _ (bytesC c) V (I6.out.wp.keep hb) (by have := HL.out; omega))
    clear hl
    go_wp2_with (first
      | (go_at_call 71; refine LN.out.mono ?_; rintro e v7 ⟨rfl, hb⟩; have BY := Lib.hid (BY.out v7 hb); have B7 := Lib.hid (HB.out.trans (hb.mono HB.out.size)); clear hb)
      | (go_at_call 72; refine BY.out.mono ?_; rintro e v8 ⟨⟨v9, rfl, ho⟩, hb⟩; obtain ⟨A8, c8, rfl, hc8⟩ := own_slice2 ho; have B8 := Lib.hid (And.intro (B7.out.trans (hb.mono B7.out.size)) (And.intro (SlB.of_own ho) hc8)); clear ho hb hc8))
    go_ret2
    unfold EncCR
    rw [HV.out.1, HV.out.2]
    exact ⟨⟨_, _, _, rfl, B8.out.2.1, B8.out.2.2⟩, B8.out.1⟩
set_option maxRecDepth 100000 in
set_option maxHeartbeats 8000000 in
theorem renc_14 (c : Cv) (A : Option Addr) (n m : Nat) (w : World) (h : CmdIn w c A n m) (hok : cmdOk c) (hk : c.k = 14) :
    Calls Tryz.prog 27 #[.agg (cA c A n m)] w fun e w' => EncCR c w w' e := by
  have B1 := Lib.hid ((Below.refl w.heap.size w).alloc (Nat.le_refl _) (.cells (cA c A n m) 36))
  have C1 := Lib.hid (CmdAt.new h)
  have HI0 := Lib.hid h
  have CK := rcheck_any c A n m _ C1.out.i
  rw [ckC_yes hok] at CK
  have CK := Lib.hid CK
  have hall : ∀ x ∈ ([.call, .rng, .grp] : List Fl), okF x c := by
    obtain ⟨l0, hf, hall, _⟩ := hok
    rw [hk] at hf
    cases hf
    exact hall
  have HOK := Lib.hid hok
  have HK := Lib.hid (fun (W : World) (B : Nat) (h : CmdAt W B c A n m) => (show W.cell? ⟨B, 0, none⟩ = some (.int .i64 14) by have : _ = some (Value.int .i64 c.k) := h.w.cell 0; rw [hk] at this; exact this))
  have o_call := hall .call (by simp)
  have o_rng := hall .rng (by simp)
  have o_grp := hall .grp (by simp)
  have hl0 := uvB_10 (v := (14 : Int)) (by decide) (by decide)
  obtain ⟨p0, hp0⟩ : ∃ p : List UInt8, p = [] ++ uvB ((14 : Int)).toNat := ⟨_, rfl⟩
  have hz0 : p0.length ≤ 10 := by rw [hp0, List.nil_append]; exact hl0
  have U0 := fun (base C : Nat) (V : World) (h : WrQ V base C []) => ruint_z C base 14 (by decide) (by decide) [] V h (by simp)
  rw [← hp0] at U0
  have gf := okS_len (okR_left o_rng)
  have gt := okS_len (okR_right o_rng)
  rw [← Lib.size_eq] at gf gt
  obtain ⟨b_call1, b_call2⟩ := id o_call
  obtain ⟨b_grp1, b_grp2⟩ := id o_grp
  have HP0 := Lib.hid hp0
  clear hp0 hl0
  obtain ⟨p1, hp1⟩ : ∃ p : List UInt8, p = p0 ++ uvB (c.call).toNat := ⟨_, rfl⟩
  have hl1 := uvB_10 (v := c.call) (by omega) (by omega)
  have U1 := fun (base C : Nat) (V : World) (h : WrQ V base C p0) => ruint_z C base (c.call) (by omega) (by omega) p0 V h (by omega)
  have wr1 : IntKind.u64.wrap (c.call) = c.call := by rw [IntKind.wrap_u64]; omega
  have hz1 : p1.length ≤ p0.length + 10 := by rw [hp1, List.length_append]; omega
  rw [← hp1] at U1
  have HP1 := Lib.hid hp1
  clear hp1 hl1
  obtain ⟨p2, hp2⟩ : ∃ p : List UInt8, p = p1 ++ txB (c.f).data.toList := ⟨_, rfl⟩
  have hl2 := txB_len (c.f).data.toList (by rw [← Lib.size_eq]; omega)
  rw [← Lib.size_eq] at hl2
  have U2 := fun (base C : Nat) (V : World) (h : WrQ V base C p1) => rtext_w C base (c.f) p1 V h (by omega) (by omega)
  have hz2 : p2.length ≤ p1.length + 70000 := by rw [hp2, List.length_append]; omega
  rw [← hp2] at U2
  have HP2 := Lib.hid hp2
  clear hp2 hl2
  obtain ⟨p3, hp3⟩ : ∃ p : List UInt8, p = p2 ++ txB (c.t).data.toList := ⟨_, rfl⟩
  have hl3 := txB_len (c.t).data.toList (by rw [← Lib.size_eq]; omega)
  rw [← Lib.size_eq] at hl3
  have U3 := fun (base C : Nat) (V : World) (h : WrQ V base C p2) => rtext_w C base (c.t) p2 V h (by omega) (by omega)
  have hz3 : p3.length ≤ p2.length + 70000 := by rw [hp3, List.length_append]; omega
  rw [← hp3] at U3
  have HP3 := Lib.hid hp3
  clear hp3 hl3
  obtain ⟨p4, hp4⟩ : ∃ p : List UInt8, p = p3 ++ uvB (c.g).toNat := ⟨_, rfl⟩
  have hl4 := uvB_10 (v := c.g) (by omega) (by omega)
  have U4 := fun (base C : Nat) (V : World) (h : WrQ V base C p3) => ruint_z C base (c.g) (by omega) (by omega) p3 V h (by omega)
  have wr4 : IntKind.u64.wrap (c.g) = c.g := by rw [IntKind.wrap_u64]; omega
  have hz4 : p4.length ≤ p3.length + 10 := by rw [hp4, List.length_append]; omega
  rw [← hp4] at U4
  have HP4 := Lib.hid hp4
  clear hp4 hl4
  have HBY : Hid (p4 = bytesC c) := Lib.hid (by rw [HP4.out, HP3.out, HP2.out, HP1.out, HP0.out]; unfold bytesC; rw [if_neg (by rw [hk]; decide), hk]; show _ = uvB _ ++ ([.call, .rng, .grp] : List Fl).flatMap (encF · c); simp [encF])
  have HZ : Hid (p4.length ≤ 700000) := Lib.hid (by omega)
  have U0 := Lib.hid U0
  have U1 := Lib.hid U1
  have U2 := Lib.hid U2
  have U3 := Lib.hid U3
  have U4 := Lib.hid U4
  clear hall hok h hk hz0 hz1 hz2 hz3 hz4
  clear o_call o_rng o_grp
  go_enter Tryz.func27, Tryz.ntmps27
  go_upto_region 1 with fail
  generalize w.alloc (.cells (cA c A n m) 36) = w1 at B1 C1 CK ⊢
  go_upto_region 5 with (first
    | (refine wpList_load_row rfl 36 (.tmp 1) rfl _ rfl 36 (cA c A n m) (0, 0) _ C1.out.w Tryz.underlying36 rfl (info24 c A n m) ?_)
    | (go_at_call 31; refine CK.out.mono ?_; rintro e w2 ⟨rfl, hb⟩; have B2 := Lib.hid (B1.out.trans (hb.mono B1.out.size)); have C2 := Lib.hid (C1.out.keep hb); have yk := HK.out w2 _ C2.out; clear hb CK))
  clear yk B1 C1
  have NW := Lib.hid ((rnew_any w2).mono (R' := fun e w' => e = .returned (.pointer (some ⟨w2.heap.size, 0, none⟩)) ∧ WrQ w' w2.heap.size w2.heap.size [] ∧ Below w2.heap.size w2 w') (fun e w' ⟨he, hw⟩ => ⟨he, by rw [hw]; exact WrQ.new w2 (Nat.le_refl _), by rw [hw]; exact (Below.refl _ _).alloc (Nat.le_refl _) _⟩))
  go_upto_region 6 with (go_at_call 67; refine NW.out.mono ?_; rintro e w3 ⟨rfl, hP, hb⟩; have I3 := Lib.hid (show EncQ w c A n m w.heap.size w2.heap.size w2.heap.size [] w3 from ⟨B2.out.trans (hb.mono B2.out.size), C2.out.keep hb, hP, Nat.le_refl _, C2.out.lt, HI0.out⟩); have yk := HK.out w3 _ I3.out.cm; clear hP hb NW)
  clear B2 C2
  generalize w2.heap.size = X at I3 ⊢
  have U0 := Lib.hid (U0.out _ _ _ I3.out.wp)
  go_upto_region 33 with (go_at_call 68; refine U0.out.mono ?_; rintro e w4 ⟨rfl, hP, hK⟩; clear yk; have I4 := Lib.hid (I3.out.wrote hP hK); have yk := HK.out w4 _ I4.out.cm; have y0 : w4.cell? ⟨w.heap.size, 1, none⟩ = some (.int .i64 c.call) := I4.out.cm.w.cell 1; clear hP hK U0)
  clear I3
  have U1 := Lib.hid (U1.out _ _ _ I4.out.wp)
  go_upto_region 34 with (go_at_call 68; refine U1.out.mono ?_; rintro e w5 ⟨rfl, hP, hK⟩; clear yk y0; have I5 := Lib.hid (I4.out.wrote hP hK); have yk := HK.out w5 _ I5.out.cm; have y0 : w5.cell? ⟨w.heap.size, 9, none⟩ = some (.string c.f) := I5.out.cm.w.cell 9; clear hP hK U1)
  clear I4
  have U2 := Lib.hid (U2.out _ _ _ I5.out.wp)
  go_upto_region 35 with (go_at_call 70; refine U2.out.mono ?_; rintro e w6 ⟨rfl, hP, hK⟩; clear yk y0; have I6 := Lib.hid (I5.out.wrote hP hK); have yk := HK.out w6 _ I6.out.cm; have y0 : w6.cell? ⟨w.heap.size, 10, none⟩ = some (.string c.t) := I6.out.cm.w.cell 10; clear hP hK U2)
  clear I5
  have U3 := Lib.hid (U3.out _ _ _ I6.out.wp)
  go_upto_region 36 with (go_at_call 70; refine U3.out.mono ?_; rintro e w7 ⟨rfl, hP, hK⟩; clear yk y0; have I7 := Lib.hid (I6.out.wrote hP hK); have yk := HK.out w7 _ I7.out.cm; have y0 : w7.cell? ⟨w.heap.size, 11, none⟩ = some (.int .i64 c.g) := I7.out.cm.w.cell 11; clear hP hK U3)
  clear I6
  have U4 := Lib.hid (U4.out _ _ _ I7.out.wp)
  go_upto_region 42 with (go_at_call 68; refine U4.out.mono ?_; rintro e w8 ⟨rfl, hP, hK⟩; clear yk y0; have I8 := Lib.hid (I7.out.wrote hP hK); have yk := HK.out w8 _ I8.out.cm; clear hP hK U4)
  clear I7
  clear yk
  rw [HBY.out] at I8
  have HL : Hid ((bytesC c).length ≤ 700000) := Lib.hid (by rw [← HBY.out]; exact HZ.out)
  have LN := Lib.hid (rlen_w _ _ (bytesC c) w8 I8.out.wp (by have := HL.out; omega))
  have HB := Lib.hid I8.out.bl
  by_cases hl : 65536 < (bytesC c).length
  · have hl' : (65536 : Int) < ((bytesC c).length : Int) := by omega
    have HV := Lib.hid (encBC_long HOK.out hl)
    clear hl
    go_wp2_with (go_at_call 71; refine LN.out.mono ?_; rintro e v7 ⟨rfl, hb⟩; have B7 := Lib.hid (HB.out.trans (hb.mono HB.out.size)); clear hb)
    go_ret2
    unfold EncCR
    rw [HV.out.1, HV.out.2]
    exact ⟨⟨none, 0, 0, rfl, slB_nil _, Nat.le_refl _⟩, B7.out⟩
  · have hl' : ¬ ((65536 : Int) < ((bytesC c).length : Int)) := by omega
    have HV := Lib.hid (encBC_yes HOK.out (by omega))
    have BY := Lib.hid (fun (V : World) (hb : Below w8.heap.size w8 V) => rbytes_w _ _ (bytesC c) V (I8.out.wp.keep hb) (by have := HL.out; omega))
    clear hl
    go_wp2_with (first
      | (go_at_call 71; refine LN.out.mono ?_; rintro e v7 ⟨rfl, hb⟩; have BY := Lib.hid (BY.out v7 hb); have B7 := Lib.hid (HB.out.trans (hb.mono HB.out.size)); clear hb)
      | (go_at_call 72; refine BY.out.mono ?_; rintro e v8 ⟨⟨v9, rfl, ho⟩, hb⟩; obtain ⟨A8, c8, rfl, hc8⟩ := own_slice2 ho; have B8 := Lib.hid (And.intro (B7.out.trans (hb.mono B7.out.size)) (And.intro (SlB.of_own ho) hc8)); clear ho hb hc8))
    go_ret2
    unfold EncCR
    rw [HV.out.1, HV.out.2]
    exact ⟨⟨_, _, _, rfl, B8.out.2.1, B8.out.2.2⟩, B8.out.1⟩
set_option maxRecDepth 100000 in
set_option maxHeartbeats 8000000 in
theorem renc_15 (c : Cv) (A : Option Addr) (n m : Nat) (w : World) (h : CmdIn w c A n m) (hok : cmdOk c) (hk : c.k = 15) :
    Calls Tryz.prog 27 #[.agg (cA c A n m)] w fun e w' => EncCR c w w' e := by
  have B1 := Lib.hid ((Below.refl w.heap.size w).alloc (Nat.le_refl _) (.cells (cA c A n m) 36))
  have C1 := Lib.hid (CmdAt.new h)
  have HI0 := Lib.hid h
  have CK := rcheck_any c A n m _ C1.out.i
  rw [ckC_yes hok] at CK
  have CK := Lib.hid CK
  have hall : ∀ x ∈ ([.item, .res, .data] : List Fl), okF x c := by
    obtain ⟨l0, hf, hall, _⟩ := hok
    rw [hk] at hf
    cases hf
    exact hall
  have HOK := Lib.hid hok
  have HK := Lib.hid (fun (W : World) (B : Nat) (h : CmdAt W B c A n m) => (show W.cell? ⟨B, 0, none⟩ = some (.int .i64 15) by have : _ = some (Value.int .i64 c.k) := h.w.cell 0; rw [hk] at this; exact this))
  have o_item := hall .item (by simp)
  have o_res := hall .res (by simp)
  have o_data := hall .data (by simp)
  have hl0 := uvB_10 (v := (15 : Int)) (by decide) (by decide)
  obtain ⟨p0, hp0⟩ : ∃ p : List UInt8, p = [] ++ uvB ((15 : Int)).toNat := ⟨_, rfl⟩
  have hz0 : p0.length ≤ 10 := by rw [hp0, List.nil_append]; exact hl0
  have U0 := fun (base C : Nat) (V : World) (h : WrQ V base C []) => ruint_z C base 15 (by decide) (by decide) [] V h (by simp)
  rw [← hp0] at U0
  obtain ⟨b_res1, b_res2⟩ := id o_res
  have gd : c.data.size ≤ 65536 := o_data
  have hr := itNum_range (x := c.it) o_item
  have RN := fun (W : World) => refItNumber_any c.it W o_item
  obtain ⟨nu, hnu⟩ : ∃ v, v = itNum c.it := ⟨_, rfl⟩
  rw [← hnu] at RN hr
  unfold itA at RN
  have RN := Lib.hid RN
  have HNU := Lib.hid hnu
  clear hnu
  have HP0 := Lib.hid hp0
  clear hp0 hl0
  obtain ⟨p1, hp1⟩ : ∃ p : List UInt8, p = p0 ++ uvB (nu).toNat := ⟨_, rfl⟩
  have hl1 := uvB_10 (v := nu) (by omega) (by omega)
  have U1 := fun (base C : Nat) (V : World) (h : WrQ V base C p0) => ruint_z C base (nu) (by omega) (by omega) p0 V h (by omega)
  have wr1 : IntKind.u64.wrap (nu) = nu := by rw [IntKind.wrap_u64]; omega
  have hz1 : p1.length ≤ p0.length + 10 := by rw [hp1, List.length_append]; omega
  rw [← hp1] at U1
  have HP1 := Lib.hid hp1
  clear hp1 hl1
  obtain ⟨p2, hp2⟩ : ∃ p : List UInt8, p = p1 ++ uvB (c.res).toNat := ⟨_, rfl⟩
  have hl2 := uvB_10 (v := c.res) (by omega) (by omega)
  have U2 := fun (base C : Nat) (V : World) (h : WrQ V base C p1) => ruint_z C base (c.res) (by omega) (by omega) p1 V h (by omega)
  have wr2 : IntKind.u64.wrap (c.res) = c.res := by rw [IntKind.wrap_u64]; omega
  have hz2 : p2.length ≤ p1.length + 10 := by rw [hp2, List.length_append]; omega
  rw [← hp2] at U2
  have HP2 := Lib.hid hp2
  clear hp2 hl2
  obtain ⟨p3, hp3⟩ : ∃ p : List UInt8, p = p2 ++ txB (c.data).data.toList := ⟨_, rfl⟩
  have hl3 := txB_len (c.data).data.toList (by rw [← Lib.size_eq]; omega)
  rw [← Lib.size_eq] at hl3
  have U3 := fun (base C : Nat) (V : World) (h : WrQ V base C p2) => rtext_w C base (c.data) p2 V h (by omega) (by omega)
  have hz3 : p3.length ≤ p2.length + 70000 := by rw [hp3, List.length_append]; omega
  rw [← hp3] at U3
  have HP3 := Lib.hid hp3
  clear hp3 hl3
  have HBY : Hid (p3 = bytesC c) := Lib.hid (by rw [HP3.out, HP2.out, HP1.out, HP0.out, HNU.out]; unfold bytesC; rw [if_neg (by rw [hk]; decide), hk]; show _ = uvB _ ++ ([.item, .res, .data] : List Fl).flatMap (encF · c); simp [encF])
  have HZ : Hid (p3.length ≤ 700000) := Lib.hid (by omega)
  have U0 := Lib.hid U0
  have U1 := Lib.hid U1
  have U2 := Lib.hid U2
  have U3 := Lib.hid U3
  clear hall hok h hk hz0 hz1 hz2 hz3
  clear o_item o_res o_data
  go_enter Tryz.func27, Tryz.ntmps27
  go_upto_region 1 with fail
  generalize w.alloc (.cells (cA c A n m) 36) = w1 at B1 C1 CK ⊢
  go_upto_region 5 with (first
    | (refine wpList_load_row rfl 36 (.tmp 1) rfl _ rfl 36 (cA c A n m) (0, 0) _ C1.out.w Tryz.underlying36 rfl (info24 c A n m) ?_)
    | (go_at_call 31; refine CK.out.mono ?_; rintro e w2 ⟨rfl, hb⟩; have B2 := Lib.hid (B1.out.trans (hb.mono B1.out.size)); have C2 := Lib.hid (C1.out.keep hb); have yk := HK.out w2 _ C2.out; clear hb CK))
  clear yk B1 C1
  have NW := Lib.hid ((rnew_any w2).mono (R' := fun e w' => e = .returned (.pointer (some ⟨w2.heap.size, 0, none⟩)) ∧ WrQ w' w2.heap.size w2.heap.size [] ∧ Below w2.heap.size w2 w') (fun e w' ⟨he, hw⟩ => ⟨he, by rw [hw]; exact WrQ.new w2 (Nat.le_refl _), by rw [hw]; exact (Below.refl _ _).alloc (Nat.le_refl _) _⟩))
  go_upto_region 6 with (go_at_call 67; refine NW.out.mono ?_; rintro e w3 ⟨rfl, hP, hb⟩; have I3 := Lib.hid (show EncQ w c A n m w.heap.size w2.heap.size w2.heap.size [] w3 from ⟨B2.out.trans (hb.mono B2.out.size), C2.out.keep hb, hP, Nat.le_refl _, C2.out.lt, HI0.out⟩); have yk := HK.out w3 _ I3.out.cm; clear hP hb NW)
  clear B2 C2
  generalize w2.heap.size = X at I3 ⊢
  have U0 := Lib.hid (U0.out _ _ _ I3.out.wp)
  go_upto_region 38 with (go_at_call 68; refine U0.out.mono ?_; rintro e w4 ⟨rfl, hP, hK⟩; clear yk; have I4 := Lib.hid (I3.out.wrote hP hK); have yk := HK.out w4 _ I4.out.cm; have y0 : w4.cell? ⟨w.heap.size, 16, none⟩ = some (.int .i64 c.it.a) := I4.out.cm.w.cell 16; have y1 : w4.cell? ⟨w.heap.size, 17, none⟩ = some (.int .i64 c.it.b) := I4.out.cm.w.cell 17; have y2 : w4.cell? ⟨w.heap.size, 18, none⟩ = some (.int .i64 c.it.c) := I4.out.cm.w.cell 18; have y3 : w4.cell? ⟨w.heap.size, 19, none⟩ = some (.int .i64 c.it.m) := I4.out.cm.w.cell 19; have y4 : w4.cell? ⟨w.heap.size, 20, none⟩ = some (.bool c.it.i) := I4.out.cm.w.cell 20; have y5 : w4.cell? ⟨w.heap.size, 21, none⟩ = some (.int .i64 c.it.g) := I4.out.cm.w.cell 21; clear hP hK U0)
  clear I3
  go_upto_region 39 with (go_at_call 76; refine (RN.out _).mono ?_; rintro e w5 ⟨rfl, hb⟩; clear yk y0 y1 y2 y3 y4 y5; have I5 := Lib.hid (I4.out.keep hb); have yk := HK.out w5 _ I5.out.cm; clear hb RN)
  clear I4
  have U1 := Lib.hid (U1.out _ _ _ I5.out.wp)
  go_upto_region 40 with (go_at_call 68; refine U1.out.mono ?_; rintro e w6 ⟨rfl, hP, hK⟩; clear yk ; have I6 := Lib.hid (I5.out.wrote hP hK); have yk := HK.out w6 _ I6.out.cm; have y0 : w6.cell? ⟨w.heap.size, 22, none⟩ = some (.int .i64 c.res) := I6.out.cm.w.cell 22; clear hP hK U1)
  clear I5
  have U2 := Lib.hid (U2.out _ _ _ I6.out.wp)
  go_upto_region 41 with (go_at_call 68; refine U2.out.mono ?_; rintro e w7 ⟨rfl, hP, hK⟩; clear yk y0; have I7 := Lib.hid (I6.out.wrote hP hK); have yk := HK.out w7 _ I7.out.cm; have y0 : w7.cell? ⟨w.heap.size, 23, none⟩ = some (.string c.data) := I7.out.cm.w.cell 23; clear hP hK U2)
  clear I6
  have U3 := Lib.hid (U3.out _ _ _ I7.out.wp)
  go_upto_region 42 with (go_at_call 70; refine U3.out.mono ?_; rintro e w8 ⟨rfl, hP, hK⟩; clear yk y0; have I8 := Lib.hid (I7.out.wrote hP hK); have yk := HK.out w8 _ I8.out.cm; clear hP hK U3)
  clear I7
  clear yk
  rw [HBY.out] at I8
  have HL : Hid ((bytesC c).length ≤ 700000) := Lib.hid (by rw [← HBY.out]; exact HZ.out)
  have LN := Lib.hid (rlen_w _ _ (bytesC c) w8 I8.out.wp (by have := HL.out; omega))
  have HB := Lib.hid I8.out.bl
  by_cases hl : 65536 < (bytesC c).length
  · have hl' : (65536 : Int) < ((bytesC c).length : Int) := by omega
    have HV := Lib.hid (encBC_long HOK.out hl)
    clear hl
    go_wp2_with (go_at_call 71; refine LN.out.mono ?_; rintro e v7 ⟨rfl, hb⟩; have B7 := Lib.hid (HB.out.trans (hb.mono HB.out.size)); clear hb)
    go_ret2
    unfold EncCR
    rw [HV.out.1, HV.out.2]
    exact ⟨⟨none, 0, 0, rfl, slB_nil _, Nat.le_refl _⟩, B7.out⟩
  · have hl' : ¬ ((65536 : Int) < ((bytesC c).length : Int)) := by omega
    have HV := Lib.hid (encBC_yes HOK.out (by omega))
    have BY := Lib.hid (fun (V : World) (hb : Below w8.heap.size w8 V) => rbytes_w _ _ (bytesC c) V (I8.out.wp.keep hb) (by have := HL.out; omega))
    clear hl
    go_wp2_with (first
      | (go_at_call 71; refine LN.out.mono ?_; rintro e v7 ⟨rfl, hb⟩; have BY := Lib.hid (BY.out v7 hb); have B7 := Lib.hid (HB.out.trans (hb.mono HB.out.size)); clear hb)
      | (go_at_call 72; refine BY.out.mono ?_; rintro e v8 ⟨⟨v9, rfl, ho⟩, hb⟩; obtain ⟨A8, c8, rfl, hc8⟩ := own_slice2 ho; have B8 := Lib.hid (And.intro (B7.out.trans (hb.mono B7.out.size)) (And.intro (SlB.of_own ho) hc8)); clear ho hb hc8))
    go_ret2
    unfold EncCR
    rw [HV.out.1, HV.out.2]
    exact ⟨⟨_, _, _, rfl, B8.out.2.1, B8.out.2.2⟩, B8.out.1⟩
/-- The reference's Encode. -/
theorem rencode_any (c : Cv) (A : Option Addr) (n m : Nat) (w : World) (h : CmdIn w c A n m) :
    Calls Tryz.prog 27 #[.agg (cA c A n m)] w fun e w' => EncCR c w w' e := by
  by_cases hok : cmdOk c
  case neg => exact renc_no c A n m w h hok
  obtain ⟨l, hl, _⟩ := id hok
  rcases fieldsK_some hl with h1 | h1 | h1 | h1 | h1 | h1 | h1 | h1 | h1 | h1
  · exact renc_0 c A n m w h hok h1.1
  · exact renc_1 c A n m w h hok h1.1
  · exact renc_2 c A n m w h hok h1.1
  · exact renc_3 c A n m w h hok h1.1
  · exact renc_4 c A n m w h hok h1.1
  · exact renc_11 c A n m w h hok h1.1
  · exact renc_12 c A n m w h hok h1.1
  · exact renc_13 c A n m w h hok h1.1
  · exact renc_14 c A n m w h hok h1.1
  · exact renc_15 c A n m w h hok h1.1
end Go.Proofs.YtgjnmfmbheejoaaGreatDoor
