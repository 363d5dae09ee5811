/- The other fields: how they are written. No condition. -/
import Derived.Test.YtgjnmfmbheejoaaGreatDoorCmOk
import Derived.Lib.ConvBytes
namespace Go.Proofs.YtgjnmfmbheejoaaGreatDoor
open Go.RowKit Go.Shelf

/-- What writing leaves. -/
def WrtR (W : World) (base C : Nat) (l : List UInt8) (W' : World) (e : Ending) : Prop := e = .returned (.tuple #[]) ∧ WrP W' base C l ∧ WrK W W' base C
theorem wr_keep {W V : World} {base C : Nat} {l : List UInt8} (hW : WrP W base C l) (hb : Below W.heap.size W V) : WrP V base C l ∧ WrK W V base C :=
  ⟨hW.keep hb, WrK.of_below hb (by have h1 := hW.1; have h2 := hW.lt; omega)⟩
theorem uint_z (C base : Nat) (v : Int) (h0 : 0 ≤ v) (h1 : v ≤ 2147483648) (l : List UInt8) (w : World) (h : WrP w base C l) (hl : l.length ≤ 1000100) :
    Calls Tryz.prog 63 #[.pointer (some ⟨C, 0, none⟩), .int .u64 v] w fun e w' => WrtR w base C (l ++ uvB v.toNat) w' e := by
  have U := uint_any C base v.toNat l w h (by omega) (by omega)
  rw [ofNat_toNat h0] at U
  exact U
theorem uvB_10 {v : Int} (h0 : 0 ≤ v) (h1 : v ≤ 2147483648) : (uvB v.toNat).length ≤ 10 := uvB_len10 (by omega)
set_option maxHeartbeats 2000000 in
theorem eff2_any (c : Cv) (A : Option Addr) (n m B C base : Nat) (l : List UInt8) (W : World) (hC : CmdAt W B c A n m) (ho : okF .eff c) (hW : WrP W base C l) (hl : l.length ≤ 1000000) (hB : B < base) :
    Calls Tryz.prog 154 #[.pointer (some ⟨C, 0, none⟩), .pointer (some ⟨B, 0, none⟩)] W fun e W' => WrtR W base C (l ++ encF .eff c) W' e := by
  obtain ⟨e1, e2, e3, e4, e5, e6⟩ := ho
  have w1 : IntKind.u64.wrap c.ea = c.ea := by rw [IntKind.wrap_u64]; omega
  have w2 : IntKind.u64.wrap c.eb = c.eb := by rw [IntKind.wrap_u64]; omega
  have w3 : IntKind.u64.wrap c.ec = c.ec := by rw [IntKind.wrap_u64]; omega
  have l1 := uvB_10 (v := c.ea) (by omega) (by omega)
  have l2 := uvB_10 (v := c.eb) (by omega) (by omega)
  have U1 := Lib.hid (uint_z C base c.ea (by omega) (by omega) l W hW (by omega))
  have U2 := Lib.hid (fun (V : World) (h : WrP V base C (l ++ uvB c.ea.toNat)) => uint_z C base c.eb (by omega) (by omega) _ V h (by rw [List.length_append]; omega))
  have U3 := Lib.hid (fun (V : World) (h : WrP V base C ((l ++ uvB c.ea.toNat) ++ uvB c.eb.toNat)) => uint_z C base c.ec (by omega) (by omega) _ V h (by rw [List.length_append, List.length_append]; omega))
  have HE : Hid (l ++ encF .eff c = ((l ++ uvB c.ea.toNat) ++ uvB c.eb.toNat) ++ uvB c.ec.toNat) := Lib.hid (by unfold encF; simp)
  rw [HE.out]
  have HK : Hid (∀ V, Below base W V → Whole V B 36 (cA c A n m)) := Lib.hid (fun V hb => hC.w.below hb hB)
  have x3 : W.cell? ⟨B, 3, none⟩ = some (.int .i64 c.ea) := hC.w.cell 3
  clear hC hW hl hB e1 e2 e3 e4 e5 e6 l1 l2 HE
  go_enter Tryz.func154, Tryz.ntmps154
  go_upto_region 1 with (go_at_call 63; refine U1.out.mono ?_; rintro e v1 ⟨rfl, hP, hK⟩; have U2 := Lib.hid (U2.out v1 hP); have K1 := Lib.hid hK; have x4 : v1.cell? ⟨B, 4, none⟩ = some (.int .i64 c.eb) := (HK.out v1 hK.1).cell 4; clear hP hK U1)
  go_upto_region 2 with (go_at_call 63; refine U2.out.mono ?_; rintro e v2 ⟨rfl, hP, hK⟩; have U3 := Lib.hid (U3.out v2 hP); have K2 := Lib.hid (K1.out.trans hK); have x5 : v2.cell? ⟨B, 5, none⟩ = some (.int .i64 c.ec) := (HK.out v2 K2.out.1).cell 5; clear hP hK U2)
  go_wp2_with (go_at_call 63; refine U3.out.mono ?_; rintro e v3 ⟨rfl, hP, hK⟩)
  go_end0
  exact ⟨rfl, hP, K2.out.trans hK⟩
set_option maxHeartbeats 1000000 in
theorem delta2_any (c : Cv) (A : Option Addr) (n m B C base : Nat) (l : List UInt8) (W : World) (hC : CmdAt W B c A n m) (ho : okF .dl c) (hW : WrP W base C l) (hl : l.length ≤ 1000000) :
    Calls Tryz.prog 163 #[.pointer (some ⟨C, 0, none⟩), .pointer (some ⟨B, 0, none⟩)] W fun e W' => WrtR W base C (l ++ encF .dl c) W' e := by
  obtain ⟨e1, e2, e3⟩ := ho
  have U1 := Lib.hid (wint_any C base c.dl l W hW (by omega) (by omega) (by omega))
  have x3 : W.cell? ⟨B, 7, none⟩ = some (.int .i64 c.dl) := hC.w.cell 7
  have HE : Hid (l ++ encF .dl c = l ++ uvB (zig c.dl)) := Lib.hid rfl
  rw [HE.out]
  clear hC hW hl e1 e2 e3 HE
  go_enter Tryz.func163, Tryz.ntmps163
  go_wp2_with (go_at_call 64; refine U1.out.mono ?_; rintro e v1 ⟨rfl, hP, hK⟩)
  go_end0
  exact ⟨rfl, hP, hK⟩
set_option maxHeartbeats 1000000 in
theorem res2_any (c : Cv) (A : Option Addr) (n m B C base : Nat) (l : List UInt8) (W : World) (hC : CmdAt W B c A n m) (ho : okF .res c) (hW : WrP W base C l) (hl : l.length ≤ 1000000) :
    Calls Tryz.prog 200 #[.pointer (some ⟨C, 0, none⟩), .pointer (some ⟨B, 0, none⟩)] W fun e W' => WrtR W base C (l ++ encF .res c) W' e := by
  obtain ⟨e1, e2⟩ := ho
  have w1 : IntKind.u64.wrap c.res = c.res := by rw [IntKind.wrap_u64]; omega
  have U1 := Lib.hid (uint_z C base c.res (by omega) (by omega) l W hW (by omega))
  have x3 : W.cell? ⟨B, 22, none⟩ = some (.int .i64 c.res) := hC.w.cell 22
  have HE : Hid (l ++ encF .res c = l ++ uvB c.res.toNat) := Lib.hid rfl
  rw [HE.out]
  clear hC hW hl e1 e2 HE
  go_enter Tryz.func200, Tryz.ntmps200
  go_wp2_with (go_at_call 63; refine U1.out.mono ?_; rintro e v1 ⟨rfl, hP, hK⟩)
  go_end0
  exact ⟨rfl, hP, hK⟩
set_option maxHeartbeats 2000000 in
theorem range2_any (c : Cv) (A : Option Addr) (n m B C base : Nat) (l : List UInt8) (W : World) (hC : CmdAt W B c A n m) (ho : okF .rng c) (hW : WrP W base C l) (hl : l.length ≤ 1000000) (hB : B < base) :
    Calls Tryz.prog 173 #[.pointer (some ⟨C, 0, none⟩), .pointer (some ⟨B, 0, none⟩)] W fun e W' => WrtR W base C (l ++ encF .rng c) W' e := by
  have h1 := okS_len (okR_left ho)
  have h2 := okS_len (okR_right ho)
  have s1 : c.f.size ≤ 16 := by rw [Lib.size_eq]; exact h1
  have s2 : c.t.size ≤ 16 := by rw [Lib.size_eq]; exact h2
  have l1 := txB_len c.f.data.toList (by omega)
  have U1 := Lib.hid (wtext_any C base c.f l W hW (by omega) (by omega))
  have U2 := Lib.hid (fun (V : World) (h : WrP V base C (l ++ txB c.f.data.toList)) => wtext_any C base c.t _ V h (by omega) (by rw [List.length_append]; omega))
  have HE : Hid (l ++ encF .rng c = (l ++ txB c.f.data.toList) ++ txB c.t.data.toList) := Lib.hid (by unfold encF; simp)
  rw [HE.out]
  have HK : Hid (∀ V, Below base W V → Whole V B 36 (cA c A n m)) := Lib.hid (fun V hb => hC.w.below hb hB)
  have x3 : W.cell? ⟨B, 9, none⟩ = some (.string c.f) := hC.w.cell 9
  clear hC hW hl hB ho h1 h2 s1 s2 l1 HE
  go_enter Tryz.func173, Tryz.ntmps173
  go_upto_region 1 with (go_at_call 65; refine U1.out.mono ?_; rintro e v1 ⟨rfl, hP, hK⟩; have U2 := Lib.hid (U2.out v1 hP); have K1 := Lib.hid hK; have x4 : v1.cell? ⟨B, 10, none⟩ = some (.string c.t) := (HK.out v1 hK.1).cell 10; clear hP hK U1)
  go_wp2_with (go_at_call 65; refine U2.out.mono ?_; rintro e v3 ⟨rfl, hP, hK⟩)
  go_end0
  exact ⟨rfl, hP, K1.out.trans hK⟩
set_option maxHeartbeats 2000000 in
theorem item2_any (c : Cv) (A : Option Addr) (n m B C base : Nat) (l : List UInt8) (W : World) (hC : CmdAt W B c A n m) (ho : okF .item c) (hW : WrP W base C l) (hl : l.length ≤ 1000000) :
    Calls Tryz.prog 193 #[.pointer (some ⟨C, 0, none⟩), .pointer (some ⟨B, 0, none⟩)] W fun e W' => WrtR W base C (l ++ encF .item c) W' e := by
  have hr := itNum_range (x := c.it) ho
  have w1 : IntKind.u64.wrap (itNum c.it) = itNum c.it := by rw [IntKind.wrap_u64]; omega
  have N1 := itNumber_any c.it W ho
  have U1 := Lib.hid (fun (V : World) (h : WrP V base C l) => uint_z C base (itNum c.it) (by omega) (by omega) l V h (by omega))
  have HE : Hid (l ++ encF .item c = l ++ uvB (itNum c.it).toNat) := Lib.hid rfl
  rw [HE.out]
  generalize itNum c.it = v at *
  unfold itA at N1
  have N1 := Lib.hid N1
  have HW := Lib.hid (fun (V : World) (hb : Below W.heap.size W V) => wr_keep hW hb)
  have x0 : W.cell? ⟨B, 16, none⟩ = some (.int .i64 c.it.a) := hC.w.cell 16
  have x1 : W.cell? ⟨B, 17, none⟩ = some (.int .i64 c.it.b) := hC.w.cell 17
  have x2 : W.cell? ⟨B, 18, none⟩ = some (.int .i64 c.it.c) := hC.w.cell 18
  have x3 : W.cell? ⟨B, 19, none⟩ = some (.int .i64 c.it.m) := hC.w.cell 19
  have x4 : W.cell? ⟨B, 20, none⟩ = some (.bool c.it.i) := hC.w.cell 20
  have x5 : W.cell? ⟨B, 21, none⟩ = some (.int .i64 c.it.g) := hC.w.cell 21
  clear hC hW hl ho hr HE
  go_enter Tryz.func193, Tryz.ntmps193
  go_wp2_with (first
    | (go_at_call 194; refine N1.out.mono ?_; rintro e v1 ⟨rfl, hb⟩; have U1 := Lib.hid (U1.out v1 (HW.out v1 hb).1); have K1 := Lib.hid (HW.out v1 hb).2; clear hb N1)
    | (go_at_call 63; refine U1.out.mono ?_; rintro e v2 ⟨rfl, hP, hK⟩))
  go_end0
  exact ⟨rfl, hP, K1.out.trans hK⟩
set_option maxHeartbeats 2000000 in
theorem def2_any (c : Cv) (A : Option Addr) (n m B C base : Nat) (l : List UInt8) (W : World) (hC : CmdAt W B c A n m) (ho : okF .defn c) (hW : WrP W base C l) (hl : l.length ≤ 1000000) :
    Calls Tryz.prog 184 #[.pointer (some ⟨C, 0, none⟩), .pointer (some ⟨B, 0, none⟩)] W fun e W' => WrtR W base C (l ++ encF .defn c) W' e := by
  have hbl := bytesD_len ho
  obtain ⟨s, hs⟩ : ∃ s : ByteArray, s = ⟨(bytesD c.d).toArray⟩ := ⟨_, rfl⟩
  have EN := (defEncode_any c.d A n m W hC.i.d).mono (R' := fun e w' => (∃ A' n' c', e = .returned (.tuple #[.slice A' n' c', .int .i64 0]) ∧ (convert 22 9 (.slice A' n' c')).run Tryz.prog w' = .ok (.string s) w') ∧ Below W.heap.size W w') (fun e w' ⟨h, hb⟩ => by
    obtain ⟨A', n', c', he, h1, _⟩ := h.val
    rw [ckD_yes ho] at he
    rw [encL_yes ho] at h1
    exact ⟨⟨A', n', c', he, by rw [hs]; exact conv_bytes h1 c'⟩, hb⟩)
  unfold dV at EN
  have EN := Lib.hid EN
  have hsz : s.size ≤ 65536 := by rw [hs, Lib.size_mk]; exact hbl
  have HE : Hid (l ++ encF .defn c = l ++ txB s.data.toList) := Lib.hid (by rw [hs]; rfl)
  rw [HE.out]
  have U1 := Lib.hid (fun (V : World) (h : WrP V base C l) => wtext_any C base s l V h (by omega) (by omega))
  have HW := Lib.hid (fun (V : World) (hb : Below W.heap.size W V) => wr_keep hW hb)
  have x0 : W.cell? ⟨B, 12, none⟩ = some (.string c.d.n) := hC.w.cell 12
  have x1 : W.cell? ⟨B, 13, none⟩ = some (.int .i64 c.d.r) := hC.w.cell 13
  have x2 : W.cell? ⟨B, 14, none⟩ = some (.int .i64 c.d.dl) := hC.w.cell 14
  have x3 : W.cell? ⟨B, 15, none⟩ = some (.slice A n m) := hC.w.cell 15
  clear hC hW hl ho hbl HE hs hsz
  go_enter Tryz.func184, Tryz.ntmps184
  go_wp2_with (first
    | (go_at_call 185; refine EN.out.mono ?_; rintro e v1 ⟨⟨A', n', c', rfl, hcv⟩, hb⟩; have U1 := Lib.hid (U1.out v1 (HW.out v1 hb).1); have K1 := Lib.hid (HW.out v1 hb).2; clear hb EN)
    | (go_at_call 65; refine U1.out.mono ?_; rintro e v2 ⟨rfl, hP, hK⟩))
  go_end0
  exact ⟨rfl, hP, K1.out.trans hK⟩
end Go.Proofs.YtgjnmfmbheejoaaGreatDoor
