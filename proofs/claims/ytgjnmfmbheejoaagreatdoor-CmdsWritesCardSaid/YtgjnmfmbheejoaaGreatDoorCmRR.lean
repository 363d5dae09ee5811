/- Merged by program: CmRd, CmRd2. -/
import Derived.Test.YtgjnmfmbheejoaaGreatDoorCmOk
import Derived.Test.YtgjnmfmbheejoaaGreatDoorDfDec
import Derived.Test.YtgjnmfmbheejoaaGreatDoorRwA
namespace Go.Proofs.YtgjnmfmbheejoaaGreatDoor
section
open Go.RowKit Go.Shelf

/-- What reading leaves. -/
def RdgR (x : Fl) (c : Cv) (st : WS) (W : World) (B C : Nat) (W' : World) (e : Ending) : Prop := e = .returned (.tuple #[]) ∧ RdP W' C (rdF limP x c st).2 ∧ TwoK W W' B C ∧ ∃ A' n' m', CmdAt W' B (rdF limP x c st).1 A' n' m'
/-- A number or a text that was read is put into its cell. -/
theorem rd_pack {W0 W w1 : World} {B C : Nat} {c : Cv} {A : Option Addr} {n m : Nat} {st st1 : WS} (hC : CmdAt W B c A n m) (hP : RdP W C st) (hK : TwoK W0 W B C) (hCB : C < B) (hg : W.grownBy w1 (some C)) (hP1 : RdP w1 C st1) (off : Nat) (v u : Value) (c1 : Cv)
    (hu : (cA c A n m)[off]? = some u) (hput : (cA c A n m).setIfInBounds off v = cA c1 A n m) (hd : c1.d = c.d) (hz : CmdZ c1) :
    w1.cell? ⟨B, off, none⟩ = some u ∧ w1.frozen? ⟨B, off, none⟩ = false ∧ Hid (CmdAt (w1.setCell ⟨B, off, none⟩ v) B c1 A n m ∧ RdP (w1.setCell ⟨B, off, none⟩ v) C st1 ∧ TwoK W0 (w1.setCell ⟨B, off, none⟩ v) B C) := by
  have C1 := hC.reads hP hg hCB
  have g2 := grown_set (World.grownBy.refl w1 (some B)) off v
  have hw := C1.w.put off v
  rw [hput] at hw
  exact ⟨(C1.w.cell off).trans hu, C1.w.fr off, ⟨C1.turn g2 hw hd hz, hP1.other g2 (fun k e => by cases e; exact hCB), (hK.trans (TwoK.two hg)).trans (TwoK.one g2)⟩⟩
theorem small_z (C : Nat) (st : WS) (most : Nat) (z : Int) (hz : (most : Int) = z) (hm : most ≤ 2147483648) (w : World) (h : RdP w C st) :
    Calls Tryz.prog 47 #[.pointer (some ⟨C, 0, none⟩), .int .i64 z] w fun e w' => e = .returned (.int .i64 ((wSm most st).1 : Int)) ∧ RdP w' C (wSm most st).2 ∧ w.grownBy w' (some C) := by
  subst hz
  exact small_any C st most hm w h
theorem in64_i {v : Int} (h1 : -9223372036854775808 ≤ v) (h2 : v ≤ 9223372036854775807) : In64 v := ⟨h1, h2⟩
theorem wI_in (st : WS) : In64 (wI st).1 := by
  have h := zag_i64 (wU_lt st)
  exact ⟨h.1, h.2⟩
theorem TwoK.refl (W : World) (B C : Nat) : TwoK W W B C := TwoK.of_below (Below.refl _ _)
set_option maxHeartbeats 2000000 in
theorem eff3_any (c : Cv) (A : Option Addr) (n m B C : Nat) (st : WS) (W : World) (hC : CmdAt W B c A n m) (hP : RdP W C st) (hCB : C < B) :
    Calls Tryz.prog 155 #[.pointer (some ⟨C, 0, none⟩), .pointer (some ⟨B, 0, none⟩)] W fun e W' => RdgR .eff c st W B C W' e := by
  have S1 := Lib.hid (small_z C st 9999 9999 rfl (by decide) W hP)
  obtain ⟨a1, hv1⟩ : ∃ x : Int, x = ((wSm 9999 st).1 : Int) := ⟨_, rfl⟩
  have i1 : In64 a1 := by rw [hv1]; exact in64_nat (Nat.le_trans (wSm_le _ _) (by decide))
  obtain ⟨s1, hs1⟩ : ∃ x, x = (wSm 9999 st).2 := ⟨_, rfl⟩
  obtain ⟨a2, hv2⟩ : ∃ x : Int, x = ((wSm 8 s1).1 : Int) := ⟨_, rfl⟩
  have i2 : In64 a2 := by rw [hv2]; exact in64_nat (Nat.le_trans (wSm_le _ _) (by decide))
  obtain ⟨s2, hs2⟩ : ∃ x, x = (wSm 8 s1).2 := ⟨_, rfl⟩
  obtain ⟨a3, hv3⟩ : ∃ x : Int, x = ((wSm 3 s2).1 : Int) := ⟨_, rfl⟩
  have i3 : In64 a3 := by rw [hv3]; exact in64_nat (Nat.le_trans (wSm_le _ _) (by decide))
  obtain ⟨s3, hs3⟩ : ∃ x, x = (wSm 3 s2).2 := ⟨_, rfl⟩
  have HR : Hid (rdF limP .eff c st = ({ c with ea := a1, eb := a2, ec := a3 }, s3)) := Lib.hid (by rw [hs3, hv3, hs2, hv2, hs1, hv1]; rfl)
  rw [← hv1, ← hs1] at S1
  have Z1 : CmdZ { c with ea := a1 } := by obtain ⟨a1, a2, a3, a4, a5, a6, a7, a8, a9, a10, a11, a12, a13, a14, a15, a16, a17, a18, a19⟩ := hC.i.z; constructor <;> assumption
  have Z2 : CmdZ { c with ea := a1, eb := a2 } := by obtain ⟨a1, a2, a3, a4, a5, a6, a7, a8, a9, a10, a11, a12, a13, a14, a15, a16, a17, a18, a19⟩ := Z1; constructor <;> assumption
  have Z3 : CmdZ { c with ea := a1, eb := a2, ec := a3 } := by obtain ⟨a1, a2, a3, a4, a5, a6, a7, a8, a9, a10, a11, a12, a13, a14, a15, a16, a17, a18, a19⟩ := Z2; constructor <;> assumption
  have HC := Lib.hid hC
  have HP := Lib.hid hP
  have HCB := Lib.hid hCB
  have HV := Lib.hid (And.intro hv2 (And.intro hs2 (And.intro hv3 hs3)))
  have HZ := Lib.hid (And.intro Z1 (And.intro Z2 Z3))
  clear hC hP hCB hv1 hv2 hv3 hs1 hs2 hs3 i1 i2 i3 Z1 Z2 Z3
  go_enter Tryz.func155, Tryz.ntmps155
  go_upto_region 1 with (go_at_call 47; refine S1.out.mono ?_; rintro e v1 ⟨rfl, hP1, hg⟩; obtain ⟨y, f, D1⟩ := rd_pack HC.out HP.out (TwoK.refl W B C) HCB.out hg hP1 3 (.int .i64 a1) (.int .i64 c.ea) { c with ea := a1 } rfl (by simp [cA]) rfl HZ.out.1; clear hP1 hg S1)
  generalize v1.setCell ⟨B, 3, none⟩ (.int .i64 a1) = u1 at D1 ⊢
  clear y f
  have S2 := Lib.hid (small_z C s1 8 8 rfl (by decide) u1 D1.out.2.1)
  rw [← HV.out.1, ← HV.out.2.1] at S2
  go_upto_region 2 with (go_at_call 47; refine S2.out.mono ?_; rintro e v2 ⟨rfl, hP1, hg⟩; obtain ⟨y, f, D2⟩ := rd_pack D1.out.1 D1.out.2.1 D1.out.2.2 HCB.out hg hP1 4 (.int .i64 a2) (.int .i64 c.eb) { c with ea := a1, eb := a2 } rfl (by simp [cA]) rfl HZ.out.2.1; clear hP1 hg S2)
  generalize v2.setCell ⟨B, 4, none⟩ (.int .i64 a2) = u2 at D2 ⊢
  clear y f
  have S3 := Lib.hid (small_z C s2 3 3 rfl (by decide) u2 D2.out.2.1)
  rw [← HV.out.2.2.1, ← HV.out.2.2.2] at S3
  go_wp2_with (go_at_call 47; refine S3.out.mono ?_; rintro e v3 ⟨rfl, hP1, hg⟩; obtain ⟨y, f, D3⟩ := rd_pack D2.out.1 D2.out.2.1 D2.out.2.2 HCB.out hg hP1 5 (.int .i64 a3) (.int .i64 c.ec) { c with ea := a1, eb := a2, ec := a3 } rfl (by simp [cA]) rfl HZ.out.2.2; clear hP1 hg S3)
  go_end0
  unfold RdgR
  rw [HR.out]
  exact ⟨rfl, D3.out.2.1, D3.out.2.2, A, n, m, D3.out.1⟩
set_option maxHeartbeats 1000000 in
theorem delta3_any (c : Cv) (A : Option Addr) (n m B C : Nat) (st : WS) (W : World) (hC : CmdAt W B c A n m) (hP : RdP W C st) (hCB : C < B) :
    Calls Tryz.prog 164 #[.pointer (some ⟨C, 0, none⟩), .pointer (some ⟨B, 0, none⟩)] W fun e W' => RdgR .dl c st W B C W' e := by
  have S1 := Lib.hid (rint_any C st W hP)
  obtain ⟨a1, hv1⟩ : ∃ x : Int, x = (wI st).1 := ⟨_, rfl⟩
  have i1 : In64 a1 := by rw [hv1]; exact wI_in st
  obtain ⟨s1, hs1⟩ : ∃ x, x = (wI st).2 := ⟨_, rfl⟩
  have HR : Hid (rdF limP .dl c st = ({ c with dl := a1 }, s1)) := Lib.hid (by rw [hs1, hv1]; rfl)
  rw [← hv1, ← hs1] at S1
  have Z1 : CmdZ { c with dl := a1 } := by obtain ⟨a1, a2, a3, a4, a5, a6, a7, a8, a9, a10, a11, a12, a13, a14, a15, a16, a17, a18, a19⟩ := hC.i.z; constructor <;> assumption
  have HC := Lib.hid hC
  have HP := Lib.hid hP
  have HCB := Lib.hid hCB
  have HZ := Lib.hid Z1
  clear hC hP hCB hv1 hs1 i1 Z1
  go_enter Tryz.func164, Tryz.ntmps164
  go_wp2_with (go_at_call 59; refine S1.out.mono ?_; rintro e v1 ⟨rfl, hP1, hg⟩; obtain ⟨y, f, D1⟩ := rd_pack HC.out HP.out (TwoK.refl W B C) HCB.out hg hP1 7 (.int .i64 a1) (.int .i64 c.dl) { c with dl := a1 } rfl (by simp [cA]) rfl HZ.out; clear hP1 hg S1)
  go_end0
  unfold RdgR
  rw [HR.out]
  exact ⟨rfl, D1.out.2.1, D1.out.2.2, A, n, m, D1.out.1⟩
set_option maxHeartbeats 1000000 in
theorem res3_any (c : Cv) (A : Option Addr) (n m B C : Nat) (st : WS) (W : World) (hC : CmdAt W B c A n m) (hP : RdP W C st) (hCB : C < B) :
    Calls Tryz.prog 201 #[.pointer (some ⟨C, 0, none⟩), .pointer (some ⟨B, 0, none⟩)] W fun e W' => RdgR .res c st W B C W' e := by
  have S1 := Lib.hid (small_z C st 18 18 rfl (by decide) W hP)
  obtain ⟨a1, hv1⟩ : ∃ x : Int, x = ((wSm 18 st).1 : Int) := ⟨_, rfl⟩
  have i1 : In64 a1 := by rw [hv1]; exact in64_nat (Nat.le_trans (wSm_le _ _) (by decide))
  obtain ⟨s1, hs1⟩ : ∃ x, x = (wSm 18 st).2 := ⟨_, rfl⟩
  have HR : Hid (rdF limP .res c st = ({ c with res := a1 }, s1)) := Lib.hid (by rw [hs1, hv1]; rfl)
  rw [← hv1, ← hs1] at S1
  have Z1 : CmdZ { c with res := a1 } := by obtain ⟨a1, a2, a3, a4, a5, a6, a7, a8, a9, a10, a11, a12, a13, a14, a15, a16, a17, a18, a19⟩ := hC.i.z; constructor <;> assumption
  have HC := Lib.hid hC
  have HP := Lib.hid hP
  have HCB := Lib.hid hCB
  have HZ := Lib.hid Z1
  clear hC hP hCB hv1 hs1 i1 Z1
  go_enter Tryz.func201, Tryz.ntmps201
  go_wp2_with (go_at_call 47; refine S1.out.mono ?_; rintro e v1 ⟨rfl, hP1, hg⟩; obtain ⟨y, f, D1⟩ := rd_pack HC.out HP.out (TwoK.refl W B C) HCB.out hg hP1 22 (.int .i64 a1) (.int .i64 c.res) { c with res := a1 } rfl (by simp [cA]) rfl HZ.out; clear hP1 hg S1)
  go_end0
  unfold RdgR
  rw [HR.out]
  exact ⟨rfl, D1.out.2.1, D1.out.2.2, A, n, m, D1.out.1⟩
set_option maxHeartbeats 2000000 in
theorem range3_any (c : Cv) (A : Option Addr) (n m B C : Nat) (st : WS) (W : World) (hC : CmdAt W B c A n m) (hP : RdP W C st) (hCB : C < B) :
    Calls Tryz.prog 174 #[.pointer (some ⟨C, 0, none⟩), .pointer (some ⟨B, 0, none⟩)] W fun e W' => RdgR .rng c st W B C W' e := by
  have S1 := Lib.hid (rtext_any C st W hP)
  obtain ⟨a1, hv1⟩ : ∃ x : ByteArray, x = ⟨(wT st).1.toArray⟩ := ⟨_, rfl⟩
  have i1 : a1.size ≤ 9223372036854775807 := by rw [hv1, Lib.size_mk]; have := wT_len st; omega
  obtain ⟨s1, hs1⟩ : ∃ x, x = (wT st).2 := ⟨_, rfl⟩
  obtain ⟨a2, hv2⟩ : ∃ x : ByteArray, x = ⟨(wT s1).1.toArray⟩ := ⟨_, rfl⟩
  have i2 : a2.size ≤ 9223372036854775807 := by rw [hv2, Lib.size_mk]; have := wT_len s1; omega
  obtain ⟨s2, hs2⟩ : ∃ x, x = (wT s1).2 := ⟨_, rfl⟩
  have HR : Hid (rdF limP .rng c st = ({ c with f := a1, t := a2 }, s2)) := Lib.hid (by rw [hs2, hv2, hs1, hv1]; rfl)
  rw [← hv1, ← hs1] at S1
  have Z1 : CmdZ { c with f := a1 } := by obtain ⟨a1, a2, a3, a4, a5, a6, a7, a8, a9, a10, a11, a12, a13, a14, a15, a16, a17, a18, a19⟩ := hC.i.z; constructor <;> assumption
  have Z2 : CmdZ { c with f := a1, t := a2 } := by obtain ⟨a1, a2, a3, a4, a5, a6, a7, a8, a9, a10, a11, a12, a13, a14, a15, a16, a17, a18, a19⟩ := Z1; constructor <;> assumption
  have HC := Lib.hid hC
  have HP := Lib.hid hP
  have HCB := Lib.hid hCB
  have HV := Lib.hid (And.intro hv2 hs2)
  have HZ := Lib.hid (And.intro Z1 Z2)
  clear hC hP hCB hv1 hv2 hs1 hs2 i1 i2 Z1 Z2
  go_enter Tryz.func174, Tryz.ntmps174
  go_upto_region 1 with (go_at_call 60; refine S1.out.mono ?_; rintro e v1 ⟨rfl, hP1, hg⟩; obtain ⟨y, f, D1⟩ := rd_pack HC.out HP.out (TwoK.refl W B C) HCB.out hg hP1 9 (.string a1) (.string c.f) { c with f := a1 } rfl (by simp [cA]) rfl HZ.out.1; clear hP1 hg S1)
  generalize v1.setCell ⟨B, 9, none⟩ (.string a1) = u1 at D1 ⊢
  clear y f
  have S2 := Lib.hid (rtext_any C s1 u1 D1.out.2.1)
  rw [← HV.out.1, ← HV.out.2] at S2
  go_wp2_with (go_at_call 60; refine S2.out.mono ?_; rintro e v3 ⟨rfl, hP1, hg⟩; obtain ⟨y, f, D3⟩ := rd_pack D1.out.1 D1.out.2.1 D1.out.2.2 HCB.out hg hP1 10 (.string a2) (.string c.t) { c with f := a1, t := a2 } rfl (by simp [cA]) rfl HZ.out.2; clear hP1 hg S2)
  go_end0
  unfold RdgR
  rw [HR.out]
  exact ⟨rfl, D3.out.2.1, D3.out.2.2, A, n, m, D3.out.1⟩
end
section
open Go.RowKit Go.Shelf

/-- A reader that fails, or goes on. -/
theorem six_cells {w : World} {B : Nat} {t : TypeId} {x0 x1 x2 x3 x4 x5 : Value} (h : Whole w B t #[x0, x1, x2, x3, x4, x5]) : w.cell? ⟨B, 0, none⟩ = some x0 ∧ w.cell? ⟨B, 1, none⟩ = some x1 ∧ w.cell? ⟨B, 2, none⟩ = some x2 ∧ w.cell? ⟨B, 3, none⟩ = some x3 ∧ w.cell? ⟨B, 4, none⟩ = some x4 ∧ w.cell? ⟨B, 5, none⟩ = some x5 :=
  ⟨h.cell 0, h.cell 1, h.cell 2, h.cell 3, h.cell 4, h.cell 5⟩
/-- The item of a command's box is turned. -/
theorem put_item {w1 : World} {B : Nat} {c : Cv} {A : Option Addr} {n m : Nat} (hC : CmdAt w1 B c A n m) (x : It6) (hz : CmdZ { c with it := x }) :
    CmdAt ((((((w1.setCell ⟨B, 16, none⟩ (.int .i64 x.a)).setCell ⟨B, 17, none⟩ (.int .i64 x.b)).setCell ⟨B, 18, none⟩ (.int .i64 x.c)).setCell ⟨B, 19, none⟩ (.int .i64 x.m)).setCell ⟨B, 20, none⟩ (.bool x.i)).setCell ⟨B, 21, none⟩ (.int .i64 x.g)) B { c with it := x } A n m ∧
    w1.grownBy ((((((w1.setCell ⟨B, 16, none⟩ (.int .i64 x.a)).setCell ⟨B, 17, none⟩ (.int .i64 x.b)).setCell ⟨B, 18, none⟩ (.int .i64 x.c)).setCell ⟨B, 19, none⟩ (.int .i64 x.m)).setCell ⟨B, 20, none⟩ (.bool x.i)).setCell ⟨B, 21, none⟩ (.int .i64 x.g)) (some B) := by
  have g := grown_set (grown_set (grown_set (grown_set (grown_set (grown_set (World.grownBy.refl w1 (some B)) 16 (.int .i64 x.a)) 17 (.int .i64 x.b)) 18 (.int .i64 x.c)) 19 (.int .i64 x.m)) 20 (.bool x.i)) 21 (.int .i64 x.g)
  have h := (((((hC.w.put 16 (.int .i64 x.a)).put 17 (.int .i64 x.b)).put 18 (.int .i64 x.c)).put 19 (.int .i64 x.m)).put 20 (.bool x.i)).put 21 (.int .i64 x.g)
  exact ⟨hC.turn g (by simpa [cA] using h) rfl hz, g⟩
set_option maxHeartbeats 2000000 in
theorem item3_any (c : Cv) (A : Option Addr) (n m B C : Nat) (st : WS) (W : World) (hC : CmdAt W B c A n m) (hP : RdP W C st) (hCB : C < B) :
    Calls Tryz.prog 195 #[.pointer (some ⟨C, 0, none⟩), .pointer (some ⟨B, 0, none⟩)] W fun e W' => RdgR .item c st W B C W' e := by
  have S1 := Lib.hid (small_z C st 2147483648 2147483648 rfl (by decide) W hP)
  obtain ⟨k, hk⟩ : ∃ x : Int, x = ((wSm 2147483648 st).1 : Int) := ⟨_, rfl⟩
  have hk1 := wSm_le 2147483648 st
  obtain ⟨s1, hs1⟩ : ∃ x, x = (wSm 2147483648 st).2 := ⟨_, rfl⟩
  have FZ := fromN_z k (by omega) (by omega)
  have HFN := Lib.hid (fun V => fromNum_any k V)
  have HR : Hid (rdF limP .item c st = ({ c with it := (fromN k).1 }, if (fromN k).2 = 0 then s1 else none)) := Lib.hid (by rw [hs1, hk]; rfl)
  have HER : Hid ((fromN k).2 = 0 ∨ (fromN k).2 = 3) := Lib.hid (by unfold fromN; split <;> simp)
  rw [← hk, ← hs1] at S1
  generalize fromN k = q at FZ HFN HR HER
  obtain ⟨x, er⟩ := q
  dsimp only at FZ HFN HR HER
  unfold itA at HFN
  have Z1 : CmdZ { c with it := x } := by
    obtain ⟨a1, a2, a3, a4, a5, a6, a7, a8, a9, a10, a11, a12, a13, a14, a15, a16, a17, a18, a19⟩ := hC.i.z
    obtain ⟨b1, b2, b3, b4, b5, b6, b7, b8, b9, b10⟩ := FZ
    constructor <;> first | assumption | exact in64_i b1 b2 | exact in64_i b3 b4 | exact in64_i b5 b6 | exact in64_i b7 b8 | exact in64_i b9 b10
  have HC := Lib.hid hC
  have HP := Lib.hid hP
  have HCB := Lib.hid hCB
  have HZ := Lib.hid Z1
  clear hC hP hCB hk hs1 hk1 FZ Z1
  obtain ⟨xa, xb, xc, xm, xi, xg⟩ := x
  rcases HER.out with rfl | rfl
  · rw [if_pos rfl] at HR
    clear HER
    go_enter Tryz.func195, Tryz.ntmps195
    go_upto_region 1 with (first
      | (go_at_call 47; refine S1.out.mono ?_; rintro e v1 ⟨rfl, hP1, hg⟩; have D1 := Lib.hid (And.intro (HC.out.reads HP.out hg HCB.out) (And.intro hP1 (TwoK.two (B := B) hg))); clear hP1 hg S1)
      | (go_at_call 196; refine (HFN.out _).mono ?_; rintro e v2 ⟨rfl, hb⟩; have ba := (Below.refl v2.heap.size v2).alloc (Nat.le_refl _) (.cells #[.int .i64 xa, .int .i64 xb, .int .i64 xc, .int .i64 xm, .bool xi, .int .i64 xg] 33); have D2 := Lib.hid (And.intro ((D1.out.1.keep hb).keep ba) (And.intro ((D1.out.2.1.keep hb).keep ba) ((D1.out.2.2.trans (TwoK.of_below hb)).trans (TwoK.of_below ba)))); have N2 := Lib.hid (Whole.new v2 33 #[.int .i64 xa, .int .i64 xb, .int .i64 xc, .int .i64 xm, .bool xi, .int .i64 xg]); clear hb ba D1))
    generalize v2.alloc (.cells #[.int .i64 xa, .int .i64 xb, .int .i64 xc, .int .i64 xm, .bool xi, .int .i64 xg] 33) = u2 at D2 N2 ⊢
    generalize v2.heap.size = X2 at N2 ⊢
    have HF := Lib.hid (put_item D2.out.1 ⟨xa, xb, xc, xm, xi, xg⟩ HZ.out)
    obtain ⟨y0, y1, y2, y3, y4, y5⟩ := six_cells N2.out
    have f0 := D2.out.1.w.fr 16
    have f1 := D2.out.1.w.fr 17
    have f2 := D2.out.1.w.fr 18
    have f3 := D2.out.1.w.fr 19
    have f4 := D2.out.1.w.fr 20
    have f5 := D2.out.1.w.fr 21
    have x0 : u2.cell? ⟨B, 16, none⟩ = some (.int .i64 c.it.a) := D2.out.1.w.cell 16
    have x1 : u2.cell? ⟨B, 17, none⟩ = some (.int .i64 c.it.b) := D2.out.1.w.cell 17
    have x2 : u2.cell? ⟨B, 18, none⟩ = some (.int .i64 c.it.c) := D2.out.1.w.cell 18
    have x3 : u2.cell? ⟨B, 19, none⟩ = some (.int .i64 c.it.m) := D2.out.1.w.cell 19
    have x4 : u2.cell? ⟨B, 20, none⟩ = some (.bool c.it.i) := D2.out.1.w.cell 20
    have x5 : u2.cell? ⟨B, 21, none⟩ = some (.int .i64 c.it.g) := D2.out.1.w.cell 21
    go_wp2_with fail
    go_end0
    unfold RdgR
    rw [HR.out]
    exact ⟨rfl, D2.out.2.1.other HF.out.2 (fun k e => by cases e; exact HCB.out), D2.out.2.2.trans (TwoK.one HF.out.2), A, n, m, HF.out.1⟩
  · rw [if_neg (by decide)] at HR
    clear HER
    go_enter Tryz.func195, Tryz.ntmps195
    go_upto_region 1 with (first
      | (go_at_call 47; refine S1.out.mono ?_; rintro e v1 ⟨rfl, hP1, hg⟩; have D1 := Lib.hid (And.intro (HC.out.reads HP.out hg HCB.out) (And.intro hP1 (TwoK.two (B := B) hg))); clear hP1 hg S1)
      | (go_at_call 196; refine (HFN.out _).mono ?_; rintro e v2 ⟨rfl, hb⟩; have ba := (Below.refl v2.heap.size v2).alloc (Nat.le_refl _) (.cells #[.int .i64 xa, .int .i64 xb, .int .i64 xc, .int .i64 xm, .bool xi, .int .i64 xg] 33); have D2 := Lib.hid (And.intro ((D1.out.1.keep hb).keep ba) (And.intro ((D1.out.2.1.keep hb).keep ba) ((D1.out.2.2.trans (TwoK.of_below hb)).trans (TwoK.of_below ba)))); have N2 := Lib.hid (Whole.new v2 33 #[.int .i64 xa, .int .i64 xb, .int .i64 xc, .int .i64 xm, .bool xi, .int .i64 xg]); clear hb ba D1))
    generalize v2.alloc (.cells #[.int .i64 xa, .int .i64 xb, .int .i64 xc, .int .i64 xm, .bool xi, .int .i64 xg] 33) = u2 at D2 N2 ⊢
    generalize v2.heap.size = X2 at N2 ⊢
    have FA := Lib.hid (rfail_any C s1 u2 D2.out.2.1)
    have HXC : Hid (∃ cs, Whole u2 C 150 cs) := Lib.hid (by obtain ⟨_, _, _, h1, _⟩ := D2.out.2.1; exact ⟨_, h1⟩)
    go_upto_region 3 with (go_at_call 101; refine FA.out.mono ?_; rintro e v3 ⟨rfl, hP3, hg3⟩; have D3 := Lib.hid (And.intro (D2.out.1.reads D2.out.2.1 hg3 HCB.out) (And.intro hP3 (D2.out.2.2.trans (TwoK.two hg3)))); have N3 := Lib.hid (N2.out.grown hg3 (fun e => by obtain ⟨cs, h⟩ := HXC.out; exact whole_ne N2.out h (by decide) (Option.some.inj e))); clear hP3 hg3 FA)
    have HF := Lib.hid (put_item D3.out.1 ⟨xa, xb, xc, xm, xi, xg⟩ HZ.out)
    obtain ⟨y0, y1, y2, y3, y4, y5⟩ := six_cells N3.out
    have f0 := D3.out.1.w.fr 16
    have f1 := D3.out.1.w.fr 17
    have f2 := D3.out.1.w.fr 18
    have f3 := D3.out.1.w.fr 19
    have f4 := D3.out.1.w.fr 20
    have f5 := D3.out.1.w.fr 21
    have x0 : v3.cell? ⟨B, 16, none⟩ = some (.int .i64 c.it.a) := D3.out.1.w.cell 16
    have x1 : v3.cell? ⟨B, 17, none⟩ = some (.int .i64 c.it.b) := D3.out.1.w.cell 17
    have x2 : v3.cell? ⟨B, 18, none⟩ = some (.int .i64 c.it.c) := D3.out.1.w.cell 18
    have x3 : v3.cell? ⟨B, 19, none⟩ = some (.int .i64 c.it.m) := D3.out.1.w.cell 19
    have x4 : v3.cell? ⟨B, 20, none⟩ = some (.bool c.it.i) := D3.out.1.w.cell 20
    have x5 : v3.cell? ⟨B, 21, none⟩ = some (.int .i64 c.it.g) := D3.out.1.w.cell 21
    go_wp2_with fail
    go_end0
    unfold RdgR
    rw [HR.out]
    exact ⟨rfl, D3.out.2.1.other HF.out.2 (fun k e => by cases e; exact HCB.out), D3.out.2.2.trans (TwoK.one HF.out.2), A, n, m, HF.out.1⟩
/-- The definition of a command's box is turned; its steps lie elsewhere. -/
theorem put_def {w1 : World} {B : Nat} {c : Cv} {A : Option Addr} {n m : Nat} (hC : CmdAt w1 B c A n m) (d : Dv) (A' : Option Addr) (n' m' : Nat) (hd : DefAt w1 A' n' m' d) (ho : ∀ a : Addr, A' = some a → a.block ≠ B) :
    CmdAt ((((w1.setCell ⟨B, 12, none⟩ (.string d.n)).setCell ⟨B, 13, none⟩ (.int .i64 d.r)).setCell ⟨B, 14, none⟩ (.int .i64 d.dl)).setCell ⟨B, 15, none⟩ (.slice A' n' m')) B { c with d := d } A' n' m' ∧
    w1.grownBy ((((w1.setCell ⟨B, 12, none⟩ (.string d.n)).setCell ⟨B, 13, none⟩ (.int .i64 d.r)).setCell ⟨B, 14, none⟩ (.int .i64 d.dl)).setCell ⟨B, 15, none⟩ (.slice A' n' m')) (some B) := by
  have g := grown_set (grown_set (grown_set (grown_set (World.grownBy.refl w1 (some B)) 12 (.string d.n)) 13 (.int .i64 d.r)) 14 (.int .i64 d.dl)) 15 (.slice A' n' m')
  have h := (((hC.w.put 12 (.string d.n)).put 13 (.int .i64 d.r)).put 14 (.int .i64 d.dl)).put 15 (.slice A' n' m')
  have Z1 : CmdZ { c with d := d } := by obtain ⟨a1, a2, a3, a4, a5, a6, a7, a8, a9, a10, a11, a12, a13, a14, a15, a16, a17, a18, a19⟩ := hC.i.z; constructor <;> assumption
  exact ⟨⟨by simpa [cA] using h, ⟨hd.grown g (fun a ea _ e => ho a ea (Option.some.inj e)), Z1⟩, fun a ea _ => ho a ea⟩, g⟩
set_option maxHeartbeats 4000000 in
theorem def3_any (c : Cv) (A : Option Addr) (n m B C : Nat) (st : WS) (W : World) (hC : CmdAt W B c A n m) (hP : RdP W C st) (hCB : C < B) :
    Calls Tryz.prog 186 #[.pointer (some ⟨C, 0, none⟩), .pointer (some ⟨B, 0, none⟩)] W fun e W' => RdgR .defn c st W B C W' e := by
  have S1 := Lib.hid (rtext_any C st W hP)
  obtain ⟨s, hs⟩ : ∃ s : ByteArray, s = ⟨(wT st).1.toArray⟩ := ⟨_, rfl⟩
  have hsl : s.data.toList = (wT st).1 := by rw [hs]
  have hsz : s.size ≤ 65536 := by rw [hs, Lib.size_mk]; exact wT_len st
  obtain ⟨s1, hs1⟩ : ∃ x, x = (wT st).2 := ⟨_, rfl⟩
  have HR : Hid (∀ d er, DecR s.data.toList d er → rdF limP .defn c st = ({ c with d := d }, if er = 0 then s1 else none)) := Lib.hid (fun d er h => by
    rw [hsl] at h
    have h2 := decV_of h
    show (({ c with d := (decV (wT st).1).1 } : Cv), if (decV (wT st).1).2 = 0 then (wT st).2 else none) = _
    rw [h2, hs1])
  rw [← hs, ← hs1] at S1
  have hcv := conv_str s
  have DC := Lib.hid (fun (V : World) (k : Nat) => decode_new (some ⟨V.heap.size, 0, none⟩) s.size k s.data.toList (Lib.bytesWorld V 5 s) (slB_conv s V) (by omega))
  have HBW := Lib.hid (fun (V : World) => below_conv s V)
  have HSZ : Hid (∀ V : World, V.heap.size ≤ (Lib.bytesWorld V 5 s).heap.size) := Lib.hid (fun V => (below_conv s V).size)
  have HC := Lib.hid hC
  have HP := Lib.hid hP
  have HCB := Lib.hid hCB
  clear hC hP hCB hs hs1 hsl hsz
  unfold DecodeN dV at DC
  go_enter Tryz.func186, Tryz.ntmps186
  go_upto_region 1 with (first
    | (go_at_call 60; refine S1.out.mono ?_; rintro e v1 ⟨rfl, hP1, hg⟩; have D1 := Lib.hid (And.intro (HC.out.reads HP.out hg HCB.out) (And.intro hP1 (TwoK.two (B := B) hg))); clear hP1 hg S1)
    | (go_at_call 187; refine (DC.out v1 _).mono ?_; rintro e v2 ⟨⟨d, A2, n2, m2, er, rfl, hdr, hda, hA2⟩, hb⟩; have HDR := Lib.hid hdr; have HDA := Lib.hid (And.intro hda (fun (a : Addr) (ha : A2 = some a) => Nat.le_trans (HSZ.out v1) (hA2 a ha))); have D2 := Lib.hid (And.intro ((D1.out.1.keep (HBW.out v1)).keep hb) (And.intro ((D1.out.2.1.keep (HBW.out v1)).keep hb) (And.intro ((D1.out.2.2.trans (TwoK.of_below (HBW.out v1))).trans (TwoK.of_below hb)) D1.out.1.lt))); clear hdr hda hA2 hb D1))
  have ba := (Below.refl v2.heap.size v2).alloc (Nat.le_refl _) (.cells #[.string d.n, .int .i64 d.r, .int .i64 d.dl, .slice A2 n2 m2] 31)
  have D3 : Hid (CmdAt (v2.alloc (.cells #[.string d.n, .int .i64 d.r, .int .i64 d.dl, .slice A2 n2 m2] 31)) B c A n m ∧ RdP (v2.alloc (.cells #[.string d.n, .int .i64 d.r, .int .i64 d.dl, .slice A2 n2 m2] 31)) C s1 ∧
      TwoK W (v2.alloc (.cells #[.string d.n, .int .i64 d.r, .int .i64 d.dl, .slice A2 n2 m2] 31)) B C ∧ DefAt (v2.alloc (.cells #[.string d.n, .int .i64 d.r, .int .i64 d.dl, .slice A2 n2 m2] 31)) A2 n2 m2 d ∧ ∀ a : Addr, A2 = some a → a.block ≠ B ∧ a.block ≠ C) :=
    Lib.hid ⟨D2.out.1.keep ba, D2.out.2.1.keep ba, D2.out.2.2.1.trans (TwoK.of_below ba), HDA.out.1.keep ba, fun a ha => by
      have h1 := HDA.out.2 a ha
      have h2 := D2.out.2.2.2
      have h3 := HCB.out
      omega⟩
  have N3 := Lib.hid (Whole.new v2 31 #[.string d.n, .int .i64 d.r, .int .i64 d.dl, .slice A2 n2 m2])
  have HRX := Lib.hid (HR.out d er HDR.out)
  have HER : er = 0 ∨ er = 10 := by
    rcases HDR.out with ⟨h, _⟩ | ⟨h, _⟩
    · exact Or.inl h
    · exact Or.inr h
  generalize v2.alloc (.cells #[.string d.n, .int .i64 d.r, .int .i64 d.dl, .slice A2 n2 m2] 31) = u3 at D3 N3 ⊢
  generalize v2.heap.size = X2 at N3 ⊢
  clear ba D2 HDA HDR HR DC HBW HSZ hcv HC HP
  rcases HER with rfl | rfl
  · rw [if_pos rfl] at HRX
    obtain ⟨ux, hux⟩ : ∃ ux, ux = u3 := ⟨_, rfl⟩
    rw [← hux] at D3 N3 ⊢
    clear hux
    have DX := D3
    have NX := N3
    have HF := Lib.hid (put_def DX.out.1 d A2 n2 m2 DX.out.2.2.2.1 (fun a ha => (DX.out.2.2.2.2 a ha).1))
    obtain ⟨⟨y0, y1, y2, y3⟩, _⟩ := whole4 NX.out
    have f0 := DX.out.1.w.fr 12
    have f1 := DX.out.1.w.fr 13
    have f2 := DX.out.1.w.fr 14
    have f3 := DX.out.1.w.fr 15
    have x0 : ux.cell? ⟨B, 12, none⟩ = some (.string c.d.n) := DX.out.1.w.cell 12
    have x1 : ux.cell? ⟨B, 13, none⟩ = some (.int .i64 c.d.r) := DX.out.1.w.cell 13
    have x2 : ux.cell? ⟨B, 14, none⟩ = some (.int .i64 c.d.dl) := DX.out.1.w.cell 14
    have x3 : ux.cell? ⟨B, 15, none⟩ = some (.slice A n m) := DX.out.1.w.cell 15
    go_wp2_with fail
    go_end0
    unfold RdgR
    rw [HRX.out]
    exact ⟨rfl, DX.out.2.1.other HF.out.2 (fun k e => by cases e; exact HCB.out), DX.out.2.2.1.trans (TwoK.one HF.out.2), A2, n2, m2, HF.out.1⟩
  · rw [if_neg (by decide)] at HRX
    have FA := Lib.hid (rfail_any C s1 u3 D3.out.2.1)
    have HXC : Hid (∃ cs, Whole u3 C 150 cs) := Lib.hid (by obtain ⟨_, _, _, h1, _⟩ := D3.out.2.1; exact ⟨_, h1⟩)
    go_upto_region 3 with (go_at_call 101; refine FA.out.mono ?_; rintro e ux ⟨rfl, hP3, hg3⟩; have DX := Lib.hid (And.intro (D3.out.1.reads D3.out.2.1 hg3 HCB.out) (And.intro hP3 (And.intro (D3.out.2.2.1.trans (TwoK.two hg3)) (And.intro (D3.out.2.2.2.1.grown hg3 (fun a ha _ e => (D3.out.2.2.2.2 a ha).2 (Option.some.inj e))) D3.out.2.2.2.2)))); have NX := Lib.hid (N3.out.grown hg3 (fun e => by obtain ⟨cs, h⟩ := HXC.out; exact whole_ne N3.out h (by decide) (Option.some.inj e))); clear hP3 hg3 FA)
    have HF := Lib.hid (put_def DX.out.1 d A2 n2 m2 DX.out.2.2.2.1 (fun a ha => (DX.out.2.2.2.2 a ha).1))
    obtain ⟨⟨y0, y1, y2, y3⟩, _⟩ := whole4 NX.out
    have f0 := DX.out.1.w.fr 12
    have f1 := DX.out.1.w.fr 13
    have f2 := DX.out.1.w.fr 14
    have f3 := DX.out.1.w.fr 15
    have x0 : ux.cell? ⟨B, 12, none⟩ = some (.string c.d.n) := DX.out.1.w.cell 12
    have x1 : ux.cell? ⟨B, 13, none⟩ = some (.int .i64 c.d.r) := DX.out.1.w.cell 13
    have x2 : ux.cell? ⟨B, 14, none⟩ = some (.int .i64 c.d.dl) := DX.out.1.w.cell 14
    have x3 : ux.cell? ⟨B, 15, none⟩ = some (.slice A n m) := DX.out.1.w.cell 15
    go_wp2_with fail
    go_end0
    unfold RdgR
    rw [HRX.out]
    exact ⟨rfl, DX.out.2.1.other HF.out.2 (fun k e => by cases e; exact HCB.out), DX.out.2.2.1.trans (TwoK.one HF.out.2), A2, n2, m2, HF.out.1⟩
end
end Go.Proofs.YtgjnmfmbheejoaaGreatDoor
