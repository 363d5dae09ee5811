/- The other fields: whether they are as they have to be, how they are made zero, and their texts. Condition: the program's own variables lie as its start lays them. -/
import Derived.Test.YtgjnmfmbheejoaaGreatDoorCmN
import Derived.Test.YtgjnmfmbheejoaaGreatDoorCmIdn
import Derived.Test.YtgjnmfmbheejoaaGreatDoorDfG
namespace Go.Proofs.YtgjnmfmbheejoaaGreatDoor
open Go.RowKit Go.Shelf

/-- A call that says whether something holds. -/
def BoolR (p : Prop) (w w' : World) (e : Ending) : Prop := (∃ b, e = .returned (.bool b) ∧ (b = true ↔ p)) ∧ Below w.heap.size w w'
theorem beq0 {q : Int} {p : Prop} (h : q = 0 ↔ p) : ((q == 0) = true ↔ p) := by rw [beq_iff_eq]; exact h
theorem cks {p : Prop} [Decidable p] {k : Int} (hk : k ≠ 0) : (if p then (0 : Int) else k) = 0 ↔ p := by
  by_cases h : p
  · rw [if_pos h]; exact ⟨fun _ => h, fun _ => rfl⟩
  · rw [if_neg h]; exact ⟨fun e => absurd e hk, fun e => absurd e h⟩
theorem ckI_iff (b : Bool) : ckI b = 0 ↔ b = true := by cases b <;> decide
set_option maxHeartbeats 1000000 in
theorem eff1_any (c : Cv) (A : Option Addr) (n m B : Nat) (W : World) (hC : CmdAt W B c A n m) :
    Calls Tryz.prog 153 #[.pointer (some ⟨B, 0, none⟩)] W fun e W' => BoolR (okF .eff c) W W' e := by
  have CK := fun W => Id.checkEffect_any c.ea c.eb c.ec W
  have HQ : Hid (ckEff c.ea c.eb c.ec = 0 ↔ okF .eff c) := Lib.hid (by unfold ckEff; exact cks (by decide))
  generalize ckEff c.ea c.eb c.ec = q at CK HQ
  have CK := Lib.hid CK
  have x3 : W.cell? ⟨B, 3, none⟩ = some (.int .i64 c.ea) := hC.w.cell 3
  have x4 : W.cell? ⟨B, 4, none⟩ = some (.int .i64 c.eb) := hC.w.cell 4
  have x5 : W.cell? ⟨B, 5, none⟩ = some (.int .i64 c.ec) := hC.w.cell 5
  clear hC
  go_enter Tryz.func153, Tryz.ntmps153
  go_wp2_with (go_at_call 96; refine (CK.out _).mono ?_; rintro e w1 ⟨rfl, hb⟩)
  go_ret
  unfold BoolR
  exact ⟨⟨_, rfl, beq0 HQ.out⟩, hb⟩
set_option maxHeartbeats 1000000 in
theorem item1_any (c : Cv) (A : Option Addr) (n m B : Nat) (W : World) (hC : CmdAt W B c A n m) :
    Calls Tryz.prog 192 #[.pointer (some ⟨B, 0, none⟩)] W fun e W' => BoolR (okF .item c) W W' e := by
  have CK := fun W => Id.checkItem_any c.it.a c.it.b c.it.c c.it.m c.it.i c.it.g W
  have HQ : Hid (ckItem c.it.a c.it.b c.it.c c.it.m c.it.i c.it.g = 0 ↔ okF .item c) := Lib.hid (by unfold ckItem; exact cks (by decide))
  generalize ckItem c.it.a c.it.b c.it.c c.it.m c.it.i c.it.g = q at CK HQ
  have CK := Lib.hid CK
  have x0 : W.cell? ⟨B, 16, none⟩ = some (.int .i64 c.it.a) := hC.w.cell 16
  have x1 : W.cell? ⟨B, 17, none⟩ = some (.int .i64 c.it.b) := hC.w.cell 17
  have x2 : W.cell? ⟨B, 18, none⟩ = some (.int .i64 c.it.c) := hC.w.cell 18
  have x3 : W.cell? ⟨B, 19, none⟩ = some (.int .i64 c.it.m) := hC.w.cell 19
  have x4 : W.cell? ⟨B, 20, none⟩ = some (.bool c.it.i) := hC.w.cell 20
  have x5 : W.cell? ⟨B, 21, none⟩ = some (.int .i64 c.it.g) := hC.w.cell 21
  clear hC
  go_enter Tryz.func192, Tryz.ntmps192
  go_wp2_with (go_at_call 98; refine (CK.out _).mono ?_; rintro e w1 ⟨rfl, hb⟩)
  go_ret
  unfold BoolR
  exact ⟨⟨_, rfl, beq0 HQ.out⟩, hb⟩
set_option maxHeartbeats 1000000 in
theorem range1_any (c : Cv) (A : Option Addr) (n m B : Nat) (W : World) (hC : CmdAt W B c A n m) :
    Calls Tryz.prog 171 #[.pointer (some ⟨B, 0, none⟩)] W fun e W' => BoolR (okF .rng c) W W' e := by
  have CK := fun W => Rg.check_any c.f c.t W hC.i.z.f hC.i.z.t
  have HQ : Hid (ckI (okR c.f c.t) = 0 ↔ okF .rng c) := Lib.hid (ckI_iff _)
  generalize ckI (okR c.f c.t) = q at CK HQ
  have CK := Lib.hid CK
  have x0 : W.cell? ⟨B, 9, none⟩ = some (.string c.f) := hC.w.cell 9
  have x1 : W.cell? ⟨B, 10, none⟩ = some (.string c.t) := hC.w.cell 10
  clear hC
  go_enter Tryz.func171, Tryz.ntmps171
  go_wp2_with (go_at_call 172; refine (CK.out _).mono ?_; rintro e w1 ⟨rfl, hb⟩)
  go_ret
  unfold BoolR
  exact ⟨⟨_, rfl, beq0 HQ.out⟩, hb⟩
set_option maxHeartbeats 1000000 in
theorem def1_any (c : Cv) (A : Option Addr) (n m B : Nat) (W : World) (hC : CmdAt W B c A n m) :
    Calls Tryz.prog 182 #[.pointer (some ⟨B, 0, none⟩)] W fun e W' => BoolR (okF .defn c) W W' e := by
  have CK := defCheck_any c.d A n m W hC.i.d
  have HQ : Hid (ckD c.d = 0 ↔ okF .defn c) := Lib.hid (by
    by_cases h : defOk c.d
    · rw [ckD_yes h]; exact ⟨fun _ => h, fun _ => rfl⟩
    · rw [ckD_no h]; exact ⟨(fun e => by cases e), fun e => absurd e h⟩)
  generalize ckD c.d = q at CK HQ
  unfold dV at CK
  have CK := Lib.hid CK
  have x0 : W.cell? ⟨B, 12, none⟩ = some (.string c.d.n) := hC.w.cell 12
  have x1 : W.cell? ⟨B, 13, none⟩ = some (.int .i64 c.d.r) := hC.w.cell 13
  have x2 : W.cell? ⟨B, 14, none⟩ = some (.int .i64 c.d.dl) := hC.w.cell 14
  have x3 : W.cell? ⟨B, 15, none⟩ = some (.slice A n m) := hC.w.cell 15
  clear hC
  go_enter Tryz.func182, Tryz.ntmps182
  go_wp2_with (go_at_call 183; refine CK.out.mono ?_; rintro e w1 ⟨rfl, hb⟩)
  go_ret
  unfold BoolR
  exact ⟨⟨_, rfl, beq0 HQ.out⟩, hb⟩
set_option maxHeartbeats 1000000 in
theorem delta1_any (c : Cv) (A : Option Addr) (n m B : Nat) (W : World) (hC : CmdAt W B c A n m) :
    Calls Tryz.prog 162 #[.pointer (some ⟨B, 0, none⟩)] W fun e W' => BoolR (okF .dl c) W W' e := by
  have CK := fun W => numCheck_any c.dl W
  have HQ : Hid ((if -1152921504606846976 ≤ c.dl ∧ c.dl ≤ 1152921504606846976 then (0 : Int) else 7) = 0 ↔ (-1152921504606846976 ≤ c.dl ∧ c.dl ≤ 1152921504606846976)) := Lib.hid (cks (by decide))
  generalize (if -1152921504606846976 ≤ c.dl ∧ c.dl ≤ 1152921504606846976 then (0 : Int) else 7) = q at CK HQ
  have CK := Lib.hid CK
  have x0 : W.cell? ⟨B, 7, none⟩ = some (.int .i64 c.dl) := hC.w.cell 7
  clear hC
  have HO : Hid (okF .dl c ↔ (c.dl ≠ 0 ∧ -1152921504606846976 ≤ c.dl ∧ c.dl ≤ 1152921504606846976)) := Lib.hid Iff.rfl
  generalize okF .dl c = p at HO ⊢
  generalize c.dl = v at *
  by_cases h0 : v = 0
  · subst h0
    go_enter Tryz.func162, Tryz.ntmps162
    go_wp2_with (go_at_call 73; refine (CK.out _).mono ?_; rintro e w1 ⟨rfl, rfl⟩)
    go_ret
    unfold BoolR
    exact ⟨⟨_, rfl, by rw [HO.out]; simp⟩, Below.refl _ _⟩
  · have e1 : (v == 0) = false := by rw [beq_eq_false_iff_ne]; exact h0
    have HV := Lib.hid h0
    clear h0
    go_enter Tryz.func162, Tryz.ntmps162
    go_wp2_with (go_at_call 73; refine (CK.out _).mono ?_; rintro e w1 ⟨rfl, rfl⟩)
    go_ret
    unfold BoolR
    exact ⟨⟨_, rfl, by rw [HO.out, Bool.and_eq_true, bne_iff_ne, beq0 HQ.out]⟩, Below.refl _ _⟩
set_option maxHeartbeats 1000000 in
theorem res1_any (c : Cv) (A : Option Addr) (n m B : Nat) (W : World) (hC : CmdAt W B c A n m) :
    Calls Tryz.prog 199 #[.pointer (some ⟨B, 0, none⟩)] W fun e W' => BoolR (okF .res c) W W' e := by
  have x0 : W.cell? ⟨B, 22, none⟩ = some (.int .i64 c.res) := hC.w.cell 22
  clear hC
  have HO : Hid (okF .res c ↔ (0 ≤ c.res ∧ c.res ≤ 18)) := Lib.hid Iff.rfl
  generalize okF .res c = p at HO ⊢
  generalize c.res = v at *
  rcases (show v < 0 ∨ (0 ≤ v ∧ v ≤ 18) ∨ (0 ≤ v ∧ 18 < v) by omega) with h0 | ⟨h0, h1⟩ | ⟨h0, h1⟩
  all_goals
    go_enter Tryz.func199, Tryz.ntmps199
    go_wp2
    go_ret
    unfold BoolR
    exact ⟨⟨_, rfl, by rw [HO.out]; simp <;> omega⟩, Below.refl _ _⟩
/-- A box of a command behind stores into it. -/
theorem clr_end {W W' : World} {B : Nat} {c c' : Cv} {A : Option Addr} {n m : Nat} (hC : CmdAt W B c A n m) (hg : W.grownBy W' (some B)) (hw : Whole W' B 36 (cA c' A n m)) (hd : c'.d = c.d) (hz : CmdZ c') :
    W.grownBy W' (some B) ∧ ∃ A' n' m', CmdAt W' B c' A' n' m' := ⟨hg, A, n, m, hC.turn hg hw hd hz⟩
set_option maxHeartbeats 1000000 in
theorem eff5_any (c : Cv) (A : Option Addr) (n m B : Nat) (W : World) (hC : CmdAt W B c A n m) :
    Calls Tryz.prog 157 #[.pointer (some ⟨B, 0, none⟩)] W fun e W' => e = .returned (.tuple #[]) ∧ W.grownBy W' (some B) ∧ ∃ A' n' m', CmdAt W' B (clrF .eff c) A' n' m' := by
  have HF := Lib.hid (clr_end (c' := clrF .eff c) hC (grown_set (grown_set (grown_set (World.grownBy.refl W (some B)) 3 (.int .i64 0)) 4 (.int .i64 0)) 5 (.int .i64 0)) (by have h := (((hC.w.put 3 (.int .i64 0)).put 4 (.int .i64 0)).put 5 (.int .i64 0)); simpa [cA, clrF, setF, zeroC, zeroI] using h) rfl (by obtain ⟨a1, a2, a3, a4, a5, a6, a7, a8, a9, a10, a11, a12, a13, a14, a15, a16, a17, a18, a19⟩ := hC.i.z; constructor <;> first | assumption | exact in64_0 | exact (show (0 : Nat) ≤ _ from Nat.zero_le _)))
  have f3 := hC.w.fr 3
  have x3 : W.cell? ⟨B, 3, none⟩ = some (.int .i64 c.ea) := hC.w.cell 3
  have f4 := hC.w.fr 4
  have x4 : W.cell? ⟨B, 4, none⟩ = some (.int .i64 c.eb) := hC.w.cell 4
  have f5 := hC.w.fr 5
  have x5 : W.cell? ⟨B, 5, none⟩ = some (.int .i64 c.ec) := hC.w.cell 5
  clear hC
  go_enter Tryz.func157, Tryz.ntmps157
  go_wp2
  go_end0
  exact ⟨rfl, HF.out⟩
set_option maxHeartbeats 1000000 in
theorem delta5_any (c : Cv) (A : Option Addr) (n m B : Nat) (W : World) (hC : CmdAt W B c A n m) :
    Calls Tryz.prog 167 #[.pointer (some ⟨B, 0, none⟩)] W fun e W' => e = .returned (.tuple #[]) ∧ W.grownBy W' (some B) ∧ ∃ A' n' m', CmdAt W' B (clrF .dl c) A' n' m' := by
  have HF := Lib.hid (clr_end (c' := clrF .dl c) hC (grown_set (World.grownBy.refl W (some B)) 7 (.int .i64 0)) (by have h := (hC.w.put 7 (.int .i64 0)); simpa [cA, clrF, setF, zeroC, zeroI] using h) rfl (by obtain ⟨a1, a2, a3, a4, a5, a6, a7, a8, a9, a10, a11, a12, a13, a14, a15, a16, a17, a18, a19⟩ := hC.i.z; constructor <;> first | assumption | exact in64_0 | exact (show (0 : Nat) ≤ _ from Nat.zero_le _)))
  have f7 := hC.w.fr 7
  have x7 : W.cell? ⟨B, 7, none⟩ = some (.int .i64 c.dl) := hC.w.cell 7
  clear hC
  go_enter Tryz.func167, Tryz.ntmps167
  go_wp2
  go_end0
  exact ⟨rfl, HF.out⟩
set_option maxHeartbeats 1000000 in
theorem range5_any (c : Cv) (A : Option Addr) (n m B : Nat) (W : World) (hC : CmdAt W B c A n m) :
    Calls Tryz.prog 177 #[.pointer (some ⟨B, 0, none⟩)] W fun e W' => e = .returned (.tuple #[]) ∧ W.grownBy W' (some B) ∧ ∃ A' n' m', CmdAt W' B (clrF .rng c) A' n' m' := by
  have HF := Lib.hid (clr_end (c' := clrF .rng c) hC (grown_set (grown_set (World.grownBy.refl W (some B)) 9 (.string ⟨#[]⟩)) 10 (.string ⟨#[]⟩)) (by have h := ((hC.w.put 9 (.string ⟨#[]⟩)).put 10 (.string ⟨#[]⟩)); simpa [cA, clrF, setF, zeroC, zeroI] using h) rfl (by obtain ⟨a1, a2, a3, a4, a5, a6, a7, a8, a9, a10, a11, a12, a13, a14, a15, a16, a17, a18, a19⟩ := hC.i.z; constructor <;> first | assumption | exact in64_0 | exact (show (0 : Nat) ≤ _ from Nat.zero_le _)))
  have f9 := hC.w.fr 9
  have x9 : W.cell? ⟨B, 9, none⟩ = some (.string c.f) := hC.w.cell 9
  have f10 := hC.w.fr 10
  have x10 : W.cell? ⟨B, 10, none⟩ = some (.string c.t) := hC.w.cell 10
  clear hC
  go_enter Tryz.func177, Tryz.ntmps177
  go_wp2
  go_end0
  exact ⟨rfl, HF.out⟩
set_option maxHeartbeats 1000000 in
theorem item5_any (c : Cv) (A : Option Addr) (n m B : Nat) (W : World) (hC : CmdAt W B c A n m) :
    Calls Tryz.prog 198 #[.pointer (some ⟨B, 0, none⟩)] W fun e W' => e = .returned (.tuple #[]) ∧ W.grownBy W' (some B) ∧ ∃ A' n' m', CmdAt W' B (clrF .item c) A' n' m' := by
  have HF := Lib.hid (clr_end (c' := clrF .item c) hC (grown_set (grown_set (grown_set (grown_set (grown_set (grown_set (World.grownBy.refl W (some B)) 16 (.int .i64 0)) 17 (.int .i64 0)) 18 (.int .i64 0)) 19 (.int .i64 0)) 20 (.bool false)) 21 (.int .i64 0)) (by have h := ((((((hC.w.put 16 (.int .i64 0)).put 17 (.int .i64 0)).put 18 (.int .i64 0)).put 19 (.int .i64 0)).put 20 (.bool false)).put 21 (.int .i64 0)); simpa [cA, clrF, setF, zeroC, zeroI] using h) rfl (by obtain ⟨a1, a2, a3, a4, a5, a6, a7, a8, a9, a10, a11, a12, a13, a14, a15, a16, a17, a18, a19⟩ := hC.i.z; constructor <;> first | assumption | exact in64_0 | exact (show (0 : Nat) ≤ _ from Nat.zero_le _)))
  have f16 := hC.w.fr 16
  have x16 : W.cell? ⟨B, 16, none⟩ = some (.int .i64 c.it.a) := hC.w.cell 16
  have f17 := hC.w.fr 17
  have x17 : W.cell? ⟨B, 17, none⟩ = some (.int .i64 c.it.b) := hC.w.cell 17
  have f18 := hC.w.fr 18
  have x18 : W.cell? ⟨B, 18, none⟩ = some (.int .i64 c.it.c) := hC.w.cell 18
  have f19 := hC.w.fr 19
  have x19 : W.cell? ⟨B, 19, none⟩ = some (.int .i64 c.it.m) := hC.w.cell 19
  have f20 := hC.w.fr 20
  have x20 : W.cell? ⟨B, 20, none⟩ = some (.bool c.it.i) := hC.w.cell 20
  have f21 := hC.w.fr 21
  have x21 : W.cell? ⟨B, 21, none⟩ = some (.int .i64 c.it.g) := hC.w.cell 21
  clear hC
  go_enter Tryz.func198, Tryz.ntmps198
  go_wp2
  go_end0
  exact ⟨rfl, HF.out⟩
set_option maxHeartbeats 1000000 in
theorem res5_any (c : Cv) (A : Option Addr) (n m B : Nat) (W : World) (hC : CmdAt W B c A n m) :
    Calls Tryz.prog 203 #[.pointer (some ⟨B, 0, none⟩)] W fun e W' => e = .returned (.tuple #[]) ∧ W.grownBy W' (some B) ∧ ∃ A' n' m', CmdAt W' B (clrF .res c) A' n' m' := by
  have HF := Lib.hid (clr_end (c' := clrF .res c) hC (grown_set (World.grownBy.refl W (some B)) 22 (.int .i64 0)) (by have h := (hC.w.put 22 (.int .i64 0)); simpa [cA, clrF, setF, zeroC, zeroI] using h) rfl (by obtain ⟨a1, a2, a3, a4, a5, a6, a7, a8, a9, a10, a11, a12, a13, a14, a15, a16, a17, a18, a19⟩ := hC.i.z; constructor <;> first | assumption | exact in64_0 | exact (show (0 : Nat) ≤ _ from Nat.zero_le _)))
  have f22 := hC.w.fr 22
  have x22 : W.cell? ⟨B, 22, none⟩ = some (.int .i64 c.res) := hC.w.cell 22
  clear hC
  go_enter Tryz.func203, Tryz.ntmps203
  go_wp2
  go_end0
  exact ⟨rfl, HF.out⟩
set_option maxHeartbeats 1000000 in
theorem def5_any (c : Cv) (A : Option Addr) (n m B : Nat) (W : World) (hC : CmdAt W B c A n m) :
    Calls Tryz.prog 190 #[.pointer (some ⟨B, 0, none⟩)] W fun e W' => e = .returned (.tuple #[]) ∧ W.grownBy W' (some B) ∧ ∃ A' n' m', CmdAt W' B (clrF .defn c) A' n' m' := by
  have HF : Hid (W.grownBy ((((W.setCell ⟨B, 12, none⟩ (.string ⟨#[]⟩)).setCell ⟨B, 13, none⟩ (.int .i64 0)).setCell ⟨B, 14, none⟩ (.int .i64 0)).setCell ⟨B, 15, none⟩ (.slice none 0 0)) (some B) ∧
      ∃ A' n' m', CmdAt ((((W.setCell ⟨B, 12, none⟩ (.string ⟨#[]⟩)).setCell ⟨B, 13, none⟩ (.int .i64 0)).setCell ⟨B, 14, none⟩ (.int .i64 0)).setCell ⟨B, 15, none⟩ (.slice none 0 0)) B (clrF .defn c) A' n' m') :=
    Lib.hid ⟨grown_set (grown_set (grown_set (grown_set (World.grownBy.refl W (some B)) 12 _) 13 _) 14 _) 15 _, none, 0, 0,
      (by have h := (((hC.w.put 12 (.string ⟨#[]⟩)).put 13 (.int .i64 0)).put 14 (.int .i64 0)).put 15 (.slice none 0 0); simpa [cA, clrF, setF, zeroC, zeroD] using h),
      ⟨defAt_zero _, by obtain ⟨a1, a2, a3, a4, a5, a6, a7, a8, a9, a10, a11, a12, a13, a14, a15, a16, a17, a18, a19⟩ := hC.i.z; constructor <;> assumption⟩, (fun a e => by cases e)⟩
  have f0 := hC.w.fr 12
  have f1 := hC.w.fr 13
  have f2 := hC.w.fr 14
  have f3 := hC.w.fr 15
  have x0 : W.cell? ⟨B, 12, none⟩ = some (.string c.d.n) := hC.w.cell 12
  have x1 : W.cell? ⟨B, 13, none⟩ = some (.int .i64 c.d.r) := hC.w.cell 13
  have x2 : W.cell? ⟨B, 14, none⟩ = some (.int .i64 c.d.dl) := hC.w.cell 14
  have x3 : W.cell? ⟨B, 15, none⟩ = some (.slice A n m) := hC.w.cell 15
  clear hC
  go_enter Tryz.func190, Tryz.ntmps190
  go_wp2
  go_end0
  exact ⟨rfl, HF.out⟩
set_option maxHeartbeats 1000000 in
theorem eff4_any (c : Cv) (A : Option Addr) (n m B : Nat) (W : World) (hE : DfE W) (hC : CmdAt W B c A n m) (ho : okF .eff c) :
    Calls Tryz.prog 156 #[.pointer (some ⟨B, 0, none⟩)] W fun e W' => e = .returned (.string ⟨(textF .eff c).toArray⟩) ∧ Below W.heap.size W W' := by
  have CK := Id.effect_all c.ea c.eb c.ec W (powE hE)
  rw [Id.effR_yes (show effOk c.ea c.eb c.ec from ho)] at CK
  have HT : (⟨(effText c.ea c.eb c.ec).toArray⟩ : ByteArray) = ⟨(textF .eff c).toArray⟩ := rfl
  dsimp only at CK
  rw [HT] at CK
  generalize (⟨(textF .eff c).toArray⟩ : ByteArray) = r at CK ⊢
  have CK := Lib.hid CK
  have x3 : W.cell? ⟨B, 3, none⟩ = some (.int .i64 c.ea) := hC.w.cell 3
  have x4 : W.cell? ⟨B, 4, none⟩ = some (.int .i64 c.eb) := hC.w.cell 4
  have x5 : W.cell? ⟨B, 5, none⟩ = some (.int .i64 c.ec) := hC.w.cell 5
  clear hC hE ho
  go_enter Tryz.func156, Tryz.ntmps156
  go_wp2_with (go_at_call 44; refine CK.out.mono ?_; rintro e w1 ⟨rfl, hb⟩)
  go_ret
  exact ⟨rfl, hb⟩
set_option maxHeartbeats 1000000 in
theorem item4_any (c : Cv) (A : Option Addr) (n m B : Nat) (W : World) (hE : DfE W) (hC : CmdAt W B c A n m) (ho : okF .item c) :
    Calls Tryz.prog 197 #[.pointer (some ⟨B, 0, none⟩)] W fun e W' => e = .returned (.string ⟨(textF .item c).toArray⟩) ∧ Below W.heap.size W W' := by
  have CK := Id.item_all c.it.a c.it.b c.it.c c.it.m c.it.i c.it.g W (powE hE)
  rw [Id.itemW_yes (show itemOk c.it.a c.it.b c.it.c c.it.m c.it.i c.it.g from ho)] at CK
  have HT : (⟨(itemText c.it.a c.it.b c.it.c c.it.m c.it.i c.it.g).toArray⟩ : ByteArray) = ⟨(textF .item c).toArray⟩ := rfl
  dsimp only at CK
  rw [HT] at CK
  generalize (⟨(textF .item c).toArray⟩ : ByteArray) = r at CK ⊢
  have CK := Lib.hid CK
  have x16 : W.cell? ⟨B, 16, none⟩ = some (.int .i64 c.it.a) := hC.w.cell 16
  have x17 : W.cell? ⟨B, 17, none⟩ = some (.int .i64 c.it.b) := hC.w.cell 17
  have x18 : W.cell? ⟨B, 18, none⟩ = some (.int .i64 c.it.c) := hC.w.cell 18
  have x19 : W.cell? ⟨B, 19, none⟩ = some (.int .i64 c.it.m) := hC.w.cell 19
  have x20 : W.cell? ⟨B, 20, none⟩ = some (.bool c.it.i) := hC.w.cell 20
  have x21 : W.cell? ⟨B, 21, none⟩ = some (.int .i64 c.it.g) := hC.w.cell 21
  clear hC hE ho
  go_enter Tryz.func197, Tryz.ntmps197
  go_wp2_with (go_at_call 45; refine CK.out.mono ?_; rintro e w1 ⟨rfl, hb⟩)
  go_ret
  exact ⟨rfl, hb⟩
set_option maxHeartbeats 1000000 in
theorem range4_any (c : Cv) (A : Option Addr) (n m B : Nat) (W : World) (hC : CmdAt W B c A n m) (ho : okF .rng c) :
    Calls Tryz.prog 175 #[.pointer (some ⟨B, 0, none⟩)] W fun e W' => e = .returned (.string ⟨(textF .rng c).toArray⟩) ∧ Below W.heap.size W W' := by
  have CK := (Rg.text_yes c.f c.t W ho).mono (R' := fun e w' => e = .returned (.tuple #[.string ⟨(textF .rng c).toArray⟩, .int .i64 0]) ∧ Below W.heap.size W w') (fun e w' ⟨⟨x, hx, he⟩, hb⟩ => ⟨by rw [he, ← ba_eta2 x, hx]; rfl, hb⟩)
  generalize (⟨(textF .rng c).toArray⟩ : ByteArray) = r at CK ⊢
  have CK := Lib.hid CK
  have x9 : W.cell? ⟨B, 9, none⟩ = some (.string c.f) := hC.w.cell 9
  have x10 : W.cell? ⟨B, 10, none⟩ = some (.string c.t) := hC.w.cell 10
  clear hC ho
  go_enter Tryz.func175, Tryz.ntmps175
  go_wp2_with (go_at_call 176; refine CK.out.mono ?_; rintro e w1 ⟨rfl, hb⟩)
  go_ret
  exact ⟨rfl, hb⟩
set_option maxHeartbeats 1000000 in
theorem def4_any (c : Cv) (A : Option Addr) (n m B : Nat) (W : World) (hE : DfE W) (hC : CmdAt W B c A n m) (ho : okF .defn c) :
    Calls Tryz.prog 188 #[.pointer (some ⟨B, 0, none⟩)] W fun e W' => e = .returned (.string ⟨(textF .defn c).toArray⟩) ∧ Below W.heap.size W W' := by
  have CK := (defText_any c.d A n m W hC.i.d hE).mono (R' := fun e w' => e = .returned (.tuple #[.string ⟨(textF .defn c).toArray⟩, .int .i64 0]) ∧ Below W.heap.size W w') (fun e w' ⟨h, hb⟩ => ⟨by have := h.val; rw [ckD_yes ho, txtL_yes ho] at this; exact this, hb⟩)
  generalize (⟨(textF .defn c).toArray⟩ : ByteArray) = r at CK ⊢
  unfold dV at CK
  have CK := Lib.hid CK
  have x12 : W.cell? ⟨B, 12, none⟩ = some (.string c.d.n) := hC.w.cell 12
  have x13 : W.cell? ⟨B, 13, none⟩ = some (.int .i64 c.d.r) := hC.w.cell 13
  have x14 : W.cell? ⟨B, 14, none⟩ = some (.int .i64 c.d.dl) := hC.w.cell 14
  have x15 : W.cell? ⟨B, 15, none⟩ = some (.slice A n m) := hC.w.cell 15
  clear hC hE ho
  go_enter Tryz.func188, Tryz.ntmps188
  go_wp2_with (go_at_call 189; refine CK.out.mono ?_; rintro e w1 ⟨rfl, hb⟩)
  go_ret
  exact ⟨rfl, hb⟩
set_option maxHeartbeats 1000000 in
theorem res4_any (c : Cv) (A : Option Addr) (n m B : Nat) (W : World) (hE : DfE W) (hC : CmdAt W B c A n m) (ho : okF .res c) :
    Calls Tryz.prog 202 #[.pointer (some ⟨B, 0, none⟩)] W fun e W' => e = .returned (.string ⟨(textF .res c).toArray⟩) ∧ Below W.heap.size W W' := by
  have ho' : 0 ≤ c.res ∧ c.res ≤ 18 := ho
  have CK := itoa_any c.res (by omega) (by omega) W hE
  have HT : (⟨(dgs c.res).toArray⟩ : ByteArray) = ⟨(textF .res c).toArray⟩ := rfl
  rw [HT] at CK
  generalize (⟨(textF .res c).toArray⟩ : ByteArray) = r at CK ⊢
  have CK := Lib.hid CK
  have hwr : IntKind.i64.wrap c.res = c.res := IntWalk.i64_in _ (by omega)
  have x22 : W.cell? ⟨B, 22, none⟩ = some (.int .i64 c.res) := hC.w.cell 22
  clear hC hE ho
  go_enter Tryz.func202, Tryz.ntmps202
  go_wp2_with (go_at_call 97; refine CK.out.mono ?_; rintro e w1 ⟨rfl, hb⟩)
  go_ret
  exact ⟨rfl, hb⟩
set_option maxHeartbeats 1000000 in
theorem delta4_any (c : Cv) (A : Option Addr) (n m B : Nat) (W : World) (hE : DfE W) (hC : CmdAt W B c A n m) (ho : okF .dl c) :
    Calls Tryz.prog 165 #[.pointer (some ⟨B, 0, none⟩)] W fun e W' => e = .returned (.string ⟨(textF .dl c).toArray⟩) ∧ Below W.heap.size W W' := by
  obtain ⟨h0, h1, h2⟩ := ho
  have CK := fmt_any c.dl (by omega) (by omega) h0 W hE
  have HL : (⟨(fmtV c.dl).toArray⟩ : ByteArray).size ≤ 20 := by rw [Lib.size_mk]; exact fmt_le (by omega) (by omega)
  have x7 : W.cell? ⟨B, 7, none⟩ = some (.int .i64 c.dl) := hC.w.cell 7
  have HT : Hid (⟨(textF .dl c).toArray⟩ = (⟨(sgn c.dl).toArray⟩ : ByteArray)) := Lib.hid rfl
  rw [HT.out]
  clear hC hE HT
  generalize c.dl = v at *
  by_cases hv : 0 < v
  · obtain ⟨t, ht, _, hs⟩ := add_ba ⟨#[43]⟩ ⟨(fmtV v).toArray⟩ (by have h1 : (⟨#[43]⟩ : ByteArray).size = 1 := rfl; omega)
    have HR : Hid (t = ⟨(sgn v).toArray⟩) := Lib.hid (by rw [← ba_eta2 t, ht.out]; unfold sgn fmtV; rw [if_pos hv, if_pos hv]; rfl)
    generalize (⟨(fmtV v).toArray⟩ : ByteArray) = r at CK hs
    have CK := Lib.hid CK
    clear ht HL
    go_enter Tryz.func165, Tryz.ntmps165
    go_wp2_with (go_at_call 166; refine CK.out.mono ?_; rintro e w1 ⟨rfl, hb⟩)
    go_ret
    exact ⟨by rw [← HR.out]; rfl, hb⟩
  · have HR : Hid (fmtV v = sgn v) := Lib.hid (by unfold fmtV; rw [if_neg hv])
    rw [HR.out] at CK
    generalize (⟨(sgn v).toArray⟩ : ByteArray) = r at CK ⊢
    have CK := Lib.hid CK
    clear HL
    go_enter Tryz.func165, Tryz.ntmps165
    go_wp2_with (go_at_call 166; refine CK.out.mono ?_; rintro e w1 ⟨rfl, hb⟩)
    go_ret
    exact ⟨rfl, hb⟩
end Go.Proofs.YtgjnmfmbheejoaaGreatDoor
