/- CmdsWrites returns true at every input: the law's walk. Conditions: as the statement's own. -/
import Derived.Test.YtgjnmfmbheejoaaGreatDoorCmREn
import Derived.Test.YtgjnmfmbheejoaaGreatDoorCmRTx
import Derived.Test.YtgjnmfmbheejoaaGreatDoorCmLit
import Derived.Test.YtgjnmfmbheejoaaGreatDoorCmCln
import Derived.Test.YtgjnmfmbheejoaaGreatDoorCmBy
import Derived.Deep.MidRow
namespace Go.Proofs.YtgjnmfmbheejoaaGreatDoor
open Go.RowKit Go.Shelf

/-- A command's cells as a list. -/
def cL (c : Cv) (A : Option Addr) (n m : Nat) : List Value := (cA c A n m).toList
theorem cL_arr (c : Cv) (A : Option Addr) (n m : Nat) : (cL c A n m).toArray = cA c A n m := by simp [cL]
theorem cL_info (c : Cv) (A : Option Addr) (n m : Nat) : (Tryz.prog.info? 36).map (·.size) = some (cL c A n m).length := by kernel_rfl
theorem cL_at {W : World} {P : Nat} {c : Cv} {A : Option Addr} {n m : Nat} (h : CmdAt W P c A n m) : W.rangeAt P 0 (cL c A n m) := by
  intro i v hi
  rw [Nat.zero_add, h.w.cell]
  unfold cL at hi
  rw [Array.getElem?_toList] at hi
  exact hi
/-- What CmdsWrites holds in memory: both commands, the clone of the first one's steps, its bytes twice. -/
structure Wri (w : World) (P Q : Nat) (c d : Cv) (A : Option Addr) (n m : Nat) (B : Option Addr) (p q : Nat) (A5 : Option Addr) (A6 : Option Addr) (n6 : Nat) (A8 : Option Addr) (n8 : Nat) (W : World) : Prop where
  bl : Below w.heap.size w W
  cp : CmdAt W P c A n m
  cq : CmdAt W Q d B p q
  s5 : SlD W A5 c.d.s
  s6 : SlB W A6 n6 (encBC c)
  s8 : SlB W A8 n8 (encBC c)
theorem Wri.keep {w W W' : World} {P Q : Nat} {c d : Cv} {A : Option Addr} {n m : Nat} {B : Option Addr} {p q : Nat} {A5 A6 : Option Addr} {n6 : Nat} {A8 : Option Addr} {n8 : Nat} (h : Wri w P Q c d A n m B p q A5 A6 n6 A8 n8 W) (hb : Below W.heap.size W W') : Wri w P Q c d A n m B p q A5 A6 n6 A8 n8 W' :=
  ⟨h.bl.trans (hb.mono h.bl.size), h.cp.keep hb, h.cq.keep hb, h.s5.keep hb, h.s6.keep hb, h.s8.keep hb⟩
/-- Both commands in their boxes. -/
structure Two (w : World) (P Q : Nat) (c d : Cv) (A : Option Addr) (n m : Nat) (B : Option Addr) (p q : Nat) (W : World) : Prop where
  bl : Below w.heap.size w W
  cp : Whole W P 36 (cA c A n m)
  cq : Whole W Q 36 (cA d B p q)
theorem Two.keep {w W W' : World} {P Q : Nat} {c d : Cv} {A : Option Addr} {n m : Nat} {B : Option Addr} {p q : Nat} (h : Two w P Q c d A n m B p q W) (hb : Below W.heap.size W W') : Two w P Q c d A n m B p q W' :=
  ⟨h.bl.trans (hb.mono h.bl.size), h.cp.keep hb, h.cq.keep hb⟩
open Classical in
theorem BoolR.dec {p : Prop} {w w' : World} {e : Ending} (h : BoolR p w w' e) {q : Bool} (hq : q = decide p) : e = .returned (.bool q) ∧ Below w.heap.size w w' := by
  obtain ⟨⟨b, he, hb⟩, hw⟩ := h
  refine ⟨?_, hw⟩
  rw [he, hq]
  by_cases hp : p
  · rw [hb.2 hp, decide_eq_true hp]
  · rw [decide_eq_false hp, Bool.eq_false_iff.2 (fun e => hp (hb.1 e))]
set_option maxRecDepth 100000 in
set_option maxHeartbeats 16000000 in
theorem cmdsWrites_any (c d : Cv) (A B : Option Addr) (n m p q : Nat) (w : World) (hE : DfE w) (h : CmdWk w c A n m) (h' : CmdWk w d B p q) :
    Calls Tryz.prog 5 #[.agg (cA c A n m), .agg (cA d B p q)] w fun e w' => e = .returned (.bool true) ∧ Below w.heap.size w w' := by
  have mixed : Tryz.prog.follows Departure.mixedOrders = true := by kernel_rfl
  have WK := Lib.hid (fun (W : World) (hb : Below w.heap.size w W) => works_any W (hE.keep hb))
  have HE := Lib.hid (fun (W : World) (hb : Below w.heap.size w W) => hE.keep hb)
  have HW := Lib.hid (fun (W : World) (hb : Below w.heap.size w W) => h.keep hb)
  have HW' := Lib.hid (fun (W : World) (hb : Below w.heap.size w W) => h'.keep hb)
  have L1 := Lib.hid (fun (W : World) (hb : Below w.heap.size w W) => light_any c A n m W (h.keep hb))
  have L2 := Lib.hid (fun (W : World) (hb : Below w.heap.size w W) => light_any d B p q W (h'.keep hb))
  have I1 : Hid (Two w w.heap.size (w.heap.size + 1) c d A n m B p q ((w.alloc (.cells (cA c A n m) 36)).alloc (.cells (cA d B p q) 36))) := by
    have b1 := (Below.refl w.heap.size w).alloc (Nat.le_refl _) (.cells (cA c A n m) 36)
    have x2 := Whole.new (w.alloc (.cells (cA c A n m) 36)) 36 (cA d B p q)
    rw [World.size_alloc] at x2
    exact Lib.hid ⟨b1.alloc b1.size _, (Whole.new w 36 (cA c A n m)).alloc (.cells (cA d B p q) 36), x2⟩
  clear hE h h'
  go_enter Tryz.func5, Tryz.ntmps5
  go_upto_region 1 with fail
  generalize (w.alloc (.cells (cA c A n m) 36)).alloc (.cells (cA d B p q) 36) = w1 at I1 ⊢
  generalize hP : w.heap.size = P at I1 ⊢
  have HP := Lib.hid hP
  clear hP
  have L1 := Lib.hid (L1.out w1 (by rw [HP.out]; have := I1.out.bl; rw [HP.out] at this; exact this))
  go_upto_region 3 with (first
    | (refine wpList_load_row (by rfl) 36 (.tmp 2) (by rfl) _ (by rfl) 36 (cA c A n m) (0, 0) _ I1.out.cp Tryz.underlying36 (by rfl) (info24 c A n m) ?_)
    | (refine wpList_load_rowG (by rfl) 36 (.tmp 3) (by rfl) _ (by rfl) 36 (cA d B p q) (0, 0) _ I2.out.cq Tryz.underlying36 (by rfl) (info24 d B p q) ?_)
    | (go_at_call 24; refine L1.out.mono ?_; rintro e w2 ⟨⟨(_ | _), rfl, hq⟩, hb⟩; all_goals (have I2 := Lib.hid (I1.out.keep hb); have HQ := Lib.hid hq; clear hb hq L1; have L2 := Lib.hid (L2.out w2 I2.out.bl); have WK1 := Lib.hid (WK.out w2 I2.out.bl)))
    | (go_at_call 24; refine L2.out.mono ?_; rintro e w3 ⟨⟨(_ | _), rfl, hq⟩, hb⟩; all_goals (have I3 := Lib.hid (I2.out.keep hb); have HQ2 := Lib.hid hq; clear hb hq L2; have WK1 := Lib.hid (WK.out w3 I3.out.bl)))
    | (go_at_call 12; refine WK1.out.mono ?_; rintro e w4 ⟨rfl, hb⟩; have I4 := Lib.hid (I2.out.keep hb); clear hb WK1)
    | (go_at_call 12; refine WK1.out.mono ?_; rintro e w4 ⟨rfl, hb⟩; have I4 := Lib.hid (I3.out.keep hb); clear hb WK1))
  any_goals (go_ret; exact ⟨rfl, I4.out.bl⟩)
  have HN := Lib.hid (HQ.out trivial)
  have HN2 := Lib.hid (HQ2.out trivial)
  have HC := Lib.hid (fun (W : World) (hb : Below w.heap.size w W) => (HW.out W hb).to HN.out)
  have HD := Lib.hid (fun (W : World) (hb : Below w.heap.size w W) => (HW'.out W hb).to HN2.out)
  clear HQ HQ2 WK1 L1 L2 HN HN2
  have y15 : w3.cell? ⟨P, 15, none⟩ = some (.slice A n m) := I3.out.cp.cell 15
  have CL := Lib.hid (clone_steps A n m c.d.s w3 (HC.out w3 I3.out.bl).d.s (HC.out w3 I3.out.bl).d.len (HC.out w3 I3.out.bl).d.big)
  go_upto_region 4 with (go_at_call 25; refine CL.out.mono ?_; rintro e w5 ⟨⟨A5, c5, rfl, hc5, ho⟩, hb⟩; have I5 := Lib.hid (And.intro (I3.out.keep hb) (slD_own ho (HC.out w3 I3.out.bl).d.len)); clear hb ho hc5 CL)
  clear I3 y15
  obtain ⟨ee, hee⟩ : ∃ ee, ee = encEC c := ⟨_, rfl⟩
  obtain ⟨ck, hck⟩ : ∃ ck, ck = ckC c := ⟨_, rfl⟩
  obtain ⟨bs, hbs⟩ : ∃ bs, bs = encBC c := ⟨_, rfl⟩
  obtain ⟨st, hst⟩ : ∃ st : ByteArray, st = ⟨(txtC c).toArray⟩ := ⟨_, rfl⟩
  have EN := fun (W : World) (hb : Below w.heap.size w W) => cencode_any c A n m W (HE.out W hb) (HC.out W hb)
  have REN := fun (W : World) (hb : Below w.heap.size w W) => rencode_any c A n m W (HC.out W hb)
  have TX := fun (W : World) (hb : Below w.heap.size w W) => ctext_any c A n m W (HE.out W hb) (HC.out W hb)
  have RTX := fun (W : World) (hb : Below w.heap.size w W) => rctext_any c A n m W (HC.out W hb)
  unfold EncCR at EN REN
  unfold TxtCR at TX RTX
  rw [← hee, ← hbs] at EN REN
  rw [← hst, ← hck] at TX RTX
  have EN := Lib.hid EN
  have REN := Lib.hid REN
  have TX := Lib.hid TX
  have RTX := Lib.hid RTX
  have HBS := Lib.hid hbs
  have HCK := Lib.hid hck
  clear hee hck hbs hst
  have EN := Lib.hid (EN.out w5 I5.out.1.bl)
  go_upto_region 5 with (first
    | (refine wpList_load_row (by rfl) 36 (.tmp 2) (by rfl) _ (by rfl) 36 (cA c A n m) (0, 0) _ I5.out.1.cp Tryz.underlying36 (by rfl) (info24 c A n m) ?_)
    | (go_at_call 26; refine EN.out.mono ?_; rintro e w6 ⟨⟨A6, n6, m6, rfl, hs, _⟩, hb⟩; have I6 := Lib.hid (And.intro (I5.out.1.keep hb) (And.intro (I5.out.2.keep hb) hs)); clear hb hs EN))
  clear I5
  have REN := Lib.hid (REN.out w6 I6.out.1.bl)
  go_upto_region 6 with (first
    | (refine wpList_load_row (by rfl) 36 (.tmp 2) (by rfl) _ (by rfl) 36 (cA c A n m) (0, 0) _ I6.out.1.cp Tryz.underlying36 (by rfl) (info24 c A n m) ?_)
    | (go_at_call 27; refine REN.out.mono ?_; rintro e w7 ⟨⟨A8, n8, m8, rfl, hs, _⟩, hb⟩; have I7 := Lib.hid (And.intro (I6.out.1.keep hb) (And.intro (I6.out.2.1.keep hb) (And.intro (I6.out.2.2.keep hb) hs))); clear hb hs REN))
  clear I6
  have TX := Lib.hid (TX.out w7 I7.out.1.bl)
  go_upto_region 7 with (first
    | (refine wpList_load_row (by rfl) 36 (.tmp 2) (by rfl) _ (by rfl) 36 (cA c A n m) (0, 0) _ I7.out.1.cp Tryz.underlying36 (by rfl) (info24 c A n m) ?_)
    | (go_at_call 28; refine TX.out.mono ?_; rintro e w8 ⟨rfl, hb⟩; have I8 := Lib.hid (And.intro (I7.out.1.keep hb) (And.intro (I7.out.2.1.keep hb) (And.intro (I7.out.2.2.1.keep hb) (I7.out.2.2.2.keep hb)))); clear hb TX))
  clear I7
  have RTX := Lib.hid (RTX.out w8 I8.out.1.bl)
  go_upto_region 8 with (first
    | (refine wpList_load_row (by rfl) 36 (.tmp 2) (by rfl) _ (by rfl) 36 (cA c A n m) (0, 0) _ I8.out.1.cp Tryz.underlying36 (by rfl) (info24 c A n m) ?_)
    | (go_at_call 29; refine RTX.out.mono ?_; rintro e w9 ⟨rfl, hb⟩; have I9 : Hid (Wri w P (P + 1) c d A n m B p q A5 A6 n6 A8 n8 w9) := Lib.hid (by
        have i := I8.out
        have hb1 := (i.1.keep hb).bl
        refine ⟨hb1, ⟨(i.1.keep hb).cp, HC.out _ hb1, ?_⟩, ⟨(i.1.keep hb).cq, HD.out _ hb1, ?_⟩, i.2.1.keep hb, by rw [← HBS.out]; exact i.2.2.1.keep hb, by rw [← HBS.out]; exact i.2.2.2.keep hb⟩
        · intro a ha hs
          have := slD_lt (HC.out w (Below.refl _ _)).d.s a ha hs
          rw [HP.out] at this
          omega
        · intro a ha hs
          have := slD_lt (HD.out w (Below.refl _ _)).d.s a ha hs
          rw [HP.out] at this
          omega); clear hb RTX))
  clear I8 EN REN TX RTX
  obtain ⟨L1, hL1⟩ : ∃ L, L = cL c A n m := ⟨_, rfl⟩
  obtain ⟨L2, hL2⟩ : ∃ L, L = cL d B p q := ⟨_, rfl⟩
  have hu := Tryz.underlying36
  have hi1 : (Tryz.prog.info? 36).map (·.size) = some L1.length := by rw [hL1]; exact cL_info c A n m
  have hi2 : (Tryz.prog.info? 36).map (·.size) = some L2.length := by rw [hL2]; exact cL_info d B p q
  have e1 : L1.toArray = cA c A n m := by rw [hL1]; exact cL_arr c A n m
  have e2 : L2.toArray = cA d B p q := by rw [hL2]; exact cL_arr d B p q
  obtain ⟨bsh, hbsh⟩ : ∃ b : Bool, b = decide (0 ≤ c.k ∧ c.k ≤ 4) := ⟨_, rfl⟩
  obtain ⟨be, hbe⟩ : ∃ b : Bool, b = (open Classical in decide (c = d)) := ⟨_, rfl⟩
  have CK := fun (W : World) (h : Wri w P (P + 1) c d A n m B p q A5 A6 n6 A8 n8 W) => ccheck_any c A n m W (HE.out W h.bl) h.cp.i
  have RCK := fun (W : World) (h : Wri w P (P + 1) c d A n m B p q A5 A6 n6 A8 n8 W) => rcheck_any c A n m W h.cp.i
  have SH := fun (W : World) (_ : Wri w P (P + 1) c d A n m B p q A5 A6 n6 A8 n8 W) => shard_any c A n m W
  have RSH := fun (W : World) (_ : Wri w P (P + 1) c d A n m B p q A5 A6 n6 A8 n8 W) => rshard_any c A n m W
  have EQ := fun (W : World) (h : Wri w P (P + 1) c d A n m B p q A5 A6 n6 A8 n8 W) => (equal_any c d A B n p m q W h.cp.i h.cq.i).mono (R' := fun e w' => e = .returned (.bool be) ∧ Below W.heap.size W w') (fun e w' hh => hh.dec hbe)
  have REQ := fun (W : World) (h : Wri w P (P + 1) c d A n m B p q A5 A6 n6 A8 n8 W) => (requal_any c d A B n p m q W h.cp.i h.cq.i).mono (R' := fun e w' => e = .returned (.bool be) ∧ Below W.heap.size W w') (fun e w' hh => hh.dec hbe)
  have EQ1 := fun (W : World) (h : Wri w P (P + 1) c d A n m B p q A5 A6 n6 A8 n8 W) => (equal_any c c A A n n m m W h.cp.i h.cp.i).mono (R' := fun e w' => e = .returned (.bool true) ∧ Below W.heap.size W w') (fun e w' hh => by
    obtain ⟨⟨b, he, hb⟩, hw⟩ := hh
    rw [he, hb.2 rfl]
    exact ⟨rfl, hw⟩)
  have BE := Lib.hid (fun (m6 m8 : Nat) (W : World) (h : Wri w P (P + 1) c d A n m B p q A5 A6 n6 A8 n8 W) => (bEq_any A6 A8 n6 n8 m6 m8 _ _ W h.s6 h.s8).mono (R' := fun e w' => e = .returned (.bool true) ∧ Below W.heap.size W w') (fun e w' ⟨he, hw⟩ => ⟨by rw [he, beq_self_eq_true], by rw [← hw]; exact Below.refl _ _⟩))
  have SE := Lib.hid (fun (c5 : Nat) (W : World) (h : Wri w P (P + 1) c d A n m B p q A5 A6 n6 A8 n8 W) => (slEqual_any A A5 n n m c5 c.d.s c.d.s W h.cp.i.d.s h.s5 h.cp.i.d.len h.cp.i.d.len h.cp.i.d.big).mono (R' := fun e w' => e = .returned (.bool true) ∧ Below W.heap.size W w') (fun e w' ⟨⟨b, he, hb⟩, hw⟩ => ⟨by rw [he, hb.2 rfl], hw⟩))
  have WKS := Lib.hid (fun (W : World) (h : Wri w P (P + 1) c d A n m B p q A5 A6 n6 A8 n8 W) => WK.out W h.bl)
  rw [← HCK.out] at CK RCK
  rw [← hbsh] at SH RSH
  rw [← e1] at CK RCK SH RSH EQ REQ EQ1
  rw [← e2] at EQ REQ
  have CK := Lib.hid CK
  have RCK := Lib.hid RCK
  have SH := Lib.hid SH
  have RSH := Lib.hid RSH
  have EQ := Lib.hid EQ
  have REQ := Lib.hid REQ
  have EQ1 := Lib.hid EQ1
  have SX : ∀ W, Wri w P (P + 1) c d A n m B p q A5 A6 n6 A8 n8 W → W.rangeAt P 0 L1 ∧ W.rangeAt (P + 1) 0 L2 ∧ W.cell? ⟨P, 15, none⟩ = some (.slice A n m) ∧ Wri w P (P + 1) c d A n m B p q A5 A6 n6 A8 n8 W := fun W h => ⟨by rw [hL1]; exact cL_at h.cp, by rw [hL2]; exact cL_at h.cq, h.cp.w.cell 15, h⟩
  have SX := Lib.hid SX
  have SA := Lib.hid (SX.out w9.drew (I9.out.keep (Below.refl _ _).drew))
  have h1 : (ck == ck) = true := beq_self_eq_true _
  have h2 : (ee == ee) = true := beq_self_eq_true _
  have h3 : (st.toList == st.toList) = true := beq_self_eq_true _
  have h4 : (bsh == bsh) = true := beq_self_eq_true _
  have h5 : (be == be) = true := beq_self_eq_true _
  clear hL1 hL2 e1 e2 I9 hbsh hbe HE HW HW' HC HD WK
  refine wp_region_held_drew (S := fun wx => wx.rangeAt P 0 L1 ∧ wx.rangeAt (P + 1) 0 L2 ∧ wx.cell? ⟨P, 15, none⟩ = some (.slice A n m) ∧ Wri w P (P + 1) c d A n m B p q A5 A6 n6 A8 n8 wx) (by kernel_rfl) SA.out (fun hHeld => ?_)
  clear SA
  refine wpAnyH_take (i := 0) (v := _) rfl (by kernel_rfl) (by kernel_rfl) (by kernel_rfl) (fun _ _ _ h => h) (yieldsIf_load_mid (by rfl) _ _ rfl _ _ rfl _ _ (fun w hSw => hSw.1) hu rfl hi1) (by assumption) ?_
  simp only [Act.put, List.getElem_toArray, List.getElem_cons_zero, List.setIfInBounds_toArray, List.set_cons_zero, List.set_cons_succ]
  refine wpAnyH_take (i := 2) (v := _) rfl (by kernel_rfl) (by kernel_rfl) (by kernel_rfl) (fun _ _ _ h => h) (yieldsIf_load_mid (by rfl) _ _ rfl _ _ rfl _ _ (fun w hSw => hSw.1) hu rfl hi1) (by assumption) ?_
  simp only [Act.put, List.getElem_toArray, List.getElem_cons_succ, List.getElem_cons_zero, List.setIfInBounds_toArray, List.set_cons_zero, List.set_cons_succ]
  refine wpAnyH_ready (rs := [1]) (by kernel_rfl) (by simp) ?_
  refine AllReadyH.cons rfl (fun K hK => ?_) AllReadyH.nil
  go_simp
  refine (CK.out _ hHeld.2.2.2).mono ?_
  rintro e wa ⟨rfl, hb⟩
  try go_simp
  refine hK.out _ _ ?_ (fun hHeld' => ?_)
  · exact SX.out _ (hHeld.2.2.2.keep hb)
  clear hK K hHeld
  have hHeld := hHeld'
  clear hHeld'
  try simp only [Act.put, List.getElem_toArray, List.getElem_cons_succ, List.getElem_cons_zero, List.setIfInBounds_toArray, List.set_cons_zero, List.set_cons_succ]
  clear hb
  refine wpAnyH_ready (rs := [3]) (by kernel_rfl) (by simp) ?_
  refine AllReadyH.cons rfl (fun K hK => ?_) AllReadyH.nil
  go_simp
  refine (RCK.out _ hHeld.2.2.2).mono ?_
  rintro e wa ⟨rfl, hb⟩
  try go_simp
  refine hK.out _ _ ?_ (fun hHeld' => ?_)
  · exact SX.out _ (hHeld.2.2.2.keep hb)
  clear hK K hHeld
  have hHeld := hHeld'
  clear hHeld'
  try simp only [Act.put, List.getElem_toArray, List.getElem_cons_succ, List.getElem_cons_zero, List.setIfInBounds_toArray, List.set_cons_zero, List.set_cons_succ]
  clear hb
  refine wpAnyH_take (i := 4) (v := ?_) rfl (by kernel_rfl) (by kernel_rfl) (by kernel_rfl) (fun _ _ _ h => h) (Or.inl ⟨by rfl, ?_⟩) (by assumption) ?_
  rotate_left
  · intro w hSw
    go_simp
    try with_reducible rfl
  simp only [Act.put, List.getElem_toArray, List.getElem_cons_succ, List.getElem_cons_zero, List.setIfInBounds_toArray, List.set_cons_zero, List.set_cons_succ]
  refine wpAnyH_take (i := 5) (v := ?_) rfl (by kernel_rfl) (by kernel_rfl) (by kernel_rfl) (fun _ _ _ h => h) (Or.inl ⟨by rfl, ?_⟩) (by assumption) ?_
  rotate_left
  · intro w hSw
    go_simp
    try with_reducible rfl
  simp only [Act.put, List.getElem_toArray, List.getElem_cons_succ, List.getElem_cons_zero, List.setIfInBounds_toArray, List.set_cons_zero, List.set_cons_succ]
  refine wpAnyH_take (i := 6) (v := ?_) rfl (by kernel_rfl) (by kernel_rfl) (by kernel_rfl) (fun _ _ _ h => h) (Or.inl ⟨by rfl, ?_⟩) (by assumption) ?_
  rotate_left
  · intro w hSw
    go_simp
    try with_reducible rfl
  simp only [Act.put, List.getElem_toArray, List.getElem_cons_succ, List.getElem_cons_zero, List.setIfInBounds_toArray, List.set_cons_zero, List.set_cons_succ]
  refine wpAnyH_take (i := 7) (v := ?_) rfl (by kernel_rfl) (by kernel_rfl) (by kernel_rfl) (fun _ _ _ h => h) (Or.inl ⟨by rfl, ?_⟩) (by assumption) ?_
  rotate_left
  · intro w hSw
    go_simp
    try with_reducible rfl
  simp only [Act.put, List.getElem_toArray, List.getElem_cons_succ, List.getElem_cons_zero, List.setIfInBounds_toArray, List.set_cons_zero, List.set_cons_succ]
  refine wpAnyH_ready (rs := [8]) (by kernel_rfl) (by simp) ?_
  refine AllReadyH.cons rfl (fun K hK => ?_) AllReadyH.nil
  go_simp
  refine (BE.out _ _ _ hHeld.2.2.2).mono ?_
  rintro e wa ⟨rfl, hb⟩
  try go_simp
  refine hK.out _ _ ?_ (fun hHeld' => ?_)
  · exact SX.out _ (hHeld.2.2.2.keep hb)
  clear hK K hHeld
  have hHeld := hHeld'
  clear hHeld'
  try simp only [Act.put, List.getElem_toArray, List.getElem_cons_succ, List.getElem_cons_zero, List.setIfInBounds_toArray, List.set_cons_zero, List.set_cons_succ]
  clear hb
  refine wpAnyH_take (i := 9) (v := ?_) rfl (by kernel_rfl) (by kernel_rfl) (by kernel_rfl) (fun _ _ _ h => h) (Or.inl ⟨by rfl, ?_⟩) (by assumption) ?_
  rotate_left
  · intro w hSw
    go_simp
    try with_reducible rfl
  simp only [Act.put, List.getElem_toArray, List.getElem_cons_succ, List.getElem_cons_zero, List.setIfInBounds_toArray, List.set_cons_zero, List.set_cons_succ]
  refine wpAnyH_take (i := 10) (v := ?_) rfl (by kernel_rfl) (by kernel_rfl) (by kernel_rfl) (fun _ _ _ h => h) (Or.inl ⟨by rfl, ?_⟩) (by assumption) ?_
  rotate_left
  · intro w hSw
    go_simp
    try with_reducible rfl
  simp only [Act.put, List.getElem_toArray, List.getElem_cons_succ, List.getElem_cons_zero, List.setIfInBounds_toArray, List.set_cons_zero, List.set_cons_succ]
  refine wpAnyH_take (i := 11) (v := ?_) rfl (by kernel_rfl) (by kernel_rfl) (by kernel_rfl) (fun _ _ _ h => h) (Or.inl ⟨by rfl, ?_⟩) (by assumption) ?_
  rotate_left
  · intro w hSw
    go_simp
    try with_reducible rfl
  simp only [Act.put, List.getElem_toArray, List.getElem_cons_succ, List.getElem_cons_zero, List.setIfInBounds_toArray, List.set_cons_zero, List.set_cons_succ]
  refine wpAnyH_take (i := 12) (v := ?_) rfl (by kernel_rfl) (by kernel_rfl) (by kernel_rfl) (fun _ _ _ h => h) (Or.inl ⟨by rfl, ?_⟩) (by assumption) ?_
  rotate_left
  · intro w hSw
    go_simp
    try with_reducible rfl
  simp only [Act.put, List.getElem_toArray, List.getElem_cons_succ, List.getElem_cons_zero, List.setIfInBounds_toArray, List.set_cons_zero, List.set_cons_succ]
  refine wpAnyH_take (i := 13) (v := ?_) rfl (by kernel_rfl) (by kernel_rfl) (by kernel_rfl) (fun _ _ _ h => h) (Or.inl ⟨by rfl, ?_⟩) (by assumption) ?_
  rotate_left
  · intro w hSw
    go_simp
    try with_reducible rfl
  simp only [Act.put, List.getElem_toArray, List.getElem_cons_succ, List.getElem_cons_zero, List.setIfInBounds_toArray, List.set_cons_zero, List.set_cons_succ]
  refine wpAnyH_take (i := 14) (v := ?_) rfl (by kernel_rfl) (by kernel_rfl) (by kernel_rfl) (fun _ _ _ h => h) (Or.inl ⟨by rfl, ?_⟩) (by assumption) ?_
  rotate_left
  · intro w hSw
    go_simp
    try with_reducible rfl
  simp only [Act.put, List.getElem_toArray, List.getElem_cons_succ, List.getElem_cons_zero, List.setIfInBounds_toArray, List.set_cons_zero, List.set_cons_succ]
  refine wpAnyH_take (i := 15) (v := ?_) rfl (by kernel_rfl) (by kernel_rfl) (by kernel_rfl) (fun _ _ _ h => h) (Or.inl ⟨by rfl, ?_⟩) (by assumption) ?_
  rotate_left
  · intro w hSw
    go_simp
    try with_reducible rfl
  simp only [Act.put, List.getElem_toArray, List.getElem_cons_succ, List.getElem_cons_zero, List.setIfInBounds_toArray, List.set_cons_zero, List.set_cons_succ]
  refine wpAnyH_take (i := 16) (v := ?_) rfl (by kernel_rfl) (by kernel_rfl) (by kernel_rfl) (fun _ _ _ h => h) (Or.inl ⟨by rfl, ?_⟩) (by assumption) ?_
  rotate_left
  · intro w hSw
    go_simp
    try with_reducible rfl
  simp only [Act.put, List.getElem_toArray, List.getElem_cons_succ, List.getElem_cons_zero, List.setIfInBounds_toArray, List.set_cons_zero, List.set_cons_succ]
  refine wpAnyH_take (i := 17) (v := ?_) rfl (by kernel_rfl) (by kernel_rfl) (by kernel_rfl) (fun _ _ _ h => h) (Or.inl ⟨by rfl, ?_⟩) (by assumption) ?_
  rotate_left
  · intro w hSw
    go_simp
    try with_reducible rfl
  simp only [Act.put, List.getElem_toArray, List.getElem_cons_succ, List.getElem_cons_zero, List.setIfInBounds_toArray, List.set_cons_zero, List.set_cons_succ]
  refine wpAnyH_take (i := 18) (v := ?_) rfl (by kernel_rfl) (by kernel_rfl) (by kernel_rfl) (fun _ _ _ h => h) (Or.inl ⟨by rfl, ?_⟩) (by assumption) ?_
  rotate_left
  · intro w hSw
    go_simp
    try with_reducible rfl
  simp only [Act.put, List.getElem_toArray, List.getElem_cons_succ, List.getElem_cons_zero, List.setIfInBounds_toArray, List.set_cons_zero, List.set_cons_succ]
  refine wpAnyH_take (i := 19) (v := ?_) rfl (by kernel_rfl) (by kernel_rfl) (by kernel_rfl) (fun _ _ _ h => h) (Or.inl ⟨by rfl, ?_⟩) (by assumption) ?_
  rotate_left
  · intro w hSw
    go_simp
    try with_reducible rfl
  simp only [Act.put, List.getElem_toArray, List.getElem_cons_succ, List.getElem_cons_zero, List.setIfInBounds_toArray, List.set_cons_zero, List.set_cons_succ]
  refine wpAnyH_take (i := 20) (v := ?_) rfl (by kernel_rfl) (by kernel_rfl) (by kernel_rfl) (fun _ _ _ h => h) (Or.inl ⟨by rfl, ?_⟩) (by assumption) ?_
  rotate_left
  · intro w hSw
    go_simp
    try with_reducible rfl
  simp only [Act.put, List.getElem_toArray, List.getElem_cons_succ, List.getElem_cons_zero, List.setIfInBounds_toArray, List.set_cons_zero, List.set_cons_succ]
  refine wpAnyH_take (i := 21) (v := ?_) rfl (by kernel_rfl) (by kernel_rfl) (by kernel_rfl) (fun _ _ _ h => h) (Or.inl ⟨by rfl, ?_⟩) (by assumption) ?_
  rotate_left
  · intro w hSw
    go_simp
    try with_reducible rfl
  simp only [Act.put, List.getElem_toArray, List.getElem_cons_succ, List.getElem_cons_zero, List.setIfInBounds_toArray, List.set_cons_zero, List.set_cons_succ]
  refine wpAnyH_take (i := 22) (v := ?_) rfl (by kernel_rfl) (by kernel_rfl) (by kernel_rfl) (fun _ _ _ h => h) (Or.inl ⟨by rfl, ?_⟩) (by assumption) ?_
  rotate_left
  · intro w hSw
    go_simp
    try with_reducible rfl
  simp only [Act.put, List.getElem_toArray, List.getElem_cons_succ, List.getElem_cons_zero, List.setIfInBounds_toArray, List.set_cons_zero, List.set_cons_succ]
  refine wpAnyH_take (i := 23) (v := ?_) rfl (by kernel_rfl) (by kernel_rfl) (by kernel_rfl) (fun _ _ _ h => h) (Or.inl ⟨by rfl, ?_⟩) (by assumption) ?_
  rotate_left
  · intro w hSw
    go_simp
    try with_reducible rfl
  simp only [Act.put, List.getElem_toArray, List.getElem_cons_succ, List.getElem_cons_zero, List.setIfInBounds_toArray, List.set_cons_zero, List.set_cons_succ]
  refine wpAnyH_take (i := 24) (v := ?_) rfl (by kernel_rfl) (by kernel_rfl) (by kernel_rfl) (fun _ _ _ h => h) (Or.inl ⟨by rfl, ?_⟩) (by assumption) ?_
  rotate_left
  · intro w hSw
    go_simp
    try with_reducible rfl
  simp only [Act.put, List.getElem_toArray, List.getElem_cons_succ, List.getElem_cons_zero, List.setIfInBounds_toArray, List.set_cons_zero, List.set_cons_succ]
  refine wpAnyH_take (i := 25) (v := ?_) rfl (by kernel_rfl) (by kernel_rfl) (by kernel_rfl) (fun _ _ _ h => h) (Or.inl ⟨by rfl, ?_⟩) (by assumption) ?_
  rotate_left
  · intro w hSw
    go_simp
    try with_reducible rfl
  simp only [Act.put, List.getElem_toArray, List.getElem_cons_succ, List.getElem_cons_zero, List.setIfInBounds_toArray, List.set_cons_zero, List.set_cons_succ]
  refine wpAnyH_take (i := 26) (v := _) rfl (by kernel_rfl) (by kernel_rfl) (by kernel_rfl) (fun _ _ _ h => h) (yieldsIf_load_mid (by rfl) _ _ rfl _ _ rfl _ _ (fun w hSw => hSw.1) hu rfl hi1) (by assumption) ?_
  simp only [Act.put, List.getElem_toArray, List.getElem_cons_succ, List.getElem_cons_zero, List.setIfInBounds_toArray, List.set_cons_zero, List.set_cons_succ]
  refine wpAnyH_take (i := 28) (v := _) rfl (by kernel_rfl) (by kernel_rfl) (by kernel_rfl) (fun _ _ _ h => h) (yieldsIf_load_mid (by rfl) _ _ rfl _ _ rfl _ _ (fun w hSw => hSw.1) hu rfl hi1) (by assumption) ?_
  simp only [Act.put, List.getElem_toArray, List.getElem_cons_succ, List.getElem_cons_zero, List.setIfInBounds_toArray, List.set_cons_zero, List.set_cons_succ]
  refine wpAnyH_ready (rs := [27]) (by kernel_rfl) (by simp) ?_
  refine AllReadyH.cons rfl (fun K hK => ?_) AllReadyH.nil
  go_simp
  refine (SH.out _ hHeld.2.2.2).mono ?_
  rintro e wa ⟨rfl, hb⟩
  try go_simp
  refine hK.out _ _ ?_ (fun hHeld' => ?_)
  · exact SX.out _ (hHeld.2.2.2.keep hb)
  clear hK K hHeld
  have hHeld := hHeld'
  clear hHeld'
  try simp only [Act.put, List.getElem_toArray, List.getElem_cons_succ, List.getElem_cons_zero, List.setIfInBounds_toArray, List.set_cons_zero, List.set_cons_succ]
  clear hb
  refine wpAnyH_ready (rs := [29]) (by kernel_rfl) (by simp) ?_
  refine AllReadyH.cons rfl (fun K hK => ?_) AllReadyH.nil
  go_simp
  refine (RSH.out _ hHeld.2.2.2).mono ?_
  rintro e wa ⟨rfl, hb⟩
  try go_simp
  refine hK.out _ _ ?_ (fun hHeld' => ?_)
  · exact SX.out _ (hHeld.2.2.2.keep hb)
  clear hK K hHeld
  have hHeld := hHeld'
  clear hHeld'
  try simp only [Act.put, List.getElem_toArray, List.getElem_cons_succ, List.getElem_cons_zero, List.setIfInBounds_toArray, List.set_cons_zero, List.set_cons_succ]
  clear hb
  refine wpAnyH_take (i := 30) (v := ?_) rfl (by kernel_rfl) (by kernel_rfl) (by kernel_rfl) (fun _ _ _ h => h) (Or.inl ⟨by rfl, ?_⟩) (by assumption) ?_
  rotate_left
  · intro w hSw
    go_simp
    try with_reducible rfl
  simp only [Act.put, List.getElem_toArray, List.getElem_cons_succ, List.getElem_cons_zero, List.setIfInBounds_toArray, List.set_cons_zero, List.set_cons_succ]
  refine wpAnyH_take (i := 31) (v := ?_) rfl (by kernel_rfl) (by kernel_rfl) (by kernel_rfl) (fun _ _ _ h => h) (Or.inl ⟨by rfl, ?_⟩) (by assumption) ?_
  rotate_left
  · intro w hSw
    go_simp
    try with_reducible rfl
  simp only [Act.put, List.getElem_toArray, List.getElem_cons_succ, List.getElem_cons_zero, List.setIfInBounds_toArray, List.set_cons_zero, List.set_cons_succ]
  refine wpAnyH_take (i := 32) (v := ?_) rfl (by kernel_rfl) (by kernel_rfl) (by kernel_rfl) (fun _ _ _ h => h) (Or.inl ⟨by rfl, ?_⟩) (by assumption) ?_
  rotate_left
  · intro w hSw
    go_simp
    try with_reducible rfl
  simp only [Act.put, List.getElem_toArray, List.getElem_cons_succ, List.getElem_cons_zero, List.setIfInBounds_toArray, List.set_cons_zero, List.set_cons_succ]
  refine wpAnyH_take (i := 33) (v := _) rfl (by kernel_rfl) (by kernel_rfl) (by kernel_rfl) (fun _ _ _ h => h) (yieldsIf_load_mid (by rfl) _ _ rfl _ _ rfl _ _ (fun w hSw => hSw.1) hu rfl hi1) (by assumption) ?_
  simp only [Act.put, List.getElem_toArray, List.getElem_cons_succ, List.getElem_cons_zero, List.setIfInBounds_toArray, List.set_cons_zero, List.set_cons_succ]
  refine wpAnyH_take (i := 34) (v := _) rfl (by kernel_rfl) (by kernel_rfl) (by kernel_rfl) (fun _ _ _ h => h) (yieldsIf_load_mid (by rfl) _ _ rfl _ _ rfl _ _ (fun w hSw => hSw.2.1) hu rfl hi2) (by assumption) ?_
  simp only [Act.put, List.getElem_toArray, List.getElem_cons_succ, List.getElem_cons_zero, List.setIfInBounds_toArray, List.set_cons_zero, List.set_cons_succ]
  refine wpAnyH_take (i := 36) (v := _) rfl (by kernel_rfl) (by kernel_rfl) (by kernel_rfl) (fun _ _ _ h => h) (yieldsIf_load_mid (by rfl) _ _ rfl _ _ rfl _ _ (fun w hSw => hSw.1) hu rfl hi1) (by assumption) ?_
  simp only [Act.put, List.getElem_toArray, List.getElem_cons_succ, List.getElem_cons_zero, List.setIfInBounds_toArray, List.set_cons_zero, List.set_cons_succ]
  refine wpAnyH_take (i := 37) (v := _) rfl (by kernel_rfl) (by kernel_rfl) (by kernel_rfl) (fun _ _ _ h => h) (yieldsIf_load_mid (by rfl) _ _ rfl _ _ rfl _ _ (fun w hSw => hSw.2.1) hu rfl hi2) (by assumption) ?_
  simp only [Act.put, List.getElem_toArray, List.getElem_cons_succ, List.getElem_cons_zero, List.setIfInBounds_toArray, List.set_cons_zero, List.set_cons_succ]
  refine wpAnyH_ready (rs := [35]) (by kernel_rfl) (by simp) ?_
  refine AllReadyH.cons rfl (fun K hK => ?_) AllReadyH.nil
  go_simp
  refine (EQ.out _ hHeld.2.2.2).mono ?_
  rintro e wa ⟨rfl, hb⟩
  try go_simp
  refine hK.out _ _ ?_ (fun hHeld' => ?_)
  · exact SX.out _ (hHeld.2.2.2.keep hb)
  clear hK K hHeld
  have hHeld := hHeld'
  clear hHeld'
  try simp only [Act.put, List.getElem_toArray, List.getElem_cons_succ, List.getElem_cons_zero, List.setIfInBounds_toArray, List.set_cons_zero, List.set_cons_succ]
  clear hb
  refine wpAnyH_ready (rs := [38]) (by kernel_rfl) (by simp) ?_
  refine AllReadyH.cons rfl (fun K hK => ?_) AllReadyH.nil
  go_simp
  refine (REQ.out _ hHeld.2.2.2).mono ?_
  rintro e wa ⟨rfl, hb⟩
  try go_simp
  refine hK.out _ _ ?_ (fun hHeld' => ?_)
  · exact SX.out _ (hHeld.2.2.2.keep hb)
  clear hK K hHeld
  have hHeld := hHeld'
  clear hHeld'
  try simp only [Act.put, List.getElem_toArray, List.getElem_cons_succ, List.getElem_cons_zero, List.setIfInBounds_toArray, List.set_cons_zero, List.set_cons_succ]
  clear hb
  refine wpAnyH_take (i := 39) (v := ?_) rfl (by kernel_rfl) (by kernel_rfl) (by kernel_rfl) (fun _ _ _ h => h) (Or.inl ⟨by rfl, ?_⟩) (by assumption) ?_
  rotate_left
  · intro w hSw
    go_simp
    try with_reducible rfl
  simp only [Act.put, List.getElem_toArray, List.getElem_cons_succ, List.getElem_cons_zero, List.setIfInBounds_toArray, List.set_cons_zero, List.set_cons_succ]
  refine wpAnyH_take (i := 40) (v := ?_) rfl (by kernel_rfl) (by kernel_rfl) (by kernel_rfl) (fun _ _ _ h => h) (Or.inl ⟨by rfl, ?_⟩) (by assumption) ?_
  rotate_left
  · intro w hSw
    go_simp
    try with_reducible rfl
  simp only [Act.put, List.getElem_toArray, List.getElem_cons_succ, List.getElem_cons_zero, List.setIfInBounds_toArray, List.set_cons_zero, List.set_cons_succ]
  refine wpAnyH_take (i := 41) (v := ?_) rfl (by kernel_rfl) (by kernel_rfl) (by kernel_rfl) (fun _ _ _ h => h) (Or.inl ⟨by rfl, ?_⟩) (by assumption) ?_
  rotate_left
  · intro w hSw
    go_simp
    try with_reducible rfl
  simp only [Act.put, List.getElem_toArray, List.getElem_cons_succ, List.getElem_cons_zero, List.setIfInBounds_toArray, List.set_cons_zero, List.set_cons_succ]
  refine wpAnyH_take (i := 42) (v := _) rfl (by kernel_rfl) (by kernel_rfl) (by kernel_rfl) (fun _ _ _ h => h) (yieldsIf_load_mid (by rfl) _ _ rfl _ _ rfl _ _ (fun w hSw => hSw.1) hu rfl hi1) (by assumption) ?_
  simp only [Act.put, List.getElem_toArray, List.getElem_cons_succ, List.getElem_cons_zero, List.setIfInBounds_toArray, List.set_cons_zero, List.set_cons_succ]
  refine wpAnyH_take (i := 43) (v := _) rfl (by kernel_rfl) (by kernel_rfl) (by kernel_rfl) (fun _ _ _ h => h) (yieldsIf_load_mid (by rfl) _ _ rfl _ _ rfl _ _ (fun w hSw => hSw.1) hu rfl hi1) (by assumption) ?_
  simp only [Act.put, List.getElem_toArray, List.getElem_cons_succ, List.getElem_cons_zero, List.setIfInBounds_toArray, List.set_cons_zero, List.set_cons_succ]
  refine wpAnyH_ready (rs := [44]) (by kernel_rfl) (by simp) ?_
  refine AllReadyH.cons rfl (fun K hK => ?_) AllReadyH.nil
  go_simp
  refine (EQ1.out _ hHeld.2.2.2).mono ?_
  rintro e wa ⟨rfl, hb⟩
  try go_simp
  refine hK.out _ _ ?_ (fun hHeld' => ?_)
  · exact SX.out _ (hHeld.2.2.2.keep hb)
  clear hK K hHeld
  have hHeld := hHeld'
  clear hHeld'
  try simp only [Act.put, List.getElem_toArray, List.getElem_cons_succ, List.getElem_cons_zero, List.setIfInBounds_toArray, List.set_cons_zero, List.set_cons_succ]
  clear hb
  refine wpAnyH_take (i := 45) (v := ?_) rfl (by kernel_rfl) (by kernel_rfl) (by kernel_rfl) (fun _ _ _ h => h) (Or.inl ⟨by rfl, ?_⟩) (by assumption) ?_
  rotate_left
  · intro w hSw
    go_simp
    try with_reducible rfl
  simp only [Act.put, List.getElem_toArray, List.getElem_cons_succ, List.getElem_cons_zero, List.setIfInBounds_toArray, List.set_cons_zero, List.set_cons_succ]
  refine wpAnyH_take (i := 46) (v := ?_) rfl (by kernel_rfl) (by kernel_rfl) (by kernel_rfl) (fun _ _ _ h => h) (Or.inl ⟨by rfl, ?_⟩) (by assumption) ?_
  rotate_left
  · intro w hSw
    go_simp
    try with_reducible rfl
  simp only [Act.put, List.getElem_toArray, List.getElem_cons_succ, List.getElem_cons_zero, List.setIfInBounds_toArray, List.set_cons_zero, List.set_cons_succ]
  refine wpAnyH_take (i := 47) (v := ?_) rfl (by kernel_rfl) (by kernel_rfl) (by kernel_rfl) (fun _ _ _ h => h) (Or.inl ⟨by rfl, ?_⟩) (by assumption) ?_
  rotate_left
  · intro w hSw
    go_simp
    try with_reducible rfl
  simp only [Act.put, List.getElem_toArray, List.getElem_cons_succ, List.getElem_cons_zero, List.setIfInBounds_toArray, List.set_cons_zero, List.set_cons_succ]
  refine wpAnyH_take (i := 48) (v := ?_) rfl (by kernel_rfl) (by kernel_rfl) (by kernel_rfl) (fun _ _ _ h => h) (Or.inl ⟨by rfl, ?_⟩) (by assumption) ?_
  rotate_left
  · intro w hSw
    go_simp
    try with_reducible rfl
  simp only [Act.put, List.getElem_toArray, List.getElem_cons_succ, List.getElem_cons_zero, List.setIfInBounds_toArray, List.set_cons_zero, List.set_cons_succ]
  refine wpAnyH_take (i := 49) (v := ?_) rfl (by kernel_rfl) (by kernel_rfl) (by kernel_rfl) (fun _ _ _ h => h) (Or.inl ⟨by rfl, ?_⟩) (by assumption) ?_
  rotate_left
  · intro w hSw
    go_simp
    try with_reducible rfl
  simp only [Act.put, List.getElem_toArray, List.getElem_cons_succ, List.getElem_cons_zero, List.setIfInBounds_toArray, List.set_cons_zero, List.set_cons_succ]
  refine wpAnyH_take (i := 50) (v := ?_) rfl (by kernel_rfl) (by kernel_rfl) (by kernel_rfl) (fun _ _ _ h => h) (Or.inl ⟨by rfl, ?_⟩) (by assumption) ?_
  rotate_left
  · intro w hSw
    go_simp
    try with_reducible rfl
  simp only [Act.put, List.getElem_toArray, List.getElem_cons_succ, List.getElem_cons_zero, List.setIfInBounds_toArray, List.set_cons_zero, List.set_cons_succ]
  refine wpAnyH_ready (rs := [51]) (by kernel_rfl) (by simp) ?_
  refine AllReadyH.cons rfl (fun K hK => ?_) AllReadyH.nil
  go_simp
  refine (SE.out _ _ hHeld.2.2.2).mono ?_
  rintro e wa ⟨rfl, hb⟩
  try go_simp
  refine hK.out _ _ ?_ (fun hHeld' => ?_)
  · exact SX.out _ (hHeld.2.2.2.keep hb)
  clear hK K hHeld
  have hHeld := hHeld'
  clear hHeld'
  try simp only [Act.put, List.getElem_toArray, List.getElem_cons_succ, List.getElem_cons_zero, List.setIfInBounds_toArray, List.set_cons_zero, List.set_cons_succ]
  clear hb
  refine wpAnyH_take (i := 52) (v := ?_) rfl (by kernel_rfl) (by kernel_rfl) (by kernel_rfl) (fun _ _ _ h => h) (Or.inl ⟨by rfl, ?_⟩) (by assumption) ?_
  rotate_left
  · intro w hSw
    go_simp
    try with_reducible rfl
  simp only [Act.put, List.getElem_toArray, List.getElem_cons_succ, List.getElem_cons_zero, List.setIfInBounds_toArray, List.set_cons_zero, List.set_cons_succ]
  refine wpAnyH_take (i := 53) (v := ?_) rfl (by kernel_rfl) (by kernel_rfl) (by kernel_rfl) (fun _ _ _ h => h) (Or.inl ⟨by rfl, ?_⟩) (by assumption) ?_
  rotate_left
  · intro w hSw
    go_simp
    try with_reducible rfl
  simp only [Act.put, List.getElem_toArray, List.getElem_cons_succ, List.getElem_cons_zero, List.setIfInBounds_toArray, List.set_cons_zero, List.set_cons_succ]
  refine wpAnyH_ready (rs := [54]) (by kernel_rfl) (by simp) ?_
  refine AllReadyH.cons rfl (fun K hK => ?_) AllReadyH.nil
  go_simp
  refine (WKS.out _ hHeld.2.2.2).mono ?_
  rintro e wa ⟨rfl, hb⟩
  try go_simp
  refine hK.out _ _ ?_ (fun hHeld' => ?_)
  · exact SX.out _ (hHeld.2.2.2.keep hb)
  clear hK K hHeld
  have hHeld := hHeld'
  clear hHeld'
  try simp only [Act.put, List.getElem_toArray, List.getElem_cons_succ, List.getElem_cons_zero, List.setIfInBounds_toArray, List.set_cons_zero, List.set_cons_succ]
  clear hb
  refine wpAnyH_take (i := 55) (v := ?_) rfl (by kernel_rfl) (by kernel_rfl) (by kernel_rfl) (fun _ _ _ h => h) (Or.inl ⟨by rfl, ?_⟩) (by assumption) ?_
  rotate_left
  · intro w hSw
    go_simp
    try with_reducible rfl
  simp only [Act.put, List.getElem_toArray, List.getElem_cons_succ, List.getElem_cons_zero, List.setIfInBounds_toArray, List.set_cons_zero, List.set_cons_succ]
  refine wpAnyH_take (i := 56) (v := ?_) rfl (by kernel_rfl) (by kernel_rfl) (by kernel_rfl) (fun _ _ _ h => h) (Or.inl ⟨by rfl, ?_⟩) (by assumption) ?_
  rotate_left
  · intro w hSw
    go_simp
    try with_reducible rfl
  simp only [Act.put, List.getElem_toArray, List.getElem_cons_succ, List.getElem_cons_zero, List.setIfInBounds_toArray, List.set_cons_zero, List.set_cons_succ]
  refine wpAnyH_done (by kernel_rfl) ?_ _
  have HF := Lib.hid hHeld.2.2.2.bl
  clear hHeld
  go_wp2_with fail
  go_ret
  exact ⟨rfl, HF.out⟩
end Go.Proofs.YtgjnmfmbheejoaaGreatDoor
