/- ScriptOps returns true at every input. Conditions: as the statement's own. -/
import Derived.Test.YtojodekmmkemgaaGreatDoorScLit
import Derived.Test.YtojodekmmkemgaaGreatDoorScRPr
import Derived.Test.YtojodekmmkemgaaGreatDoorScWk
import Derived.Deep.MidRow
import Derived.Great.Walk
namespace Go.Proofs.YtojodekmmkemgaaGreatDoor
open Go.RowKit Go.Shelf

/-- What ScriptOps holds in memory: the two operations. -/
structure Tw (w : World) (P Q : Nat) (c : Ov) (A : Option Addr) (n m : Nat) (d : Ov) (B : Option Addr) (p q : Nat) (W : World) : Prop where
  bl : Below w.heap.size w W
  cp : Whole W P 34 (oA c A n m)
  cq : Whole W Q 34 (oA d B p q)
  ci : OpWk W c A n m
  di : OpWk W d B p q
theorem Tw.keep {w W W' : World} {P Q : Nat} {c : Ov} {A : Option Addr} {n m : Nat} {d : Ov} {B : Option Addr} {p q : Nat} (h : Tw w P Q c A n m d B p q W) (hb : Below W.heap.size W W') : Tw w P Q c A n m d B p q W' :=
  ⟨h.bl.trans (hb.mono h.bl.size), h.cp.keep hb, h.cq.keep hb, h.ci.keep hb, h.di.keep hb⟩
theorem two_slOw {w : World} {o p : Ov} {A B : Option Addr} {n m k j : Nat} (ho : OpWk w o A n m) (hp : OpWk w p B k j) (cs : Array Value) (hc : cs = (oA o A n m) ++ (oA p B k j)) : SlOw (w.alloc (.cells cs 34)) (some ⟨w.heap.size, 0, none⟩) [⟨o, A, n, m⟩, ⟨p, B, k, j⟩] := by
  have ba := (Below.refl w.heap.size w).alloc (Nat.le_refl _) (.cells cs 34)
  intro i q hi
  match i with
  | 0 =>
    cases hi
    refine ⟨w.heap.size, 0, rfl, fun j v hj => ?_, ho.keep ba⟩
    have hj10 : j < 10 := (List.getElem?_eq_some_iff.1 hj).1
    rw [(Whole.new w 34 cs).cell, hc, show 0 + 0 * 10 + j = j by omega, Array.getElem?_append_left (by exact hj10)]
    unfold qL at hj
    rw [Array.getElem?_toList] at hj
    exact hj
  | 1 =>
    cases hi
    refine ⟨w.heap.size, 0, rfl, fun j v hj => ?_, hp.keep ba⟩
    have hj10 : j < 10 := (List.getElem?_eq_some_iff.1 hj).1
    rw [(Whole.new w 34 cs).cell, hc, Array.getElem?_append_right (by show 10 ≤ _; omega), show 0 + 1 * 10 + j - (oA o A n m).size = j by show 0 + 1 * 10 + j - 10 = j; omega]
    unfold qL at hj
    rw [Array.getElem?_toList] at hj
    exact hj
  | i + 2 => simp at hi
theorem whole_range {W : World} {X : Nat} {t : TypeId} {cs : Array Value} (h : Whole W X t cs) : W.rangeAt X 0 cs.toList := fun j v hv => by
  rw [Nat.zero_add, h.cell, ← Array.getElem?_toList]
  exact hv
theorem pequal_b (o o' : Ov) (A A' : Option Addr) (n n' m m' : Nat) (w : World) (h : OpIn w o A n m) (h' : OpIn w o' A' n' m') (q : Bool) (hq : q = true ↔ o = o') :
    Calls Tryz.prog 26 #[.agg (oA o A n m), .agg (oA o' A' n' m')] w fun e w' => e = .returned (.bool q) ∧ Below w.heap.size w w' :=
  (oequal_any o o' A A' n n' m m' w h h').mono (fun e w' ⟨⟨b, he, hb⟩, hw⟩ => ⟨by rw [he, Bool.eq_iff_iff.2 (hb.trans hq.symm)], hw⟩)
theorem requal_b (o o' : Ov) (A A' : Option Addr) (n n' m m' : Nat) (w : World) (h : OpIn w o A n m) (h' : OpIn w o' A' n' m') (q : Bool) (hq : q = true ↔ o = o') :
    Calls Tryz.prog 27 #[.agg (oA o A n m), .agg (oA o' A' n' m')] w fun e w' => e = .returned (.bool q) ∧ Below w.heap.size w w' :=
  (roequal_any o o' A A' n n' m m' w h h').mono (fun e w' ⟨⟨b, he, hb⟩, hw⟩ => ⟨by rw [he, Bool.eq_iff_iff.2 (hb.trans hq.symm)], hw⟩)
set_option maxRecDepth 100000 in
set_option maxHeartbeats 8000000 in
theorem scriptOps_any (c d : Ov) (A B : Option Addr) (n m p q : Nat) (w : World) (hE : DfE w) (h : OpWk w c A n m) (h' : OpWk w d B p q) :
    Calls Tryz.prog 4 #[.agg (oA c A n m), .agg (oA d B p q)] w fun e w' => e = .returned (.bool true) ∧ Below w.heap.size w w' := by
  have HE := Lib.hid (fun (W : World) (hb : Below w.heap.size w W) => hE.keep hb)
  have WK := Lib.hid (fun (W : World) (hb : Below w.heap.size w W) => works_any W (hE.keep hb))
  have I1 : Hid (Tw w w.heap.size (w.heap.size + 1) c A n m d B p q ((w.alloc (.cells (oA c A n m) 34)).alloc (.cells (oA d B p q) 34))) := by
    have b1 := (Below.refl w.heap.size w).alloc (Nat.le_refl _) (.cells (oA c A n m) 34)
    have b2 := (Below.refl (w.alloc (.cells (oA c A n m) 34)).heap.size (w.alloc (.cells (oA c A n m) 34))).alloc (Nat.le_refl _) (.cells (oA d B p q) 34)
    have b3 := b1.trans (b2.mono b1.size)
    refine Lib.hid ⟨b3, (Whole.new w 34 (oA c A n m)).keep b2, ?_, h.keep b3, h'.keep b3⟩
    have := Whole.new (w.alloc (.cells (oA c A n m) 34)) 34 (oA d B p q)
    rw [World.size_alloc] at this
    exact this
  clear hE h h'
  obtain ⟨P, hP⟩ : ∃ P, P = w.heap.size := ⟨_, rfl⟩
  rw [← hP] at I1
  have HP := Lib.hid hP
  clear hP
  go_enter Tryz.func4, Tryz.ntmps4
  go_upto_region 1 with fail
  rw [← HP.out]
  generalize ((w.alloc (.cells (oA c A n m) 34)).alloc (.cells (oA d B p q) 34)) = w1 at I1 ⊢
  have ba := (Below.refl w1.heap.size w1).alloc (Nat.le_refl _) (.cells (oA c A n m ++ oA d B p q) 34)
  have LI := light_any 2 (some ⟨w1.heap.size, 0, none⟩) 2 2 [⟨c, A, n, m⟩, ⟨d, B, p, q⟩] (w1.alloc (.cells (oA c A n m ++ oA d B p q) 34)) (two_slOw I1.out.ci I1.out.di _ rfl) rfl (by decide) (by decide) (by decide)
  have I2 := Lib.hid (I1.out.keep ba)
  have LI := Lib.hid LI
  clear ba
  go_upto_if 13 with (first
    | (refine wpList_load_row (by rfl) 34 (.tmp 2) (by rfl) _ (by rfl) 34 (oA c A n m) (0, 0) _ I1.out.cp Tryz.underlying34 (by rfl) (info10 c A n m) ?_)
    | (refine wpList_load_row (by rfl) 34 (.tmp 3) (by rfl) _ (by rfl) 34 (oA d B p q) (0, 0) _ I1.out.cq Tryz.underlying34 (by rfl) (info10 d B p q) ?_)
    | (refine Great.wpList_buildSliceTo (by rfl) 24 34 2 #[(0, .tmp 9), (1, .tmp 10)] (by rfl) w1.heap.size rfl (some 11) (by rfl) Tryz.underlying24 (oA c A n m ++ oA d B p q) (by kernel_rfl) ?_)
    | (go_at_call 21; refine LI.out.mono ?_; rintro e w2 ⟨⟨(_ | _), rfl, hq⟩, hb⟩; all_goals (have I3 := Lib.hid (I2.out.keep hb); have HQ := Lib.hid hq; clear hb hq LI; have WK1 := Lib.hid (WK.out w2 I3.out.bl))))
  · go_wp2_with (go_at_call 20; refine WK1.out.mono ?_; rintro e w3 ⟨rfl, hb⟩; have HF := Lib.hid (I3.out.keep hb); clear hb)
    go_ret
    exact ⟨rfl, HF.out.bl⟩
  have HC : Hid (n ≤ 1000000000000) := Lib.hid (by have := (HQ.out (by trivial)).2 ⟨c, A, n, m⟩ (by simp); exact Nat.le_trans this (by decide))
  have HD : Hid (p ≤ 1000000000000) := Lib.hid (by have := (HQ.out (by trivial)).2 ⟨d, B, p, q⟩ (by simp); exact Nat.le_trans this (by decide))
  clear I1 I2 HQ WK1
  obtain ⟨tc, htc⟩ : ∃ t : ByteArray, t = ⟨(txtO c).toArray⟩ := ⟨_, rfl⟩
  obtain ⟨ck, hck⟩ : ∃ k, k = ckO c := ⟨_, rfl⟩
  have PR := fun (W : World) (h : Tw w P (P + 1) c A n m d B p q W) => oprint_any c A n m W (HE.out W h.bl) (h.ci.small HC.out)
  have RPR := fun (W : World) (h : Tw w P (P + 1) c A n m d B p q W) => roprint_any c A n m W (h.ci.small HC.out)
  have CK := fun (W : World) (h : Tw w P (P + 1) c A n m d B p q W) => ocheck_any c A n m W (h.ci.small HC.out)
  have RCK := fun (W : World) (h : Tw w P (P + 1) c A n m d B p q W) => rocheck_any c A n m W (h.ci.small HC.out)
  rw [← htc, ← hck] at PR RPR
  rw [← hck] at CK RCK
  have PR := Lib.hid PR
  have RPR := Lib.hid RPR
  clear htc hck
  go_upto_region 4 with (first
    | (refine wpList_load_row (by rfl) 34 (.tmp 2) (by rfl) _ (by rfl) 34 (oA c A n m) (0, 0) _ I3.out.cp Tryz.underlying34 (by rfl) (info10 c A n m) ?_)
    | (go_at_call 22; refine (PR.out _ I3.out).mono ?_; rintro e w4 ⟨rfl, hb⟩; have I4 := Lib.hid (I3.out.keep hb); clear hb PR))
  clear I3
  go_upto_region 5 with (first
    | (refine wpList_load_row (by rfl) 34 (.tmp 2) (by rfl) _ (by rfl) 34 (oA c A n m) (0, 0) _ I4.out.cp Tryz.underlying34 (by rfl) (info10 c A n m) ?_)
    | (go_at_call 23; refine (RPR.out _ I4.out).mono ?_; rintro e w5 ⟨rfl, hb⟩; have I5 := Lib.hid (I4.out.keep hb); clear hb RPR))
  clear I4
  obtain ⟨L1, hL1⟩ : ∃ L, L = (oA c A n m).toList := ⟨_, rfl⟩
  obtain ⟨L2, hL2⟩ : ∃ L, L = (oA d B p q).toList := ⟨_, rfl⟩
  have hu := Tryz.underlying34
  have e1 : L1.toArray = oA c A n m := by rw [hL1]
  have e2 : L2.toArray = oA d B p q := by rw [hL2]
  have hi1 : (Tryz.prog.info? 34).map (·.size) = some L1.length := by rw [hL1]; exact info10 c A n m
  have hi2 : (Tryz.prog.info? 34).map (·.size) = some L2.length := by rw [hL2]; exact info10 d B p q
  obtain ⟨be, hbe⟩ : ∃ b : Bool, b = true ↔ c = d := by
    by_cases e : c = d
    · exact ⟨true, ⟨fun _ => e, fun _ => rfl⟩⟩
    · exact ⟨false, ⟨(fun h => by cases h), fun h => absurd h e⟩⟩
  have EQ := fun (W : World) (h : Tw w P (P + 1) c A n m d B p q W) => pequal_b c d A B n p m q W (h.ci.small HC.out) (h.di.small HD.out) be hbe
  have REQ := fun (W : World) (h : Tw w P (P + 1) c A n m d B p q W) => requal_b c d A B n p m q W (h.ci.small HC.out) (h.di.small HD.out) be hbe
  have EQ1 := fun (W : World) (h : Tw w P (P + 1) c A n m d B p q W) => pequal_b c c A A n n m m W (h.ci.small HC.out) (h.ci.small HC.out) true (by simp)
  have WKS := Lib.hid (fun (W : World) (h : Tw w P (P + 1) c A n m d B p q W) => WK.out W h.bl)
  rw [← e1] at CK RCK EQ REQ EQ1
  rw [← e2] at EQ REQ
  have CK := Lib.hid CK
  have RCK := Lib.hid RCK
  have EQ := Lib.hid EQ
  have REQ := Lib.hid REQ
  have EQ1 := Lib.hid EQ1
  have SX : ∀ W, Tw w P (P + 1) c A n m d B p q W → W.rangeAt P 0 L1 ∧ W.rangeAt (P + 1) 0 L2 ∧ Tw w P (P + 1) c A n m d B p q W := fun W h => ⟨by rw [hL1]; exact whole_range h.cp, by rw [hL2]; exact whole_range h.cq, h⟩
  have SX := Lib.hid SX
  have SA := Lib.hid (SX.out w5.drew (I5.out.keep (Below.refl _ _).drew))
  have h1 : (ck == ck) = true := beq_self_eq_true _
  have h3 : (tc.toList == tc.toList) = true := beq_self_eq_true _
  have h5 : (be == be) = true := beq_self_eq_true _
  clear hL1 hL2 e1 e2 I5 hbe HE HC HD WK
  go_wp2_with fail
  refine wp_region_held_drew (S := fun wx => wx.rangeAt P 0 L1 ∧ wx.rangeAt (P + 1) 0 L2 ∧ Tw w P (P + 1) c A n m d B p q wx) (by kernel_rfl) SA.out (fun hHeld => ?_)
  clear SA
  refine wpAnyH_take (i := 0) (v := _) rfl (by kernel_rfl) (by kernel_rfl) (by kernel_rfl) (fun _ _ _ h => h) (yieldsIf_load_mid (by rfl) _ _ rfl _ _ rfl _ _ (fun w hSw => hSw.1) hu rfl hi1) (by assumption) ?_
  simp only [Act.put, List.getElem_toArray, List.getElem_cons_zero, List.setIfInBounds_toArray, List.set_cons_zero, List.set_cons_succ]
  refine wpAnyH_take (i := 2) (v := _) rfl (by kernel_rfl) (by kernel_rfl) (by kernel_rfl) (fun _ _ _ h => h) (yieldsIf_load_mid (by rfl) _ _ rfl _ _ rfl _ _ (fun w hSw => hSw.1) hu rfl hi1) (by assumption) ?_
  simp only [Act.put, List.getElem_toArray, List.getElem_cons_succ, List.getElem_cons_zero, List.setIfInBounds_toArray, List.set_cons_zero, List.set_cons_succ]
  refine wpAnyH_ready (rs := [1]) (by kernel_rfl) (by simp) ?_
  refine AllReadyH.cons rfl (fun K hK => ?_) AllReadyH.nil
  go_simp
  refine (CK.out _ hHeld.2.2).mono ?_
  rintro e wa ⟨rfl, hb⟩
  try go_simp
  refine hK.out _ _ ?_ (fun hHeld' => ?_)
  · exact SX.out _ (hHeld.2.2.keep hb)
  clear hK K hHeld
  have hHeld := hHeld'
  clear hHeld'
  try simp only [Act.put, List.getElem_toArray, List.getElem_cons_succ, List.getElem_cons_zero, List.setIfInBounds_toArray, List.set_cons_zero, List.set_cons_succ]
  clear hb
  refine wpAnyH_ready (rs := [3]) (by kernel_rfl) (by simp) ?_
  refine AllReadyH.cons rfl (fun K hK => ?_) AllReadyH.nil
  go_simp
  refine (RCK.out _ hHeld.2.2).mono ?_
  rintro e wa ⟨rfl, hb⟩
  try go_simp
  refine hK.out _ _ ?_ (fun hHeld' => ?_)
  · exact SX.out _ (hHeld.2.2.keep hb)
  clear hK K hHeld
  have hHeld := hHeld'
  clear hHeld'
  try simp only [Act.put, List.getElem_toArray, List.getElem_cons_succ, List.getElem_cons_zero, List.setIfInBounds_toArray, List.set_cons_zero, List.set_cons_succ]
  clear hb
  refine wpAnyH_take (i := 4) (v := ?_) rfl (by kernel_rfl) (by kernel_rfl) (by kernel_rfl) (fun _ _ _ h => h) (Or.inl ⟨by rfl, ?_⟩) (by assumption) ?_
  rotate_left
  · intro w hSw
    go_simp
    try with_reducible rfl
  simp only [Act.put, List.getElem_toArray, List.getElem_cons_succ, List.getElem_cons_zero, List.setIfInBounds_toArray, List.set_cons_zero, List.set_cons_succ]
  refine wpAnyH_take (i := 5) (v := ?_) rfl (by kernel_rfl) (by kernel_rfl) (by kernel_rfl) (fun _ _ _ h => h) (Or.inl ⟨by rfl, ?_⟩) (by assumption) ?_
  rotate_left
  · intro w hSw
    go_simp
    try with_reducible rfl
  simp only [Act.put, List.getElem_toArray, List.getElem_cons_succ, List.getElem_cons_zero, List.setIfInBounds_toArray, List.set_cons_zero, List.set_cons_succ]
  refine wpAnyH_take (i := 6) (v := ?_) rfl (by kernel_rfl) (by kernel_rfl) (by kernel_rfl) (fun _ _ _ h => h) (Or.inl ⟨by rfl, ?_⟩) (by assumption) ?_
  rotate_left
  · intro w hSw
    go_simp
    try with_reducible rfl
  simp only [Act.put, List.getElem_toArray, List.getElem_cons_succ, List.getElem_cons_zero, List.setIfInBounds_toArray, List.set_cons_zero, List.set_cons_succ]
  refine wpAnyH_take (i := 7) (v := ?_) rfl (by kernel_rfl) (by kernel_rfl) (by kernel_rfl) (fun _ _ _ h => h) (Or.inl ⟨by rfl, ?_⟩) (by assumption) ?_
  rotate_left
  · intro w hSw
    go_simp
    try with_reducible rfl
  simp only [Act.put, List.getElem_toArray, List.getElem_cons_succ, List.getElem_cons_zero, List.setIfInBounds_toArray, List.set_cons_zero, List.set_cons_succ]
  refine wpAnyH_take (i := 8) (v := ?_) rfl (by kernel_rfl) (by kernel_rfl) (by kernel_rfl) (fun _ _ _ h => h) (Or.inl ⟨by rfl, ?_⟩) (by assumption) ?_
  rotate_left
  · intro w hSw
    go_simp
    try with_reducible rfl
  simp only [Act.put, List.getElem_toArray, List.getElem_cons_succ, List.getElem_cons_zero, List.setIfInBounds_toArray, List.set_cons_zero, List.set_cons_succ]
  refine wpAnyH_take (i := 9) (v := ?_) rfl (by kernel_rfl) (by kernel_rfl) (by kernel_rfl) (fun _ _ _ h => h) (Or.inl ⟨by rfl, ?_⟩) (by assumption) ?_
  rotate_left
  · intro w hSw
    go_simp
    try with_reducible rfl
  simp only [Act.put, List.getElem_toArray, List.getElem_cons_succ, List.getElem_cons_zero, List.setIfInBounds_toArray, List.set_cons_zero, List.set_cons_succ]
  refine wpAnyH_take (i := 10) (v := ?_) rfl (by kernel_rfl) (by kernel_rfl) (by kernel_rfl) (fun _ _ _ h => h) (Or.inl ⟨by rfl, ?_⟩) (by assumption) ?_
  rotate_left
  · intro w hSw
    go_simp
    try with_reducible rfl
  simp only [Act.put, List.getElem_toArray, List.getElem_cons_succ, List.getElem_cons_zero, List.setIfInBounds_toArray, List.set_cons_zero, List.set_cons_succ]
  refine wpAnyH_take (i := 11) (v := ?_) rfl (by kernel_rfl) (by kernel_rfl) (by kernel_rfl) (fun _ _ _ h => h) (Or.inl ⟨by rfl, ?_⟩) (by assumption) ?_
  rotate_left
  · intro w hSw
    go_simp
    try with_reducible rfl
  simp only [Act.put, List.getElem_toArray, List.getElem_cons_succ, List.getElem_cons_zero, List.setIfInBounds_toArray, List.set_cons_zero, List.set_cons_succ]
  refine wpAnyH_take (i := 12) (v := ?_) rfl (by kernel_rfl) (by kernel_rfl) (by kernel_rfl) (fun _ _ _ h => h) (Or.inl ⟨by rfl, ?_⟩) (by assumption) ?_
  rotate_left
  · intro w hSw
    go_simp
    try with_reducible rfl
  simp only [Act.put, List.getElem_toArray, List.getElem_cons_succ, List.getElem_cons_zero, List.setIfInBounds_toArray, List.set_cons_zero, List.set_cons_succ]
  refine wpAnyH_take (i := 13) (v := ?_) rfl (by kernel_rfl) (by kernel_rfl) (by kernel_rfl) (fun _ _ _ h => h) (Or.inl ⟨by rfl, ?_⟩) (by assumption) ?_
  rotate_left
  · intro w hSw
    go_simp
    try with_reducible rfl
  simp only [Act.put, List.getElem_toArray, List.getElem_cons_succ, List.getElem_cons_zero, List.setIfInBounds_toArray, List.set_cons_zero, List.set_cons_succ]
  refine wpAnyH_take (i := 14) (v := ?_) rfl (by kernel_rfl) (by kernel_rfl) (by kernel_rfl) (fun _ _ _ h => h) (Or.inl ⟨by rfl, ?_⟩) (by assumption) ?_
  rotate_left
  · intro w hSw
    go_simp
    try with_reducible rfl
  simp only [Act.put, List.getElem_toArray, List.getElem_cons_succ, List.getElem_cons_zero, List.setIfInBounds_toArray, List.set_cons_zero, List.set_cons_succ]
  refine wpAnyH_take (i := 15) (v := ?_) rfl (by kernel_rfl) (by kernel_rfl) (by kernel_rfl) (fun _ _ _ h => h) (Or.inl ⟨by rfl, ?_⟩) (by assumption) ?_
  rotate_left
  · intro w hSw
    go_simp
    try with_reducible rfl
  simp only [Act.put, List.getElem_toArray, List.getElem_cons_succ, List.getElem_cons_zero, List.setIfInBounds_toArray, List.set_cons_zero, List.set_cons_succ]
  refine wpAnyH_take (i := 16) (v := _) rfl (by kernel_rfl) (by kernel_rfl) (by kernel_rfl) (fun _ _ _ h => h) (yieldsIf_load_mid (by rfl) _ _ rfl _ _ rfl _ _ (fun w hSw => hSw.1) hu rfl hi1) (by assumption) ?_
  simp only [Act.put, List.getElem_toArray, List.getElem_cons_succ, List.getElem_cons_zero, List.setIfInBounds_toArray, List.set_cons_zero, List.set_cons_succ]
  refine wpAnyH_take (i := 17) (v := _) rfl (by kernel_rfl) (by kernel_rfl) (by kernel_rfl) (fun _ _ _ h => h) (yieldsIf_load_mid (by rfl) _ _ rfl _ _ rfl _ _ (fun w hSw => hSw.2.1) hu rfl hi2) (by assumption) ?_
  simp only [Act.put, List.getElem_toArray, List.getElem_cons_succ, List.getElem_cons_zero, List.setIfInBounds_toArray, List.set_cons_zero, List.set_cons_succ]
  refine wpAnyH_take (i := 19) (v := _) rfl (by kernel_rfl) (by kernel_rfl) (by kernel_rfl) (fun _ _ _ h => h) (yieldsIf_load_mid (by rfl) _ _ rfl _ _ rfl _ _ (fun w hSw => hSw.1) hu rfl hi1) (by assumption) ?_
  simp only [Act.put, List.getElem_toArray, List.getElem_cons_succ, List.getElem_cons_zero, List.setIfInBounds_toArray, List.set_cons_zero, List.set_cons_succ]
  refine wpAnyH_take (i := 20) (v := _) rfl (by kernel_rfl) (by kernel_rfl) (by kernel_rfl) (fun _ _ _ h => h) (yieldsIf_load_mid (by rfl) _ _ rfl _ _ rfl _ _ (fun w hSw => hSw.2.1) hu rfl hi2) (by assumption) ?_
  simp only [Act.put, List.getElem_toArray, List.getElem_cons_succ, List.getElem_cons_zero, List.setIfInBounds_toArray, List.set_cons_zero, List.set_cons_succ]
  refine wpAnyH_ready (rs := [18]) (by kernel_rfl) (by simp) ?_
  refine AllReadyH.cons rfl (fun K hK => ?_) AllReadyH.nil
  go_simp
  refine (EQ.out _ hHeld.2.2).mono ?_
  rintro e wa ⟨rfl, hb⟩
  try go_simp
  refine hK.out _ _ ?_ (fun hHeld' => ?_)
  · exact SX.out _ (hHeld.2.2.keep hb)
  clear hK K hHeld
  have hHeld := hHeld'
  clear hHeld'
  try simp only [Act.put, List.getElem_toArray, List.getElem_cons_succ, List.getElem_cons_zero, List.setIfInBounds_toArray, List.set_cons_zero, List.set_cons_succ]
  clear hb
  refine wpAnyH_ready (rs := [21]) (by kernel_rfl) (by simp) ?_
  refine AllReadyH.cons rfl (fun K hK => ?_) AllReadyH.nil
  go_simp
  refine (REQ.out _ hHeld.2.2).mono ?_
  rintro e wa ⟨rfl, hb⟩
  try go_simp
  refine hK.out _ _ ?_ (fun hHeld' => ?_)
  · exact SX.out _ (hHeld.2.2.keep hb)
  clear hK K hHeld
  have hHeld := hHeld'
  clear hHeld'
  try simp only [Act.put, List.getElem_toArray, List.getElem_cons_succ, List.getElem_cons_zero, List.setIfInBounds_toArray, List.set_cons_zero, List.set_cons_succ]
  clear hb
  refine wpAnyH_take (i := 22) (v := ?_) rfl (by kernel_rfl) (by kernel_rfl) (by kernel_rfl) (fun _ _ _ h => h) (Or.inl ⟨by rfl, ?_⟩) (by assumption) ?_
  rotate_left
  · intro w hSw
    go_simp
    try with_reducible rfl
  simp only [Act.put, List.getElem_toArray, List.getElem_cons_succ, List.getElem_cons_zero, List.setIfInBounds_toArray, List.set_cons_zero, List.set_cons_succ]
  refine wpAnyH_take (i := 23) (v := ?_) rfl (by kernel_rfl) (by kernel_rfl) (by kernel_rfl) (fun _ _ _ h => h) (Or.inl ⟨by rfl, ?_⟩) (by assumption) ?_
  rotate_left
  · intro w hSw
    go_simp
    try with_reducible rfl
  simp only [Act.put, List.getElem_toArray, List.getElem_cons_succ, List.getElem_cons_zero, List.setIfInBounds_toArray, List.set_cons_zero, List.set_cons_succ]
  refine wpAnyH_take (i := 24) (v := ?_) rfl (by kernel_rfl) (by kernel_rfl) (by kernel_rfl) (fun _ _ _ h => h) (Or.inl ⟨by rfl, ?_⟩) (by assumption) ?_
  rotate_left
  · intro w hSw
    go_simp
    try with_reducible rfl
  simp only [Act.put, List.getElem_toArray, List.getElem_cons_succ, List.getElem_cons_zero, List.setIfInBounds_toArray, List.set_cons_zero, List.set_cons_succ]
  refine wpAnyH_take (i := 25) (v := _) rfl (by kernel_rfl) (by kernel_rfl) (by kernel_rfl) (fun _ _ _ h => h) (yieldsIf_load_mid (by rfl) _ _ rfl _ _ rfl _ _ (fun w hSw => hSw.1) hu rfl hi1) (by assumption) ?_
  simp only [Act.put, List.getElem_toArray, List.getElem_cons_succ, List.getElem_cons_zero, List.setIfInBounds_toArray, List.set_cons_zero, List.set_cons_succ]
  refine wpAnyH_take (i := 26) (v := _) rfl (by kernel_rfl) (by kernel_rfl) (by kernel_rfl) (fun _ _ _ h => h) (yieldsIf_load_mid (by rfl) _ _ rfl _ _ rfl _ _ (fun w hSw => hSw.1) hu rfl hi1) (by assumption) ?_
  simp only [Act.put, List.getElem_toArray, List.getElem_cons_succ, List.getElem_cons_zero, List.setIfInBounds_toArray, List.set_cons_zero, List.set_cons_succ]
  refine wpAnyH_ready (rs := [27]) (by kernel_rfl) (by simp) ?_
  refine AllReadyH.cons rfl (fun K hK => ?_) AllReadyH.nil
  go_simp
  refine (EQ1.out _ hHeld.2.2).mono ?_
  rintro e wa ⟨rfl, hb⟩
  try go_simp
  refine hK.out _ _ ?_ (fun hHeld' => ?_)
  · exact SX.out _ (hHeld.2.2.keep hb)
  clear hK K hHeld
  have hHeld := hHeld'
  clear hHeld'
  try simp only [Act.put, List.getElem_toArray, List.getElem_cons_succ, List.getElem_cons_zero, List.setIfInBounds_toArray, List.set_cons_zero, List.set_cons_succ]
  clear hb
  refine wpAnyH_take (i := 28) (v := ?_) rfl (by kernel_rfl) (by kernel_rfl) (by kernel_rfl) (fun _ _ _ h => h) (Or.inl ⟨by rfl, ?_⟩) (by assumption) ?_
  rotate_left
  · intro w hSw
    go_simp
    try with_reducible rfl
  simp only [Act.put, List.getElem_toArray, List.getElem_cons_succ, List.getElem_cons_zero, List.setIfInBounds_toArray, List.set_cons_zero, List.set_cons_succ]
  refine wpAnyH_take (i := 29) (v := ?_) rfl (by kernel_rfl) (by kernel_rfl) (by kernel_rfl) (fun _ _ _ h => h) (Or.inl ⟨by rfl, ?_⟩) (by assumption) ?_
  rotate_left
  · intro w hSw
    go_simp
    try with_reducible rfl
  simp only [Act.put, List.getElem_toArray, List.getElem_cons_succ, List.getElem_cons_zero, List.setIfInBounds_toArray, List.set_cons_zero, List.set_cons_succ]
  refine wpAnyH_ready (rs := [30]) (by kernel_rfl) (by simp) ?_
  refine AllReadyH.cons rfl (fun K hK => ?_) AllReadyH.nil
  go_simp
  refine (WKS.out _ hHeld.2.2).mono ?_
  rintro e wa ⟨rfl, hb⟩
  try go_simp
  refine hK.out _ _ ?_ (fun hHeld' => ?_)
  · exact SX.out _ (hHeld.2.2.keep hb)
  clear hK K hHeld
  have hHeld := hHeld'
  clear hHeld'
  try simp only [Act.put, List.getElem_toArray, List.getElem_cons_succ, List.getElem_cons_zero, List.setIfInBounds_toArray, List.set_cons_zero, List.set_cons_succ]
  clear hb
  refine wpAnyH_take (i := 31) (v := ?_) rfl (by kernel_rfl) (by kernel_rfl) (by kernel_rfl) (fun _ _ _ h => h) (Or.inl ⟨by rfl, ?_⟩) (by assumption) ?_
  rotate_left
  · intro w hSw
    go_simp
    try with_reducible rfl
  simp only [Act.put, List.getElem_toArray, List.getElem_cons_succ, List.getElem_cons_zero, List.setIfInBounds_toArray, List.set_cons_zero, List.set_cons_succ]
  refine wpAnyH_take (i := 32) (v := ?_) rfl (by kernel_rfl) (by kernel_rfl) (by kernel_rfl) (fun _ _ _ h => h) (Or.inl ⟨by rfl, ?_⟩) (by assumption) ?_
  rotate_left
  · intro w hSw
    go_simp
    try with_reducible rfl
  simp only [Act.put, List.getElem_toArray, List.getElem_cons_succ, List.getElem_cons_zero, List.setIfInBounds_toArray, List.set_cons_zero, List.set_cons_succ]
  refine wpAnyH_done (by kernel_rfl) ?_ _
  have HF := Lib.hid hHeld.2.2.bl
  clear hHeld
  go_wp2_with fail
  go_ret
  exact ⟨rfl, HF.out⟩
end Go.Proofs.YtojodekmmkemgaaGreatDoor
