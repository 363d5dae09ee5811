/- CmdsBack returns true at every input. Conditions: as the statement's own. -/
import Derived.Test.YtgjnmfmbheejoaaGreatDoorCmUse
import Derived.Test.YtgjnmfmbheejoaaGreatDoorCmMd
import Derived.Deep.MidRow
import Derived.Test.YtgjnmfmbheejoaaGreatDoorLCmAns
namespace Go.Proofs.YtgjnmfmbheejoaaGreatDoor
open Go.RowKit Go.Shelf

theorem info8b (x : Nv) : (Tryz.prog.info? 62).map (·.size) = some (nA x).size := by kernel_rfl
/-- A command's cells as a list. -/
def cL (c : Cv) (A : Option Addr) (n m : Nat) : List Value := (cA c A n m).toList
theorem cL_arr (c : Cv) (A : Option Addr) (n m : Nat) : (cL c A n m).toArray = cA c A n m := by simp [cL]
theorem cL_len (c : Cv) (A : Option Addr) (n m : Nat) : (cL c A n m).length = 24 := rfl
theorem cL_one (c : Cv) (A : Option Addr) (n m : Nat) : ∀ v ∈ cL c A n m, v.oneCell' = true := by
  intro v hv
  have h := all24 c A n m
  rw [Array.all_eq_true_iff_forall_mem] at h
  exact h v (by simpa [cL] using hv)
theorem cL_info (c : Cv) (A : Option Addr) (n m : Nat) : (Tryz.prog.info? 36).map (·.size) = some (cL c A n m).length := by kernel_rfl
theorem cL_at {W : World} {P : Nat} {c : Cv} {A : Option Addr} {n m : Nat} (h : CmdAt W P c A n m) : W.rangeAt P 0 (cL c A n m) := by
  intro i v hi
  rw [Nat.zero_add, h.w.cell]
  unfold cL at hi
  rw [Array.getElem?_toList] at hi
  exact hi
/-- What CmdsBack holds in memory: the command, its bytes, and what they are read as. -/
structure Bak (w : World) (P Q : Nat) (c : Cv) (A : Option Addr) (n m : Nat) (A2 : Option Addr) (n2 : Nat) (A3 : Option Addr) (n3 m3 : Nat) (W : World) : Prop where
  bl : Below w.heap.size w W
  cp : CmdAt W P c A n m
  bs : SlB W A2 n2 (bytesC c)
  cq : CmdAt W Q c A3 n3 m3
theorem Bak.keep {w W W' : World} {P Q : Nat} {c : Cv} {A : Option Addr} {n m : Nat} {A2 : Option Addr} {n2 : Nat} {A3 : Option Addr} {n3 m3 : Nat} (h : Bak w P Q c A n m A2 n2 A3 n3 m3 W) (hb : Below W.heap.size W W') : Bak w P Q c A n m A2 n2 A3 n3 m3 W' :=
  ⟨h.bl.trans (hb.mono h.bl.size), h.cp.keep hb, h.bs.keep hb, h.cq.keep hb⟩
set_option maxRecDepth 100000 in
set_option maxHeartbeats 16000000 in
theorem cmdsBack_any (x : Nv) (hz : NvZ x) (Ab : Option Addr) (nb cb : Nat) (l : List UInt8) (w : World) (hE : DfE w) (hK : KndE w) (hb : SlB w Ab nb l) (hnb : nb ≤ 9223372036854775807) :
    Calls Tryz.prog 6 #[.agg (nA x), .slice Ab nb cb] w fun e w' => e = .returned (.bool true) ∧ Below w.heap.size w w' := by
  have mixed : Tryz.prog.follows Departure.mixedOrders = true := by kernel_rfl
  have HE := Lib.hid hE
  obtain ⟨c, hc⟩ : ∃ c, c = madeC x := ⟨_, rfl⟩
  have hok : cmdOk c := by rw [hc]; exact madeC_ok x hz.data
  have hlen : (bytesC c).length ≤ 7000 := bytesC_short hok (by rw [hc]; exact madeC_data x)
  have HOK := Lib.hid hok
  have HLEN := Lib.hid hlen
  have MD := Lib.hid (fun W (h : Below w.heap.size w W) => made_any x hz W (hK.keep h))
  unfold MadeR at MD
  rw [← hc] at MD
  have WK := Lib.hid (fun (W : World) (hb : Below w.heap.size w W) => works_any W (hE.keep hb))
  have HSB := Lib.hid (fun (W : World) (h0 : Below w.heap.size w W) => hb.keep h0)
  have HNB := Lib.hid hnb
  have I1 := Lib.hid (And.intro ((Below.refl w.heap.size w).alloc (Nat.le_refl _) (.cells (nA x) 62)) (Whole.new w 62 (nA x)))
  have ENC := Lib.hid (fun (A : Option Addr) (n m : Nat) (V : World) (hV : DfE V) (hi : CmdIn V c A n m) => (cencode_any c A n m V hV hi).mono (R' := fun e w' => (∃ A n m, e = .returned (.tuple #[.slice A n m, .int .i64 0]) ∧ SlB w' A n (bytesC c) ∧ n ≤ m) ∧ Below V.heap.size V w') (fun e w' ⟨⟨A, n, m, he, hs, hm⟩, hb⟩ => by
    have hv := encBC_yes hok (by omega)
    rw [hv.2] at he
    rw [hv.1] at hs
    exact ⟨⟨A, n, m, he, hs, hm⟩, hb⟩))
  have DEC := Lib.hid (fun (A : Option Addr) (n m : Nat) (V : World) (hV : DfE V) (hs : SlB V A n (bytesC c)) => (cdecode_any A n m _ V hV hs (by have := hs.1; omega)).mono (R' := fun e w' => (∃ A n m, e = .returned (.tuple #[.agg (cA c A n m), .int .i64 0]) ∧ CmdIn w' c A n m) ∧ Below V.heap.size V w') (fun e w' ⟨⟨c', A, n, m, er, he, hr, hi⟩, hb⟩ => by
    obtain ⟨rfl, rfl⟩ := CDecR.yes hok (by omega) hr
    exact ⟨⟨A, n, m, he, hi⟩, hb⟩))
  have MORE := Lib.hid (fun (A : Option Addr) (n m : Nat) (V : World) (hV : DfE V) (hs : SlB V A n (bytesC c ++ [0])) => (cdecode_any A n m _ V hV hs (by have := hs.1; rw [List.length_append] at this; simp at this; omega)).mono (R' := fun e w' => (∃ A n m, e = .returned (.tuple #[.agg (cA (zeroC 0) A n m), .int .i64 10]) ∧ CmdIn w' (zeroC 0) A n m) ∧ Below V.heap.size V w') (fun e w' ⟨⟨c', A, n, m, er, he, hr, hi⟩, hb⟩ => by
    obtain ⟨rfl, rfl⟩ := CDecR.no hr (bytes_more hok)
    exact ⟨⟨A, n, m, he, hi⟩, hb⟩))
  have LESS := Lib.hid (fun (A : Option Addr) (n m : Nat) (V : World) (hV : DfE V) (hl1 : 1 < (bytesC c).length) (hs : SlB V A n (bytesC c).dropLast) => (cdecode_any A n m _ V hV hs (by have := hs.1; rw [List.length_dropLast] at this; omega)).mono (R' := fun e w' => (∃ A n m, e = .returned (.tuple #[.agg (cA (zeroC 0) A n m), .int .i64 10]) ∧ CmdIn w' (zeroC 0) A n m) ∧ Below V.heap.size V w') (fun e w' ⟨⟨c', A, n, m, er, he, hr, hi⟩, hb⟩ => by
    obtain ⟨rfl, rfl⟩ := CDecR.no hr (bytes_less hok hl1)
    exact ⟨⟨A, n, m, he, hi⟩, hb⟩))
  have EQZ := fun (A : Option Addr) (n m : Nat) (V : World) (hi : CmdIn V (zeroC 0) A n m) => (equal_any (zeroC 0) (zeroC 0) A none n 0 m 0 V hi (cmdIn_zero V 0 in64_0)).mono (R' := fun e w' => e = .returned (.bool true) ∧ Below V.heap.size V w') (fun e w' hh => by
    unfold BoolR at hh
    obtain ⟨⟨q, he, hq⟩, hw⟩ := hh
    rw [he, hq.2 rfl]
    exact ⟨rfl, hw⟩)
  rw [zero24] at EQZ
  have EQZ := Lib.hid EQZ
  clear hz hE hK hc hok hlen hb hnb
  go_enter Tryz.func6, Tryz.ntmps6
  go_upto_region 1 with fail
  generalize w.alloc (.cells (nA x) 62) = w1 at I1 ⊢
  have MD := Lib.hid (MD.out w1 I1.out.1)
  go_upto_region 2 with (first
    | (refine wpList_load_row (by rfl) 62 (.tmp 2) (by rfl) _ (by rfl) 62 (nA x) (0, 0) _ I1.out.2 Tryz.underlying62 (by rfl) (info8b x) ?_)
    | (go_at_call 36; refine MD.out.mono ?_; rintro e w2 ⟨⟨A, n, m, rfl, hi⟩, hb⟩; have ba := (Below.refl w2.heap.size w2).alloc (Nat.le_refl _) (.cells (cA c A n m) 36); have b2 := I1.out.1.trans (hb.mono I1.out.1.size); have I2 := Lib.hid (And.intro (b2.trans (ba.mono b2.size)) (CmdAt.new hi)); clear hi hb ba b2 MD)
    | (refine wpList_store_row (by rfl) 36 (.tmp 5) (.tmp 19) (by rfl) _ (cA c A n m) (by rfl) (by rfl) 36 _ (heap_alloc_new _ _) (info24 _ _ _ _) (by rfl) (all24 _ _ _ _) ?_; rw [World.setRow_alloc_new]))
  clear I1
  generalize w2.alloc (.cells (cA c A n m) 36) = w3 at I2 ⊢
  generalize w2.heap.size = P at I2 ⊢
  have ENC1 := Lib.hid (ENC.out A n m w3 (HE.out.keep I2.out.1) I2.out.2.i)
  go_upto_region 3 with (first
    | (refine wpList_load_row (by rfl) 36 (.tmp 5) (by rfl) _ (by rfl) 36 (cA c A n m) (0, 0) _ I2.out.2.w Tryz.underlying36 (by rfl) (info24 c A n m) ?_)
    | (go_at_call 26; refine ENC1.out.mono ?_; rintro e w4 ⟨⟨A2, n2, m2, rfl, hs, hm2⟩, hb⟩; have I4 := Lib.hid (And.intro (I2.out.1.trans (hb.mono I2.out.1.size)) (And.intro (I2.out.2.keep hb) hs)); have HM2 := Lib.hid hm2; clear hs hb hm2 ENC1))
  clear I2
  have DEC1 := Lib.hid (DEC.out A2 n2 m2 w4 (HE.out.keep I4.out.1) I4.out.2.2)
  go_upto_region 4 with (first
    | (go_at_call 14; refine DEC1.out.mono ?_; rintro e w5 ⟨⟨A3, n3, m3, rfl, hi⟩, hb⟩; have ba := (Below.refl w5.heap.size w5).alloc (Nat.le_refl _) (.cells (cA c A3 n3 m3) 36); have b5 := I4.out.1.trans (hb.mono I4.out.1.size); have I6 : Hid (Bak w P w5.heap.size c A n m A2 n2 A3 n3 m3 (w5.alloc (.cells (cA c A3 n3 m3) 36))) := Lib.hid ⟨b5.trans (ba.mono b5.size), (I4.out.2.1.keep hb).keep ba, (I4.out.2.2.keep hb).keep ba, CmdAt.new hi⟩; clear hi hb ba b5 DEC1)
    | (refine wpList_store_row (by rfl) 36 (.tmp 8) (.tmp 28) (by rfl) _ (cA c A3 n3 m3) (by rfl) (by rfl) 36 _ (heap_alloc_new _ _) (info24 _ _ _ _) (by rfl) (all24 _ _ _ _) ?_; rw [World.setRow_alloc_new]))
  clear I4 DEC
  generalize w5.alloc (.cells (cA c A3 n3 m3) 36) = w6 at I6 ⊢
  generalize w5.heap.size = Q at I6 ⊢
  go_cut [69] from 30 to 69 (fun s69 wx => s69 = .bool false ∧ Hid (Bak w P Q c A n m A2 n2 A3 n3 m3 wx))
  case first =>
    obtain ⟨L1, hL1⟩ : ∃ L, L = cL c A n m := ⟨_, rfl⟩
    obtain ⟨L2, hL2⟩ : ∃ L, L = cL c A3 n3 m3 := ⟨_, rfl⟩
    have hu := Tryz.underlying36
    have hi1 : (Tryz.prog.info? 36).map (·.size) = some L1.length := by rw [hL1]; exact cL_info c A n m
    have hi2 : (Tryz.prog.info? 36).map (·.size) = some L2.length := by rw [hL2]; exact cL_info c A3 n3 m3
    have hl1 : L1.length = 24 := by rw [hL1]; rfl
    have hl2 : L2.length = 24 := by rw [hL2]; rfl
    have ho1 : ∀ v ∈ L1, v.oneCell' = true := by rw [hL1]; exact cL_one c A n m
    have ho2 : ∀ v ∈ L2, v.oneCell' = true := by rw [hL2]; exact cL_one c A3 n3 m3
    have e1 : L1.toArray = cA c A n m := by rw [hL1]; exact cL_arr c A n m
    have e2 : L2.toArray = cA c A3 n3 m3 := by rw [hL2]; exact cL_arr c A3 n3 m3
    have CK := fun (W : World) (h : Bak w P Q c A n m A2 n2 A3 n3 m3 W) => ccheck_any c A n m W (HE.out.keep h.bl) h.cp.i
    rw [ckC_yes HOK.out, ← e1] at CK
    have EQ := fun (W : World) (h : Bak w P Q c A n m A2 n2 A3 n3 m3 W) => (equal_any c c A3 A n3 n m3 m W h.cq.i h.cp.i).mono (R' := fun e w' => e = .returned (.bool true) ∧ Below W.heap.size W w') (fun e w' hh => by
      unfold BoolR at hh
      obtain ⟨⟨q, he, hq⟩, hw⟩ := hh
      rw [he, hq.2 rfl]
      exact ⟨rfl, hw⟩)
    rw [← e1, ← e2] at EQ
    have CK := Lib.hid CK
    have EQ := Lib.hid EQ
    by_cases hk : c.k = 0
    · have hn2 : n2 = 0 := by
        have := I6.out.bs.1
        rw [bytesC_zero c hk] at this
        exact this.symm
      subst hn2
      have ek : (c.k == 0) = true := by rw [hk]; rfl
      have SX : ∀ W, Bak w P Q c A n m A2 0 A3 n3 m3 W → W.rangeAt P 0 L1 ∧ W.rangeAt Q 0 L2 ∧ W.cell? ⟨P, 0, none⟩ = some (.int .i64 c.k) ∧ Bak w P Q c A n m A2 0 A3 n3 m3 W := fun W h => ⟨by rw [hL1]; exact cL_at h.cp, by rw [hL2]; exact cL_at h.cq, h.cp.w.cell 0, h⟩
      have SX := Lib.hid SX
      have SA := Lib.hid (SX.out w6.drew (I6.out.keep (Below.refl _ _).drew))
      clear hL1 hL2 e1 e2 I6 hk
      refine wp_region_held_drew (S := fun wx => wx.rangeAt P 0 L1 ∧ wx.rangeAt Q 0 L2 ∧ wx.cell? ⟨P, 0, none⟩ = some (.int .i64 c.k) ∧ Bak w P Q c A n m A2 0 A3 n3 m3 wx) (by kernel_rfl) SA.out (fun hHeld => ?_)
      clear SA
      refine wpAnyH_take (i := 0) (v := _) rfl (by kernel_rfl) (by kernel_rfl) (by kernel_rfl) (fun _ _ _ h => h) (yieldsIf_load_mid (by rfl) _ _ rfl _ _ rfl _ _ (fun w hSw => hSw.1) hu rfl hi1) (by assumption) ?_
      simp only [Act.put, List.getElem_toArray, List.getElem_cons_zero, List.setIfInBounds_toArray, List.set_cons_zero, List.set_cons_succ]
      refine wpAnyH_ready (rs := [1]) (by kernel_rfl) (by simp) ?_
      refine AllReadyH.cons rfl (fun K hK => ?_) AllReadyH.nil
      go_simp
      refine (CK.out _ hHeld.2.2.2).mono ?_
      rintro e wa ⟨rfl, hb⟩
      try go_simp
      refine hK.out _ _ ?_ (fun hHeld' => ?_)
      · exact SX.out _ (hHeld.2.2.2.keep hb)
      clear hK K hHeld
      have hHeld := hHeld'
      clear hHeld'
      try simp only [Act.put, List.getElem_toArray, List.getElem_cons_succ, List.getElem_cons_zero, List.setIfInBounds_toArray, List.set_cons_zero, List.set_cons_succ]
      clear hb
      refine wpAnyH_take (i := 2) (v := ?_) rfl (by kernel_rfl) (by kernel_rfl) (by kernel_rfl) (fun _ _ _ h => h) (Or.inl ⟨by rfl, ?_⟩) (by assumption) ?_
      rotate_left
      · intro w hSw
        go_simp
        try with_reducible rfl
      simp only [Act.put, List.getElem_toArray, List.getElem_cons_succ, List.getElem_cons_zero, List.setIfInBounds_toArray, List.set_cons_zero, List.set_cons_succ]
      refine wpAnyH_take (i := 3) (v := ?_) rfl (by kernel_rfl) (by kernel_rfl) (by kernel_rfl) (fun _ _ _ h => h) (Or.inl ⟨by rfl, ?_⟩) (by assumption) ?_
      rotate_left
      · intro w hSw
        go_simp
        try with_reducible rfl
      simp only [Act.put, List.getElem_toArray, List.getElem_cons_succ, List.getElem_cons_zero, List.setIfInBounds_toArray, List.set_cons_zero, List.set_cons_succ]
      refine wpAnyH_take (i := 4) (v := ?_) rfl (by kernel_rfl) (by kernel_rfl) (by kernel_rfl) (fun _ _ _ h => h) (Or.inl ⟨by rfl, ?_⟩) (by assumption) ?_
      rotate_left
      · intro w hSw
        go_simp
        try with_reducible rfl
      simp only [Act.put, List.getElem_toArray, List.getElem_cons_succ, List.getElem_cons_zero, List.setIfInBounds_toArray, List.set_cons_zero, List.set_cons_succ]
      refine wpAnyH_take (i := 5) (v := ?_) rfl (by kernel_rfl) (by kernel_rfl) (by kernel_rfl) (fun _ _ _ h => h) (Or.inl ⟨by rfl, ?_⟩) (by assumption) ?_
      rotate_left
      · intro w hSw
        go_simp
        try with_reducible rfl
      simp only [Act.put, List.getElem_toArray, List.getElem_cons_succ, List.getElem_cons_zero, List.setIfInBounds_toArray, List.set_cons_zero, List.set_cons_succ]
      refine wpAnyH_take (i := 6) (v := ?_) rfl (by kernel_rfl) (by kernel_rfl) (by kernel_rfl) (fun _ _ _ h => h) (Or.inl ⟨by rfl, ?_⟩) (by assumption) ?_
      rotate_left
      · intro w hSw
        go_simp
        try with_reducible rfl
      simp only [Act.put, List.getElem_toArray, List.getElem_cons_succ, List.getElem_cons_zero, List.setIfInBounds_toArray, List.set_cons_zero, List.set_cons_succ]
      refine wpAnyH_take (i := 7) (v := ?_) rfl (by kernel_rfl) (by kernel_rfl) (by kernel_rfl) (fun _ _ _ h => h) (Or.inl ⟨by rfl, ?_⟩) (by assumption) ?_
      rotate_left
      · intro w hSw
        go_simp
        try with_reducible rfl
      simp only [Act.put, List.getElem_toArray, List.getElem_cons_succ, List.getElem_cons_zero, List.setIfInBounds_toArray, List.set_cons_zero, List.set_cons_succ]
      refine wpAnyH_take (i := 8) (v := ?_) rfl (by kernel_rfl) (by kernel_rfl) (by kernel_rfl) (fun _ _ _ h => h) (Or.inl ⟨by rfl, ?_⟩) (by assumption) ?_
      rotate_left
      · intro w hSw
        go_simp
        try with_reducible rfl
      simp only [Act.put, List.getElem_toArray, List.getElem_cons_succ, List.getElem_cons_zero, List.setIfInBounds_toArray, List.set_cons_zero, List.set_cons_succ]
      refine wpAnyH_take (i := 9) (v := ?_) rfl (by kernel_rfl) (by kernel_rfl) (by kernel_rfl) (fun _ _ _ h => h) (Or.inl ⟨by rfl, ?_⟩) (by assumption) ?_
      rotate_left
      · intro w hSw
        go_simp
        try with_reducible rfl
      simp only [Act.put, List.getElem_toArray, List.getElem_cons_succ, List.getElem_cons_zero, List.setIfInBounds_toArray, List.set_cons_zero, List.set_cons_succ]
      refine wpAnyH_take (i := 10) (v := ?_) rfl (by kernel_rfl) (by kernel_rfl) (by kernel_rfl) (fun _ _ _ h => h) (Or.inl ⟨by rfl, ?_⟩) (by assumption) ?_
      rotate_left
      · intro w hSw
        go_simp
        try with_reducible rfl
      simp only [Act.put, List.getElem_toArray, List.getElem_cons_succ, List.getElem_cons_zero, List.setIfInBounds_toArray, List.set_cons_zero, List.set_cons_succ]
      refine wpAnyH_take (i := 11) (v := ?_) rfl (by kernel_rfl) (by kernel_rfl) (by kernel_rfl) (fun _ _ _ h => h) (Or.inl ⟨by rfl, ?_⟩) (by assumption) ?_
      rotate_left
      · intro w hSw
        go_simp
        try with_reducible rfl
      simp only [Act.put, List.getElem_toArray, List.getElem_cons_succ, List.getElem_cons_zero, List.setIfInBounds_toArray, List.set_cons_zero, List.set_cons_succ]
      refine wpAnyH_take (i := 12) (v := _) rfl (by kernel_rfl) (by kernel_rfl) (by kernel_rfl) (fun _ _ _ h => h) (yieldsIf_load_mid (by rfl) _ _ rfl _ _ rfl _ _ (fun w hSw => hSw.2.1) hu rfl hi2) (by assumption) ?_
      simp only [Act.put, List.getElem_toArray, List.getElem_cons_succ, List.getElem_cons_zero, List.setIfInBounds_toArray, List.set_cons_zero, List.set_cons_succ]
      refine wpAnyH_take (i := 13) (v := _) rfl (by kernel_rfl) (by kernel_rfl) (by kernel_rfl) (fun _ _ _ h => h) (yieldsIf_load_mid (by rfl) _ _ rfl _ _ rfl _ _ (fun w hSw => hSw.1) hu rfl hi1) (by assumption) ?_
      simp only [Act.put, List.getElem_toArray, List.getElem_cons_succ, List.getElem_cons_zero, List.setIfInBounds_toArray, List.set_cons_zero, List.set_cons_succ]
      refine wpAnyH_ready (rs := [14]) (by kernel_rfl) (by simp) ?_
      refine AllReadyH.cons rfl (fun K hK => ?_) AllReadyH.nil
      go_simp
      refine (EQ.out _ hHeld.2.2.2).mono ?_
      rintro e wb ⟨rfl, hb⟩
      try go_simp
      refine hK.out _ _ ?_ (fun hHeld' => ?_)
      · exact SX.out _ (hHeld.2.2.2.keep hb)
      clear hK K hHeld
      have hHeld := hHeld'
      clear hHeld'
      try simp only [Act.put, List.getElem_toArray, List.getElem_cons_succ, List.getElem_cons_zero, List.setIfInBounds_toArray, List.set_cons_zero, List.set_cons_succ]
      clear hb
      refine wpAnyH_take (i := 15) (v := ?_) rfl (by kernel_rfl) (by kernel_rfl) (by kernel_rfl) (fun _ _ _ h => h) (Or.inl ⟨by rfl, ?_⟩) (by assumption) ?_
      rotate_left
      · intro w hSw
        go_simp
        try with_reducible rfl
      simp only [Act.put, List.getElem_toArray, List.getElem_cons_succ, List.getElem_cons_zero, List.setIfInBounds_toArray, List.set_cons_zero, List.set_cons_succ]
      refine wpAnyH_take (i := 16) (v := ?_) rfl (by kernel_rfl) (by kernel_rfl) (by kernel_rfl) (fun _ _ _ h => h) (Or.inl ⟨by rfl, ?_⟩) (by assumption) ?_
      rotate_left
      · intro w hSw
        go_simp
        try with_reducible rfl
      simp only [Act.put, List.getElem_toArray, List.getElem_cons_succ, List.getElem_cons_zero, List.setIfInBounds_toArray, List.set_cons_zero, List.set_cons_succ]
      refine wpAnyH_take (i := 17) (v := ?_) rfl (by kernel_rfl) (by kernel_rfl) (by kernel_rfl) (fun _ _ _ h => h) (Or.inl ⟨by rfl, ?_⟩) (by assumption) ?_
      rotate_left
      · intro w hSw
        go_simp
        try with_reducible rfl
      simp only [Act.put, List.getElem_toArray, List.getElem_cons_succ, List.getElem_cons_zero, List.setIfInBounds_toArray, List.set_cons_zero, List.set_cons_succ]
      refine wpAnyH_take (i := 18) (v := ?_) rfl (by kernel_rfl) (by kernel_rfl) (by kernel_rfl) (fun _ _ _ h => h) (Or.inl ⟨by rfl, ?_⟩) (by assumption) ?_
      rotate_left
      · intro w hSw
        go_simp
        try with_reducible rfl
      simp only [Act.put, List.getElem_toArray, List.getElem_cons_succ, List.getElem_cons_zero, List.setIfInBounds_toArray, List.set_cons_zero, List.set_cons_succ]
      refine wpAnyH_take (i := 19) (v := ?_) rfl (by kernel_rfl) (by kernel_rfl) (by kernel_rfl) (fun _ _ _ h => h) (Or.inl ⟨by rfl, ?_⟩) (by assumption) ?_
      rotate_left
      · intro w hSw
        go_simp
        try with_reducible rfl
      simp only [Act.put, List.getElem_toArray, List.getElem_cons_succ, List.getElem_cons_zero, List.setIfInBounds_toArray, List.set_cons_zero, List.set_cons_succ]
      refine wpAnyH_take (i := 20) (v := ?_) rfl (by kernel_rfl) (by kernel_rfl) (by kernel_rfl) (fun _ _ _ h => h) (Or.inl ⟨by rfl, ?_⟩) (by assumption) ?_
      rotate_left
      · intro w hSw
        go_simp
        try with_reducible rfl
      simp only [Act.put, List.getElem_toArray, List.getElem_cons_succ, List.getElem_cons_zero, List.setIfInBounds_toArray, List.set_cons_zero, List.set_cons_succ]
      refine wpAnyH_take (i := 21) (v := ?_) rfl (by kernel_rfl) (by kernel_rfl) (by kernel_rfl) (fun _ _ _ h => h) (Or.inl ⟨by rfl, ?_⟩) (by assumption) ?_
      rotate_left
      · intro w hSw
        go_simp
        try with_reducible rfl
      simp only [Act.put, List.getElem_toArray, List.getElem_cons_succ, List.getElem_cons_zero, List.setIfInBounds_toArray, List.set_cons_zero, List.set_cons_succ]
      refine wpAnyH_take (i := 22) (v := ?_) rfl (by kernel_rfl) (by kernel_rfl) (by kernel_rfl) (fun _ _ _ h => h) (Or.inl ⟨by rfl, ?_⟩) (by assumption) ?_
      rotate_left
      · intro w hSw
        go_simp
        try with_reducible rfl
      simp only [Act.put, List.getElem_toArray, List.getElem_cons_succ, List.getElem_cons_zero, List.setIfInBounds_toArray, List.set_cons_zero, List.set_cons_succ]
      refine wpAnyH_take (i := 23) (v := ?_) rfl (by kernel_rfl) (by kernel_rfl) (by kernel_rfl) (fun _ _ _ h => h) (Or.inl ⟨by rfl, ?_⟩) (by assumption) ?_
      rotate_left
      · intro w hSw
        go_simp
        try with_reducible rfl
      simp only [Act.put, List.getElem_toArray, List.getElem_cons_succ, List.getElem_cons_zero, List.setIfInBounds_toArray, List.set_cons_zero, List.set_cons_succ]
      refine wpAnyH_take (i := 24) (v := ?_) rfl (by kernel_rfl) (by kernel_rfl) (by kernel_rfl) (fun _ _ _ h => h) (Or.inl ⟨by rfl, ?_⟩) (by assumption) ?_
      rotate_left
      · intro w hSw
        go_simp
        try with_reducible rfl
      simp only [Act.put, List.getElem_toArray, List.getElem_cons_succ, List.getElem_cons_zero, List.setIfInBounds_toArray, List.set_cons_zero, List.set_cons_succ]
      refine wpAnyH_take (i := 25) (v := ?_) rfl (by kernel_rfl) (by kernel_rfl) (by kernel_rfl) (fun _ _ _ h => h) (Or.inl ⟨by rfl, ?_⟩) (by assumption) ?_
      rotate_left
      · intro w hSw
        go_simp
        try with_reducible rfl
      simp only [Act.put, List.getElem_toArray, List.getElem_cons_succ, List.getElem_cons_zero, List.setIfInBounds_toArray, List.set_cons_zero, List.set_cons_succ]
      refine wpAnyH_take (i := 26) (v := ?_) rfl (by kernel_rfl) (by kernel_rfl) (by kernel_rfl) (fun _ _ _ h => h) (Or.inl ⟨by rfl, ?_⟩) (by assumption) ?_
      rotate_left
      · intro w hSw
        go_simp
        try with_reducible rfl
      simp only [Act.put, List.getElem_toArray, List.getElem_cons_succ, List.getElem_cons_zero, List.setIfInBounds_toArray, List.set_cons_zero, List.set_cons_succ]
      refine wpAnyH_take (i := 27) (v := ?_) rfl (by kernel_rfl) (by kernel_rfl) (by kernel_rfl) (fun _ _ _ h => h) (Or.inl ⟨by rfl, ?_⟩) (by assumption) ?_
      rotate_left
      · intro w hSw
        go_simp
        try with_reducible rfl
      simp only [Act.put, List.getElem_toArray, List.getElem_cons_succ, List.getElem_cons_zero, List.setIfInBounds_toArray, List.set_cons_zero, List.set_cons_succ]
      refine wpAnyH_take (i := 28) (v := ?_) rfl (by kernel_rfl) (by kernel_rfl) (by kernel_rfl) (fun _ _ _ h => h) (Or.inl ⟨by rfl, ?_⟩) (by assumption) ?_
      rotate_left
      · intro w hSw
        go_simp
        try with_reducible rfl
      simp only [Act.put, List.getElem_toArray, List.getElem_cons_succ, List.getElem_cons_zero, List.setIfInBounds_toArray, List.set_cons_zero, List.set_cons_succ]
      refine wpAnyH_take (i := 29) (v := ?_) rfl (by kernel_rfl) (by kernel_rfl) (by kernel_rfl) (fun _ _ _ h => h) (Or.inl ⟨by rfl, ?_⟩) (by assumption) ?_
      rotate_left
      · intro w hSw
        go_simp
        try with_reducible rfl
      simp only [Act.put, List.getElem_toArray, List.getElem_cons_succ, List.getElem_cons_zero, List.setIfInBounds_toArray, List.set_cons_zero, List.set_cons_succ]
      refine wpAnyH_take (i := 30) (v := ?_) rfl (by kernel_rfl) (by kernel_rfl) (by kernel_rfl) (fun _ _ _ h => h) (Or.inl ⟨by rfl, ?_⟩) (by assumption) ?_
      rotate_left
      · intro w hSw
        go_simp
        try with_reducible rfl
      simp only [Act.put, List.getElem_toArray, List.getElem_cons_succ, List.getElem_cons_zero, List.setIfInBounds_toArray, List.set_cons_zero, List.set_cons_succ]
      refine wpAnyH_take (i := 31) (v := undef) rfl (by kernel_rfl) (by kernel_rfl) (by kernel_rfl) (fun _ _ _ h => h) (Or.inr ⟨by rfl, rfl⟩) (by assumption) ?_
      simp only [Act.put, List.getElem_toArray, List.getElem_cons_succ, List.getElem_cons_zero, List.setIfInBounds_toArray, List.set_cons_zero, List.set_cons_succ]
      refine wpAnyH_take (i := 32) (v := undef) rfl (by kernel_rfl) (by kernel_rfl) (by kernel_rfl) (fun _ _ _ h => h) (Or.inr ⟨by rfl, rfl⟩) (by assumption) ?_
      simp only [Act.put, List.getElem_toArray, List.getElem_cons_succ, List.getElem_cons_zero, List.setIfInBounds_toArray, List.set_cons_zero, List.set_cons_succ]
      refine wpAnyH_take (i := 33) (v := undef) rfl (by kernel_rfl) (by kernel_rfl) (by kernel_rfl) (fun _ _ _ h => h) (Or.inr ⟨by rfl, rfl⟩) (by assumption) ?_
      simp only [Act.put, List.getElem_toArray, List.getElem_cons_succ, List.getElem_cons_zero, List.setIfInBounds_toArray, List.set_cons_zero, List.set_cons_succ]
      refine wpAnyH_take (i := 34) (v := undef) rfl (by kernel_rfl) (by kernel_rfl) (by kernel_rfl) (fun _ _ _ h => h) (Or.inr ⟨by rfl, rfl⟩) (by assumption) ?_
      simp only [Act.put, List.getElem_toArray, List.getElem_cons_succ, List.getElem_cons_zero, List.setIfInBounds_toArray, List.set_cons_zero, List.set_cons_succ]
      refine wpAnyH_take (i := 35) (v := undef) rfl (by kernel_rfl) (by kernel_rfl) (by kernel_rfl) (fun _ _ _ h => h) (Or.inr ⟨by rfl, rfl⟩) (by assumption) ?_
      simp only [Act.put, List.getElem_toArray, List.getElem_cons_succ, List.getElem_cons_zero, List.setIfInBounds_toArray, List.set_cons_zero, List.set_cons_succ]
      refine wpAnyH_take (i := 36) (v := undef) rfl (by kernel_rfl) (by kernel_rfl) (by kernel_rfl) (fun _ _ _ h => h) (Or.inr ⟨by rfl, rfl⟩) (by assumption) ?_
      simp only [Act.put, List.getElem_toArray, List.getElem_cons_succ, List.getElem_cons_zero, List.setIfInBounds_toArray, List.set_cons_zero, List.set_cons_succ]
      refine wpAnyH_take (i := 37) (v := undef) rfl (by kernel_rfl) (by kernel_rfl) (by kernel_rfl) (fun _ _ _ h => h) (Or.inr ⟨by rfl, rfl⟩) (by assumption) ?_
      simp only [Act.put, List.getElem_toArray, List.getElem_cons_succ, List.getElem_cons_zero, List.setIfInBounds_toArray, List.set_cons_zero, List.set_cons_succ]
      refine wpAnyH_take (i := 38) (v := ?_) rfl (by kernel_rfl) (by kernel_rfl) (by kernel_rfl) (fun _ _ _ h => h) (Or.inl ⟨by rfl, ?_⟩) (by assumption) ?_
      rotate_left
      · intro w hSw
        go_simp
        try with_reducible rfl
      simp only [Act.put, List.getElem_toArray, List.getElem_cons_succ, List.getElem_cons_zero, List.setIfInBounds_toArray, List.set_cons_zero, List.set_cons_succ]
      refine wpAnyH_take (i := 39) (v := ?_) rfl (by kernel_rfl) (by kernel_rfl) (by kernel_rfl) (fun _ _ _ h => h) (Or.inl ⟨by rfl, ?_⟩) (by assumption) ?_
      rotate_left
      · intro w hSw
        go_simp
        try with_reducible rfl
      simp only [Act.put, List.getElem_toArray, List.getElem_cons_succ, List.getElem_cons_zero, List.setIfInBounds_toArray, List.set_cons_zero, List.set_cons_succ]
      refine wpAnyH_done (by kernel_rfl) ?_ _
      have HF := Lib.hid hHeld.2.2.2
      clear hHeld
      go_wp2_with fail
      go_meet
      case rel => exact ⟨rfl, HF⟩
    · obtain ⟨r, hr⟩ := bytesC_first HOK.out hk
      obtain ⟨lf, hlf, _⟩ := HOK.out
      have hkr := fieldsK_range hlf
      obtain ⟨g, o, hA2, hb0⟩ := I6.out.bs.2 0 _ (by rw [hr]; rfl)
      have hn2 : 0 < n2 := by rw [← I6.out.bs.1, hr]; simp
      subst hA2
      have ek : (c.k == 0) = false := beq_eq_false_iff_ne.2 hk
      have hn0 : ((n2 : Int) == 0) = false := by rw [beq_eq_false_iff_ne]; omega
      have hgt : (0 : Int) < (n2 : Int) := by omega
      have hkk : (c.k != c.k) = false := by simp
      have hwk : IntKind.i64.wrap c.k = c.k := IntWalk.i64_in _ (by omega)
      have HB0 : Hid (∀ W, Bak w P Q c A n m (some ⟨g, o, none⟩) n2 A3 n3 m3 W → W.cell? ⟨g, o, none⟩ = some (.int .u8 c.k)) := Lib.hid (fun W h => by
        obtain ⟨g', o', e, hc⟩ := h.bs.2 0 _ (by rw [hr]; rfl)
        cases e
        have hv : u8V c.k.toNat.toUInt8 = .int .u8 c.k := by
          unfold u8V
          rw [u8_lt (by omega)]
          congr 1
          omega
        rw [hv, Nat.add_zero] at hc
        exact hc)
      have SX : ∀ W, Bak w P Q c A n m (some ⟨g, o, none⟩) n2 A3 n3 m3 W → W.rangeAt P 0 L1 ∧ W.rangeAt Q 0 L2 ∧ W.cell? ⟨P, 0, none⟩ = some (.int .i64 c.k) ∧ Bak w P Q c A n m (some ⟨g, o, none⟩) n2 A3 n3 m3 W ∧ W.cell? ⟨g, o, none⟩ = some (.int .u8 c.k) := fun W h => ⟨by rw [hL1]; exact cL_at h.cp, by rw [hL2]; exact cL_at h.cq, h.cp.w.cell 0, h, HB0.out W h⟩
      have SX := Lib.hid SX
      have SA := Lib.hid (SX.out w6.drew (I6.out.keep (Below.refl _ _).drew))
      clear hL1 hL2 e1 e2 I6 hk hr hlf hkr hb0 HB0
      refine wp_region_held_drew (S := fun wx => wx.rangeAt P 0 L1 ∧ wx.rangeAt Q 0 L2 ∧ wx.cell? ⟨P, 0, none⟩ = some (.int .i64 c.k) ∧ Bak w P Q c A n m (some ⟨g, o, none⟩) n2 A3 n3 m3 wx ∧ wx.cell? ⟨g, o, none⟩ = some (.int .u8 c.k)) (by kernel_rfl) SA.out (fun hHeld => ?_)
      clear SA
      refine wpAnyH_take (i := 0) (v := _) rfl (by kernel_rfl) (by kernel_rfl) (by kernel_rfl) (fun _ _ _ h => h) (yieldsIf_load_mid (by rfl) _ _ rfl _ _ rfl _ _ (fun w hSw => hSw.1) hu rfl hi1) (by assumption) ?_
      simp only [Act.put, List.getElem_toArray, List.getElem_cons_zero, List.setIfInBounds_toArray, List.set_cons_zero, List.set_cons_succ]
      refine wpAnyH_ready (rs := [1]) (by kernel_rfl) (by simp) ?_
      refine AllReadyH.cons rfl (fun K hK => ?_) AllReadyH.nil
      go_simp
      refine (CK.out _ hHeld.2.2.2.1).mono ?_
      rintro e wa ⟨rfl, hb⟩
      try go_simp
      refine hK.out _ _ ?_ (fun hHeld' => ?_)
      · exact SX.out _ (hHeld.2.2.2.1.keep hb)
      clear hK K hHeld
      have hHeld := hHeld'
      clear hHeld'
      try simp only [Act.put, List.getElem_toArray, List.getElem_cons_succ, List.getElem_cons_zero, List.setIfInBounds_toArray, List.set_cons_zero, List.set_cons_succ]
      clear hb
      refine wpAnyH_take (i := 2) (v := ?_) rfl (by kernel_rfl) (by kernel_rfl) (by kernel_rfl) (fun _ _ _ h => h) (Or.inl ⟨by rfl, ?_⟩) (by assumption) ?_
      rotate_left
      · intro w hSw
        go_simp
        try with_reducible rfl
      simp only [Act.put, List.getElem_toArray, List.getElem_cons_succ, List.getElem_cons_zero, List.setIfInBounds_toArray, List.set_cons_zero, List.set_cons_succ]
      refine wpAnyH_take (i := 3) (v := ?_) rfl (by kernel_rfl) (by kernel_rfl) (by kernel_rfl) (fun _ _ _ h => h) (Or.inl ⟨by rfl, ?_⟩) (by assumption) ?_
      rotate_left
      · intro w hSw
        go_simp
        try with_reducible rfl
      simp only [Act.put, List.getElem_toArray, List.getElem_cons_succ, List.getElem_cons_zero, List.setIfInBounds_toArray, List.set_cons_zero, List.set_cons_succ]
      refine wpAnyH_take (i := 4) (v := ?_) rfl (by kernel_rfl) (by kernel_rfl) (by kernel_rfl) (fun _ _ _ h => h) (Or.inl ⟨by rfl, ?_⟩) (by assumption) ?_
      rotate_left
      · intro w hSw
        go_simp
        try with_reducible rfl
      simp only [Act.put, List.getElem_toArray, List.getElem_cons_succ, List.getElem_cons_zero, List.setIfInBounds_toArray, List.set_cons_zero, List.set_cons_succ]
      refine wpAnyH_take (i := 5) (v := ?_) rfl (by kernel_rfl) (by kernel_rfl) (by kernel_rfl) (fun _ _ _ h => h) (Or.inl ⟨by rfl, ?_⟩) (by assumption) ?_
      rotate_left
      · intro w hSw
        go_simp
        try with_reducible rfl
      simp only [Act.put, List.getElem_toArray, List.getElem_cons_succ, List.getElem_cons_zero, List.setIfInBounds_toArray, List.set_cons_zero, List.set_cons_succ]
      refine wpAnyH_take (i := 6) (v := ?_) rfl (by kernel_rfl) (by kernel_rfl) (by kernel_rfl) (fun _ _ _ h => h) (Or.inl ⟨by rfl, ?_⟩) (by assumption) ?_
      rotate_left
      · intro w hSw
        go_simp
        try with_reducible rfl
      simp only [Act.put, List.getElem_toArray, List.getElem_cons_succ, List.getElem_cons_zero, List.setIfInBounds_toArray, List.set_cons_zero, List.set_cons_succ]
      refine wpAnyH_take (i := 7) (v := ?_) rfl (by kernel_rfl) (by kernel_rfl) (by kernel_rfl) (fun _ _ _ h => h) (Or.inl ⟨by rfl, ?_⟩) (by assumption) ?_
      rotate_left
      · intro w hSw
        go_simp
        try with_reducible rfl
      simp only [Act.put, List.getElem_toArray, List.getElem_cons_succ, List.getElem_cons_zero, List.setIfInBounds_toArray, List.set_cons_zero, List.set_cons_succ]
      refine wpAnyH_take (i := 8) (v := ?_) rfl (by kernel_rfl) (by kernel_rfl) (by kernel_rfl) (fun _ _ _ h => h) (Or.inl ⟨by rfl, ?_⟩) (by assumption) ?_
      rotate_left
      · intro w hSw
        go_simp
        try with_reducible rfl
      simp only [Act.put, List.getElem_toArray, List.getElem_cons_succ, List.getElem_cons_zero, List.setIfInBounds_toArray, List.set_cons_zero, List.set_cons_succ]
      refine wpAnyH_take (i := 9) (v := ?_) rfl (by kernel_rfl) (by kernel_rfl) (by kernel_rfl) (fun _ _ _ h => h) (Or.inl ⟨by rfl, ?_⟩) (by assumption) ?_
      rotate_left
      · intro w hSw
        go_simp
        try with_reducible rfl
      simp only [Act.put, List.getElem_toArray, List.getElem_cons_succ, List.getElem_cons_zero, List.setIfInBounds_toArray, List.set_cons_zero, List.set_cons_succ]
      refine wpAnyH_take (i := 10) (v := ?_) rfl (by kernel_rfl) (by kernel_rfl) (by kernel_rfl) (fun _ _ _ h => h) (Or.inl ⟨by rfl, ?_⟩) (by assumption) ?_
      rotate_left
      · intro w hSw
        go_simp
        try with_reducible rfl
      simp only [Act.put, List.getElem_toArray, List.getElem_cons_succ, List.getElem_cons_zero, List.setIfInBounds_toArray, List.set_cons_zero, List.set_cons_succ]
      refine wpAnyH_take (i := 11) (v := ?_) rfl (by kernel_rfl) (by kernel_rfl) (by kernel_rfl) (fun _ _ _ h => h) (Or.inl ⟨by rfl, ?_⟩) (by assumption) ?_
      rotate_left
      · intro w hSw
        go_simp
        try with_reducible rfl
      simp only [Act.put, List.getElem_toArray, List.getElem_cons_succ, List.getElem_cons_zero, List.setIfInBounds_toArray, List.set_cons_zero, List.set_cons_succ]
      refine wpAnyH_take (i := 12) (v := _) rfl (by kernel_rfl) (by kernel_rfl) (by kernel_rfl) (fun _ _ _ h => h) (yieldsIf_load_mid (by rfl) _ _ rfl _ _ rfl _ _ (fun w hSw => hSw.2.1) hu rfl hi2) (by assumption) ?_
      simp only [Act.put, List.getElem_toArray, List.getElem_cons_succ, List.getElem_cons_zero, List.setIfInBounds_toArray, List.set_cons_zero, List.set_cons_succ]
      refine wpAnyH_take (i := 13) (v := _) rfl (by kernel_rfl) (by kernel_rfl) (by kernel_rfl) (fun _ _ _ h => h) (yieldsIf_load_mid (by rfl) _ _ rfl _ _ rfl _ _ (fun w hSw => hSw.1) hu rfl hi1) (by assumption) ?_
      simp only [Act.put, List.getElem_toArray, List.getElem_cons_succ, List.getElem_cons_zero, List.setIfInBounds_toArray, List.set_cons_zero, List.set_cons_succ]
      refine wpAnyH_ready (rs := [14]) (by kernel_rfl) (by simp) ?_
      refine AllReadyH.cons rfl (fun K hK => ?_) AllReadyH.nil
      go_simp
      refine (EQ.out _ hHeld.2.2.2.1).mono ?_
      rintro e wb ⟨rfl, hb⟩
      try go_simp
      refine hK.out _ _ ?_ (fun hHeld' => ?_)
      · exact SX.out _ (hHeld.2.2.2.1.keep hb)
      clear hK K hHeld
      have hHeld := hHeld'
      clear hHeld'
      try simp only [Act.put, List.getElem_toArray, List.getElem_cons_succ, List.getElem_cons_zero, List.setIfInBounds_toArray, List.set_cons_zero, List.set_cons_succ]
      clear hb
      refine wpAnyH_take (i := 15) (v := ?_) rfl (by kernel_rfl) (by kernel_rfl) (by kernel_rfl) (fun _ _ _ h => h) (Or.inl ⟨by rfl, ?_⟩) (by assumption) ?_
      rotate_left
      · intro w hSw
        go_simp
        try with_reducible rfl
      simp only [Act.put, List.getElem_toArray, List.getElem_cons_succ, List.getElem_cons_zero, List.setIfInBounds_toArray, List.set_cons_zero, List.set_cons_succ]
      refine wpAnyH_take (i := 16) (v := ?_) rfl (by kernel_rfl) (by kernel_rfl) (by kernel_rfl) (fun _ _ _ h => h) (Or.inl ⟨by rfl, ?_⟩) (by assumption) ?_
      rotate_left
      · intro w hSw
        go_simp
        try with_reducible rfl
      simp only [Act.put, List.getElem_toArray, List.getElem_cons_succ, List.getElem_cons_zero, List.setIfInBounds_toArray, List.set_cons_zero, List.set_cons_succ]
      refine wpAnyH_take (i := 17) (v := ?_) rfl (by kernel_rfl) (by kernel_rfl) (by kernel_rfl) (fun _ _ _ h => h) (Or.inl ⟨by rfl, ?_⟩) (by assumption) ?_
      rotate_left
      · intro w hSw
        go_simp
        try with_reducible rfl
      simp only [Act.put, List.getElem_toArray, List.getElem_cons_succ, List.getElem_cons_zero, List.setIfInBounds_toArray, List.set_cons_zero, List.set_cons_succ]
      refine wpAnyH_take (i := 18) (v := ?_) rfl (by kernel_rfl) (by kernel_rfl) (by kernel_rfl) (fun _ _ _ h => h) (Or.inl ⟨by rfl, ?_⟩) (by assumption) ?_
      rotate_left
      · intro w hSw
        go_simp
        try with_reducible rfl
      simp only [Act.put, List.getElem_toArray, List.getElem_cons_succ, List.getElem_cons_zero, List.setIfInBounds_toArray, List.set_cons_zero, List.set_cons_succ]
      refine wpAnyH_take (i := 19) (v := ?_) rfl (by kernel_rfl) (by kernel_rfl) (by kernel_rfl) (fun _ _ _ h => h) (Or.inl ⟨by rfl, ?_⟩) (by assumption) ?_
      rotate_left
      · intro w hSw
        go_simp
        try with_reducible rfl
      simp only [Act.put, List.getElem_toArray, List.getElem_cons_succ, List.getElem_cons_zero, List.setIfInBounds_toArray, List.set_cons_zero, List.set_cons_succ]
      refine wpAnyH_take (i := 20) (v := ?_) rfl (by kernel_rfl) (by kernel_rfl) (by kernel_rfl) (fun _ _ _ h => h) (Or.inl ⟨by rfl, ?_⟩) (by assumption) ?_
      rotate_left
      · intro w hSw
        go_simp
        try with_reducible rfl
      simp only [Act.put, List.getElem_toArray, List.getElem_cons_succ, List.getElem_cons_zero, List.setIfInBounds_toArray, List.set_cons_zero, List.set_cons_succ]
      refine wpAnyH_take (i := 21) (v := ?_) rfl (by kernel_rfl) (by kernel_rfl) (by kernel_rfl) (fun _ _ _ h => h) (Or.inl ⟨by rfl, ?_⟩) (by assumption) ?_
      rotate_left
      · intro w hSw
        go_simp
        try with_reducible rfl
      simp only [Act.put, List.getElem_toArray, List.getElem_cons_succ, List.getElem_cons_zero, List.setIfInBounds_toArray, List.set_cons_zero, List.set_cons_succ]
      refine wpAnyH_take (i := 22) (v := ?_) rfl (by kernel_rfl) (by kernel_rfl) (by kernel_rfl) (fun _ _ _ h => h) (Or.inl ⟨by rfl, ?_⟩) (by assumption) ?_
      rotate_left
      · intro w hSw
        go_simp
        try with_reducible rfl
      simp only [Act.put, List.getElem_toArray, List.getElem_cons_succ, List.getElem_cons_zero, List.setIfInBounds_toArray, List.set_cons_zero, List.set_cons_succ]
      refine wpAnyH_take (i := 23) (v := ?_) rfl (by kernel_rfl) (by kernel_rfl) (by kernel_rfl) (fun _ _ _ h => h) (Or.inl ⟨by rfl, ?_⟩) (by assumption) ?_
      rotate_left
      · intro w hSw
        go_simp
        try with_reducible rfl
      simp only [Act.put, List.getElem_toArray, List.getElem_cons_succ, List.getElem_cons_zero, List.setIfInBounds_toArray, List.set_cons_zero, List.set_cons_succ]
      refine wpAnyH_take (i := 24) (v := ?_) rfl (by kernel_rfl) (by kernel_rfl) (by kernel_rfl) (fun _ _ _ h => h) (Or.inl ⟨by rfl, ?_⟩) (by assumption) ?_
      rotate_left
      · intro w hSw
        go_simp
        try with_reducible rfl
      simp only [Act.put, List.getElem_toArray, List.getElem_cons_succ, List.getElem_cons_zero, List.setIfInBounds_toArray, List.set_cons_zero, List.set_cons_succ]
      refine wpAnyH_take (i := 25) (v := ?_) rfl (by kernel_rfl) (by kernel_rfl) (by kernel_rfl) (fun _ _ _ h => h) (Or.inl ⟨by rfl, ?_⟩) (by assumption) ?_
      rotate_left
      · intro w hSw
        go_simp
        try with_reducible rfl
      simp only [Act.put, List.getElem_toArray, List.getElem_cons_succ, List.getElem_cons_zero, List.setIfInBounds_toArray, List.set_cons_zero, List.set_cons_succ]
      refine wpAnyH_take (i := 26) (v := ?_) rfl (by kernel_rfl) (by kernel_rfl) (by kernel_rfl) (fun _ _ _ h => h) (Or.inl ⟨by rfl, ?_⟩) (by assumption) ?_
      rotate_left
      · intro w hSw
        go_simp
        try with_reducible rfl
      simp only [Act.put, List.getElem_toArray, List.getElem_cons_succ, List.getElem_cons_zero, List.setIfInBounds_toArray, List.set_cons_zero, List.set_cons_succ]
      refine wpAnyH_take (i := 27) (v := ?_) rfl (by kernel_rfl) (by kernel_rfl) (by kernel_rfl) (fun _ _ _ h => h) (Or.inl ⟨by rfl, ?_⟩) (by assumption) ?_
      rotate_left
      · intro w hSw
        go_simp
        try with_reducible rfl
      simp only [Act.put, List.getElem_toArray, List.getElem_cons_succ, List.getElem_cons_zero, List.setIfInBounds_toArray, List.set_cons_zero, List.set_cons_succ]
      refine wpAnyH_take (i := 28) (v := ?_) rfl (by kernel_rfl) (by kernel_rfl) (by kernel_rfl) (fun _ _ _ h => h) (Or.inl ⟨by rfl, ?_⟩) (by assumption) ?_
      rotate_left
      · intro w hSw
        go_simp
        try with_reducible rfl
      simp only [Act.put, List.getElem_toArray, List.getElem_cons_succ, List.getElem_cons_zero, List.setIfInBounds_toArray, List.set_cons_zero, List.set_cons_succ]
      refine wpAnyH_take (i := 29) (v := ?_) rfl (by kernel_rfl) (by kernel_rfl) (by kernel_rfl) (fun _ _ _ h => h) (Or.inl ⟨by rfl, ?_⟩) (by assumption) ?_
      rotate_left
      · intro w hSw
        go_simp
        try with_reducible rfl
      simp only [Act.put, List.getElem_toArray, List.getElem_cons_succ, List.getElem_cons_zero, List.setIfInBounds_toArray, List.set_cons_zero, List.set_cons_succ]
      refine wpAnyH_take (i := 30) (v := ?_) rfl (by kernel_rfl) (by kernel_rfl) (by kernel_rfl) (fun _ _ _ h => h) (Or.inl ⟨by rfl, ?_⟩) (by assumption) ?_
      rotate_left
      · intro w hSw
        go_simp
        try with_reducible rfl
      simp only [Act.put, List.getElem_toArray, List.getElem_cons_succ, List.getElem_cons_zero, List.setIfInBounds_toArray, List.set_cons_zero, List.set_cons_succ]
      refine wpAnyH_take (i := 31) (v := ?_) rfl (by kernel_rfl) (by kernel_rfl) (by kernel_rfl) (fun _ _ _ h => h) (Or.inl ⟨by rfl, ?_⟩) (by assumption) ?_
      rotate_left
      · intro w hSw
        go_simp
        try with_reducible rfl
      simp only [Act.put, List.getElem_toArray, List.getElem_cons_succ, List.getElem_cons_zero, List.setIfInBounds_toArray, List.set_cons_zero, List.set_cons_succ]
      refine wpAnyH_take (i := 32) (v := ?_) rfl (by kernel_rfl) (by kernel_rfl) (by kernel_rfl) (fun _ _ _ h => h) (Or.inl ⟨by rfl, ?_⟩) (by assumption) ?_
      rotate_left
      · intro w hSw
        go_simp
        try with_reducible rfl
      simp only [Act.put, List.getElem_toArray, List.getElem_cons_succ, List.getElem_cons_zero, List.setIfInBounds_toArray, List.set_cons_zero, List.set_cons_succ]
      refine wpAnyH_take (i := 33) (v := ?_) rfl (by kernel_rfl) (by kernel_rfl) (by kernel_rfl) (fun _ _ _ h => h) (Or.inl ⟨by rfl, ?_⟩) (by assumption) ?_
      rotate_left
      · intro w hSw
        go_simp
        try with_reducible rfl
      simp only [Act.put, List.getElem_toArray, List.getElem_cons_succ, List.getElem_cons_zero, List.setIfInBounds_toArray, List.set_cons_zero, List.set_cons_succ]
      refine wpAnyH_take (i := 34) (v := ?_) rfl (by kernel_rfl) (by kernel_rfl) (by kernel_rfl) (fun _ _ _ h => h) (Or.inl ⟨by rfl, ?_⟩) (by assumption) ?_
      rotate_left
      · intro w hSw
        go_simp
        try with_reducible rfl
      simp only [Act.put, List.getElem_toArray, List.getElem_cons_succ, List.getElem_cons_zero, List.setIfInBounds_toArray, List.set_cons_zero, List.set_cons_succ]
      refine wpAnyH_take (i := 35) (v := ?_) rfl (by kernel_rfl) (by kernel_rfl) (by kernel_rfl) (fun _ _ _ h => h) (Or.inl ⟨by rfl, ?_⟩) (by assumption) ?_
      rotate_left
      · intro w hSw
        go_simp
        try with_reducible rfl
      simp only [Act.put, List.getElem_toArray, List.getElem_cons_succ, List.getElem_cons_zero, List.setIfInBounds_toArray, List.set_cons_zero, List.set_cons_succ]
      refine wpAnyH_take (i := 36) (v := ?_) rfl (by kernel_rfl) (by kernel_rfl) (by kernel_rfl) (fun _ _ _ h => h) (Or.inl ⟨by rfl, ?_⟩) (by assumption) ?_
      rotate_left
      · intro w hSw
        go_simp
        try with_reducible rfl
      simp only [Act.put, List.getElem_toArray, List.getElem_cons_succ, List.getElem_cons_zero, List.setIfInBounds_toArray, List.set_cons_zero, List.set_cons_succ]
      refine wpAnyH_take (i := 37) (v := ?_) rfl (by kernel_rfl) (by kernel_rfl) (by kernel_rfl) (fun _ _ _ h => h) (Or.inl ⟨by rfl, ?_⟩) (by assumption) ?_
      rotate_left
      · intro w hSw
        go_simp
        try with_reducible rfl
      simp only [Act.put, List.getElem_toArray, List.getElem_cons_succ, List.getElem_cons_zero, List.setIfInBounds_toArray, List.set_cons_zero, List.set_cons_succ]
      refine wpAnyH_take (i := 38) (v := ?_) rfl (by kernel_rfl) (by kernel_rfl) (by kernel_rfl) (fun _ _ _ h => h) (Or.inl ⟨by rfl, ?_⟩) (by assumption) ?_
      rotate_left
      · intro w hSw
        go_simp
        try with_reducible rfl
      simp only [Act.put, List.getElem_toArray, List.getElem_cons_succ, List.getElem_cons_zero, List.setIfInBounds_toArray, List.set_cons_zero, List.set_cons_succ]
      refine wpAnyH_take (i := 39) (v := ?_) rfl (by kernel_rfl) (by kernel_rfl) (by kernel_rfl) (fun _ _ _ h => h) (Or.inl ⟨by rfl, ?_⟩) (by assumption) ?_
      rotate_left
      · intro w hSw
        go_simp
        try with_reducible rfl
      simp only [Act.put, List.getElem_toArray, List.getElem_cons_succ, List.getElem_cons_zero, List.setIfInBounds_toArray, List.set_cons_zero, List.set_cons_succ]
      refine wpAnyH_done (by kernel_rfl) ?_ _
      have HF := Lib.hid hHeld.2.2.2.1
      clear hHeld
      go_wp2_with fail
      go_meet
      case rel => exact ⟨rfl, HF⟩
  case rest =>
  obtain ⟨rfl, hI⟩ := hcut
  generalize wc = w7 at hI ⊢
  have I7 := hI
  clear hI I6 ENC
  have HL2 : Hid ((bytesC c).length = n2) := Lib.hid I7.out.bs.1
  have CL := Lib.hid (bclone_any A2 n2 m2 (bytesC c) w7 I7.out.bs (by have := HL2.out; have := HLEN.out; omega))
  go_upto_region 6 with fail
  go_upto_region 7 with (first
    | (go_at_call 13; refine CL.out.mono ?_; rintro e w8 ⟨⟨v8, rfl, ho⟩, hb⟩; obtain ⟨A7, c7, rfl, _⟩ := own_slice2 ho; rw [← HL2.out] at ho; obtain ⟨A8, n8, m8, w9, hrun, hsl, hgr, -⟩ := app_byte w7.heap.size _ (bytesC c) w8 ho hb.size (by have := HLEN.out; omega) (.int .u8 0) 0 rfl; have ba := hb.alloc hb.size (.cells #[.int .u8 0] 5); have b9 := ba.grown hgr ba.size (fun k e => (ho.lt k e).1); have I9 := Lib.hid (I7.out.keep b9); have HR := Lib.hid hrun; have MO := Lib.hid (MORE.out A8 n8 m8 w9 (HE.out.keep I9.out.bl) hsl); rw [HL2.out] at HR; clear hb ho hrun hsl hgr ba b9 CL)
    | (at_builtin; refine wpList_append_run rfl (.tmp 72) (.tmp 73) 22 22 rfl rfl rfl HR.out ?_)
    | (go_at_call 14; refine MO.out.mono ?_; rintro e w10 ⟨⟨B3, k3, j3, rfl, hi⟩, hb⟩; have ba := (Below.refl w10.heap.size w10).alloc (Nat.le_refl _) (.cells (cA (zeroC 0) B3 k3 j3) 36); have I11 := Lib.hid ((I9.out.keep hb).keep ba); clear hi hb ba MO)
    | (refine wpList_store_row (by rfl) 36 (.tmp 10) (.tmp 76) (by rfl) _ (cA (zeroC 0) B3 k3 j3) (by rfl) (by rfl) 36 _ (heap_alloc_new _ _) (info24 _ _ _ _) (by rfl) (all24 _ _ _ _) ?_; rw [World.setRow_alloc_new]))
  clear I7 I9 HR MORE
  generalize w10.alloc (.cells (cA (zeroC 0) B3 k3 j3) 36) = w11 at I11 ⊢
  generalize w10.heap.size = X11
  go_upto_if 82 with fail
  go_cut [] from 82 to 99 (fun wx => Hid (Below w.heap.size w wx))
  case first =>
    by_cases h1 : 1 < n2
    · have hg1 : (1 : Int) < (n2 : Int) := by omega
      have hcut2 : ∀ W : World, (Instr.slice 22 (.slice A2 n2 m2) none (some (.int .i64 ((n2 : Int) - 1))) none).run Tryz.prog W = .ok (.slice A2 (n2 - 1) m2) W := fun W => by
        have h := cut_hi A2 (n2 - 1) n2 m2 (by have := HM2.out; omega) W
        rw [show (((n2 - 1 : Nat)) : Int) = (n2 : Int) - 1 by omega] at h
        exact h
      have hw3 : IntKind.i64.wrap ((n2 : Int) - 1) = (n2 : Int) - 1 := IntWalk.i64_in _ (by have := HL2.out; have := HLEN.out; omega)
      have LS := Lib.hid (LESS.out A2 (n2 - 1) m2 w11 (HE.out.keep I11.out.bl) (by rw [HL2.out]; exact h1) (by have t := slB_cut I11.out.bs (n2 - 1) (by omega); rw [show (bytesC c).take (n2 - 1) = (bytesC c).dropLast by rw [← HL2.out, dropLast_take]] at t; exact t))
      clear h1
      go_upto_region 11 with (first
        | (go_at_call 14; refine LS.out.mono ?_; rintro e w12 ⟨⟨B4, k4, j4, rfl, hi⟩, hb⟩; have ba := (Below.refl w12.heap.size w12).alloc (Nat.le_refl _) (.cells (cA (zeroC 0) B4 k4 j4) 36); have b12 := I11.out.bl.trans (hb.mono I11.out.bl.size); have I13 := Lib.hid (And.intro (b12.trans (ba.mono b12.size)) (CmdAt.new hi)); clear hi hb ba b12 LS)
        | (refine wpList_store_row (by rfl) 36 (.tmp 12) (.tmp 90) (by rfl) _ (cA (zeroC 0) B4 k4 j4) (by rfl) (by rfl) 36 _ (heap_alloc_new _ _) (info24 _ _ _ _) (by rfl) (all24 _ _ _ _) ?_; rw [World.setRow_alloc_new]))
      clear hcut2 hw3
      generalize w12.alloc (.cells (cA (zeroC 0) B4 k4 j4) 36) = w13 at I13 ⊢
      generalize w12.heap.size = X13 at I13 ⊢
      have EZ := Lib.hid (EQZ.out B4 k4 j4 w13 I13.out.2.i)
      go_wp2_with (first
        | (refine wpList_load_rowG (by rfl) 36 (.tmp 12) (by rfl) _ (by rfl) 36 (cA (zeroC 0) B4 k4 j4) (0, 0) _ I13.out.2.w Tryz.underlying36 (by rfl) (info24 (zeroC 0) B4 k4 j4) ?_)
        | (go_at_call 34; refine EZ.out.mono ?_; rintro e w14 ⟨rfl, hb⟩; have B14 := Lib.hid (I13.out.1.trans (hb.mono I13.out.1.size)); clear hb))
      go_meet
      case rel => exact B14
    · have hg1 : ¬ ((1 : Int) < (n2 : Int)) := by omega
      have B14 := Lib.hid I11.out.bl
      clear h1
      go_wp2_with fail
      go_meet
      case rel => exact B14
  case rest =>
  generalize wc = w20 at hcut ⊢
  have I20 := hcut
  clear hcut I11 LESS HOK HLEN HL2 HM2
  by_cases hbig : 300 < nb
  · have hb3 : (300 : Int) < (nb : Int) := by omega
    have W1 := Lib.hid (WK.out w20 I20.out)
    clear hbig WK HSB
    go_wp2_with (go_at_call 12; refine W1.out.mono ?_; rintro e w21 ⟨rfl, hb⟩; have B21 := Lib.hid (I20.out.trans (hb.mono I20.out.size)); clear hb)
    go_ret
    exact ⟨rfl, B21.out⟩
  · have hb3 : ¬ ((300 : Int) < (nb : Int)) := by omega
    have DB := Lib.hid (cdecode_any Ab nb cb l w20 (HE.out.keep I20.out) (HSB.out w20 I20.out) (by omega))
    clear hbig
    unfold DecCR at DB
    go_upto_region 16 with (first
      | (go_at_call 14; refine DB.out.mono ?_; rintro e w22 ⟨⟨d, B5, k5, j5, er, rfl, hr, hi⟩, hb⟩; have HR := Lib.hid hr; have ba := (Below.refl w22.heap.size w22).alloc (Nat.le_refl _) (.cells (cA d B5 k5 j5) 36); have b22 := I20.out.trans (hb.mono I20.out.size); have I23 := Lib.hid (And.intro (b22.trans (ba.mono b22.size)) (CmdAt.new hi)); clear hr hi hb ba b22 DB)
      | (refine wpList_store_row (by rfl) 36 (.tmp 14) (.tmp 107) (by rfl) _ (cA d B5 k5 j5) (by rfl) (by rfl) 36 _ (heap_alloc_new _ _) (info24 _ _ _ _) (by rfl) (all24 _ _ _ _) ?_; rw [World.setRow_alloc_new]))
    generalize w22.alloc (.cells (cA d B5 k5 j5) 36) = w23 at I23 ⊢
    generalize w22.heap.size = X23 at I23 ⊢
    rcases HR.out with ⟨rfl, h1, h2, h3⟩ | ⟨rfl, rfl, _⟩
    · have EN := Lib.hid ((cencode_any d B5 k5 j5 w23 (HE.out.keep I23.out.1) I23.out.2.i).mono (R' := fun e w' => (∃ A n m, e = .returned (.tuple #[.slice A n m, .int .i64 0]) ∧ SlB w' A n l) ∧ Below w23.heap.size w23 w') (fun e w' ⟨⟨A, n, m, he, hs, _⟩, hb⟩ => by
        have hv := encBC_yes h1 (by rw [h2]; exact h3)
        rw [hv.2] at he
        rw [hv.1, h2] at hs
        exact ⟨⟨A, n, m, he, hs⟩, hb⟩))
      have H1 := Lib.hid h1
      clear h1 h2 h3 HR
      go_upto_region 19 with (first
        | (refine wpList_load_row (by rfl) 36 (.tmp 14) (by rfl) _ (by rfl) 36 (cA d B5 k5 j5) (0, 0) _ I23.out.2.w Tryz.underlying36 (by rfl) (info24 d B5 k5 j5) ?_)
        | (go_at_call 26; refine EN.out.mono ?_; rintro e w24 ⟨⟨A24, n24, m24, rfl, h24⟩, hb⟩; have I24 := Lib.hid (And.intro (I23.out.1.trans (hb.mono I23.out.1.size)) (And.intro (I23.out.2.keep hb) h24)); clear hb h24 EN))
      clear I23
      have BE := Lib.hid ((bEq_any A24 Ab n24 nb m24 cb l l w24 I24.out.2.2 (HSB.out w24 I24.out.1)).mono (R' := fun e w' => e = .returned (.bool true) ∧ w24 = w') (fun e w' ⟨he, hw⟩ => ⟨by rw [he, beq_self_eq_true], hw⟩))
      have CK := ccheck_any d B5 k5 j5 w24 (HE.out.keep I24.out.1) I24.out.2.1.i
      rw [ckC_yes H1.out] at CK
      have CK := Lib.hid CK
      clear HSB H1
      go_wp2_with (first
        | (go_at_call 19; refine BE.out.mono ?_; rintro e v ⟨rfl, rfl⟩)
        | (refine wpList_load_rowG (by rfl) 36 (.tmp 14) (by rfl) _ (by rfl) 36 (cA d B5 k5 j5) (0, 0) _ I24.out.2.1.w Tryz.underlying36 (by rfl) (info24 d B5 k5 j5) ?_)
        | (go_at_call 30; refine CK.out.mono ?_; rintro e w25 ⟨rfl, hb⟩; have B25 := Lib.hid (I24.out.1.trans (hb.mono I24.out.1.size)); have W1 := Lib.hid (WK.out w25 B25.out); clear hb)
        | (go_at_call 12; refine W1.out.mono ?_; rintro e w26 ⟨rfl, hb⟩; have B26 := Lib.hid (B25.out.trans (hb.mono B25.out.size)); clear hb))
      go_ret
      exact ⟨rfl, B26.out⟩
    · have EZ := Lib.hid (EQZ.out B5 k5 j5 w23 I23.out.2.i)
      clear HR HSB
      go_wp2_with (first
        | (refine wpList_load_rowG (by rfl) 36 (.tmp 14) (by rfl) _ (by rfl) 36 (cA (zeroC 0) B5 k5 j5) (0, 0) _ I23.out.2.w Tryz.underlying36 (by rfl) (info24 (zeroC 0) B5 k5 j5) ?_)
        | (go_at_call 34; refine EZ.out.mono ?_; rintro e w24 ⟨rfl, hb⟩; have B24 := Lib.hid (I23.out.1.trans (hb.mono I23.out.1.size)); have W1 := Lib.hid (WK.out w24 B24.out); clear hb)
        | (go_at_call 12; refine W1.out.mono ?_; rintro e w26 ⟨rfl, hb⟩; have B26 := Lib.hid (B24.out.trans (hb.mono B24.out.size)); clear hb))
      go_ret
      exact ⟨rfl, B26.out⟩
end Go.Proofs.YtgjnmfmbheejoaaGreatDoor
