/- The examples of the chapter hold. Condition: the program's own variables lie as its start lays them. -/
import Derived.Test.YtgjnmfmbheejoaaGreatDoorCmEnc
import Derived.Test.YtgjnmfmbheejoaaGreatDoorCmDec
import Derived.Test.YtgjnmfmbheejoaaGreatDoorCmTxt
import Derived.Test.YtgjnmfmbheejoaaGreatDoorCmRp
namespace Go.Proofs.YtgjnmfmbheejoaaGreatDoor
open Go.RowKit Go.Shelf

def wkC : Cv := ⟨1, 0, 0, 12, 3, 1, ⟨#[97]⟩, -4, 0, ⟨#[]⟩, ⟨#[]⟩, 0, zeroD, zeroI, 0, ⟨#[]⟩⟩
theorem wk_ok : cmdOk wkC := ⟨[.eff, .key, .dl], rfl, fun x hx => by
  simp only [List.mem_cons, List.not_mem_nil, or_false] at hx
  rcases hx with rfl | rfl | rfl
  · exact ⟨by decide, by decide, by decide, by decide, by decide, by decide⟩
  · show isName _ = true; decide
  · exact ⟨by decide, by decide, by decide⟩, rfl⟩
theorem wk_bytes : bytesC wkC = [1, 12, 3, 1, 1, 97, 7] := by decide +kernel
theorem wk_text : textC wkC = [101, 102, 102, 101, 99, 116, 32, 49, 50, 47, 51, 47, 102, 32, 97, 32, 45, 52] := by decide +kernel
theorem wk_in (W : World) : CmdIn W wkC none 0 0 := ⟨defAt_zero W, by constructor <;> first | exact (show (0 : Nat) ≤ _ from Nat.zero_le _) | exact (show (1 : Nat) ≤ _ by decide) | exact ⟨by decide, by decide⟩⟩
def wkR : Rv := ⟨5, -1, ⟨#[120]⟩⟩
theorem wkR_ok : repOk wkR := ⟨⟨by decide, by decide⟩, ⟨by decide, by decide⟩, by decide⟩
theorem wkR_bytes : bytesR wkR = [5, 1, 1, 120] := by decide +kernel
theorem slB_lit (w : World) (l : List UInt8) (n : Nat) (hn : l.length = n) (cs : Array Value) (hc : cs = (bV l).toArray) : SlB (w.alloc (.cells cs 5)) (some ⟨w.heap.size, 0, none⟩) n l := by
  refine ⟨hn, fun i c hi => ⟨w.heap.size, 0, rfl, ?_⟩⟩
  rw [(Whole.new w 5 cs).cell, hc, Nat.zero_add]
  rw [List.getElem?_toArray]
  unfold bV
  rw [List.getElem?_map, hi]
  rfl
theorem bEq_any (A A' : Option Addr) (n n' c c' : Nat) (a b : List UInt8) (w : World) (h : SlB w A n a) (h' : SlB w A' n' b) :
    Calls Tryz.prog 19 #[.slice A n c, .slice A' n' c'] w fun e w' => e = .returned (.bool (a == b)) ∧ w = w' := by
  have c1 := conv_bytes h c
  have c2 := conv_bytes h' c'
  have HQ : Hid (((⟨a.toArray⟩ : ByteArray).toList == (⟨b.toArray⟩ : ByteArray).toList) = (a == b)) := Lib.hid (by rw [ByteArray.toList_eq, ByteArray.toList_eq])
  clear h h'
  generalize (a == b) = q at HQ ⊢
  generalize (⟨a.toArray⟩ : ByteArray) = x at c1 HQ
  generalize (⟨b.toArray⟩ : ByteArray) = y at c2 HQ
  go_enter Tryz.func19, Tryz.ntmps19
  go_wp2
  go_ret
  exact ⟨by rw [← HQ.out]; rfl, rfl⟩
theorem shard_any (c : Cv) (A : Option Addr) (n m : Nat) (w : World) :
    Calls Tryz.prog 32 #[.agg (cA c A n m)] w fun e w' => e = .returned (.bool (decide (0 ≤ c.k ∧ c.k ≤ 4))) ∧ Below w.heap.size w w' := by
  have C1 := Whole.new w 36 (cA c A n m)
  have xk : (w.alloc (.cells (cA c A n m) 36)).cell? ⟨w.heap.size, 0, none⟩ = some (.int .i64 c.k) := C1.cell 0
  have HB := Lib.hid ((Below.refl w.heap.size w).alloc (Nat.le_refl _) (.cells (cA c A n m) 36))
  clear C1
  generalize hq : decide (0 ≤ c.k ∧ c.k ≤ 4) = q
  have HQ := Lib.hid hq
  clear hq
  rcases (show c.k < 0 ∨ (0 ≤ c.k ∧ c.k ≤ 4) ∨ (0 ≤ c.k ∧ 4 < c.k) by omega) with h0 | ⟨h0, h1⟩ | ⟨h0, h1⟩
  all_goals
    go_enter Tryz.func32, Tryz.ntmps32
    go_wp2
    go_ret
    exact ⟨by rw [← HQ.out]; simp <;> omega, HB.out⟩
set_option maxRecDepth 100000 in
set_option maxHeartbeats 8000000 in
theorem works_any (w : World) (hE : DfE w) : Calls Tryz.prog 12 #[] w fun e w' => e = .returned (.bool true) ∧ Below w.heap.size w w' := by
  have HE := Lib.hid hE
  have ENC := Lib.hid (fun (V : World) (hV : DfE V) => (cencode_any wkC none 0 0 V hV (wk_in V)).mono (R' := fun e w' => (∃ A n m, e = .returned (.tuple #[.slice A n m, .int .i64 0]) ∧ SlB w' A n [1, 12, 3, 1, 1, 97, 7]) ∧ Below V.heap.size V w') (fun e w' ⟨⟨A, n, m, he, hs, _⟩, hb⟩ => by
    have hv := encBC_yes wk_ok (by rw [wk_bytes]; decide)
    rw [hv.2] at he
    rw [hv.1, wk_bytes] at hs
    exact ⟨⟨A, n, m, he, hs⟩, hb⟩))
  have DEC := Lib.hid (fun (A0 : Option Addr) (n0 m0 : Nat) (V : World) (hV : DfE V) (hs : SlB V A0 n0 [1, 12, 3, 1, 1, 97, 7]) (hn : n0 ≤ 1000000000000) => (cdecode_any A0 n0 m0 _ V hV hs hn).mono (R' := fun e w' => (∃ A n m, e = .returned (.tuple #[.agg (cA wkC A n m), .int .i64 0]) ∧ CmdIn w' wkC A n m) ∧ Below V.heap.size V w') (fun e w' ⟨⟨c, A, n, m, er, he, hr, hi⟩, hb⟩ => by
    obtain ⟨rfl, rfl⟩ := hr.same (Or.inl ⟨rfl, wk_ok, wk_bytes, by decide⟩)
    exact ⟨⟨A, n, m, he, hi⟩, hb⟩))
  have TXT := Lib.hid (fun (V : World) (hV : DfE V) => (ctext_any wkC none 0 0 V hV (wk_in V)).mono (R' := fun e w' => e = .returned (.tuple #[.string ⟨#[101, 102, 102, 101, 99, 116, 32, 49, 50, 47, 51, 47, 102, 32, 97, 32, 45, 52]⟩, .int .i64 0]) ∧ Below V.heap.size V w') (fun e w' ⟨he, hb⟩ => by
    rw [txtC_yes wk_ok, wk_text, ckC_yes wk_ok] at he
    exact ⟨he, hb⟩))
  have ENZ := fun (V : World) (hV : DfE V) => (cencode_any (zeroC 0) none 0 0 V hV (cmdIn_zero V 0 in64_0)).mono (R' := fun e w' => (∃ A m, e = .returned (.tuple #[.slice A 0 m, .int .i64 0])) ∧ Below V.heap.size V w') (fun e w' ⟨⟨A, n, m, he, hs, _⟩, hb⟩ => by
    have hv := encBC_yes zeroC_no0 (by rw [bytesC_zero _ rfl]; exact Nat.zero_le _)
    rw [hv.2] at he
    rw [hv.1, bytesC_zero _ rfl] at hs
    obtain rfl : 0 = n := hs.1
    exact ⟨⟨A, m, he⟩, hb⟩)
  rw [zero24] at ENZ
  have ENZ := Lib.hid ENZ
  have REP := Lib.hid (fun (V : World) => (reply_any wkR V).mono (R' := fun e w' => (∃ A n m, e = .returned (.tuple #[.slice A n m, .int .i64 0]) ∧ SlB w' A n [5, 1, 1, 120]) ∧ Below V.heap.size V w') (fun e w' ⟨⟨A, n, m, he, hs, _⟩, hb⟩ => by
    have h1 : repB wkR = [5, 1, 1, 120] := by unfold repB; rw [if_pos ⟨wkR_ok, by rw [wkR_bytes]; decide⟩, wkR_bytes]
    have h2 : repE wkR = 0 := by unfold repE; rw [if_pos wkR_ok, if_pos (by rw [wkR_bytes]; decide)]
    rw [h2] at he
    rw [h1] at hs
    exact ⟨⟨A, n, m, he, hs⟩, hb⟩))
  have PRS := Lib.hid (fun (A0 : Option Addr) (n0 m0 : Nat) (V : World) (hs : SlB V A0 n0 [5, 1, 1, 120]) (hn : n0 ≤ 1000000000000) => (preply_any A0 n0 m0 _ V hs hn).mono (R' := fun e w' => e = .returned (.tuple #[.agg #[.int .i64 5, .int .i64 (-1), .string ⟨#[120]⟩], .int .i64 0]) ∧ Below V.heap.size V w') (fun e w' ⟨⟨r, er, he, hr⟩, hb⟩ => by
    obtain ⟨rfl, rfl⟩ := RDecR.yes wkR_ok (by rw [wkR_bytes]; decide) wkR_bytes.symm hr
    exact ⟨he, hb⟩))
  have REP' := REP.out
  unfold rA wkR at REP'
  dsimp only at REP'
  have REP := Lib.hid REP'
  clear hE REP'
  have I1 := Lib.hid (And.intro ((Below.refl w.heap.size w).alloc (Nat.le_refl _) (.cells (cA wkC none 0 0) 36)) (Whole.new w 36 (cA wkC none 0 0)))
  go_enter Tryz.func12, Tryz.ntmps12
  go_upto_region 2 with (refine wpList_store_row rfl 36 (.tmp 1) (.tmp 15) rfl _ (cA wkC none 0 0) rfl rfl 36 _ (heap_alloc_new _ _) (info24 _ _ _ _) rfl (all24 _ _ _ _) ?_; rw [World.setRow_alloc_new])
  generalize w.alloc (.cells (cA wkC none 0 0) 36) = w1 at I1 ⊢
  obtain ⟨B, hB⟩ : ∃ B, B = w.heap.size := ⟨_, rfl⟩
  go_upto_region 3 with (first
    | (refine wpList_load_row rfl 36 (.tmp 1) rfl _ rfl 36 (cA wkC none 0 0) (0, 0) _ I1.out.2 Tryz.underlying36 rfl (info24 _ _ _ _) ?_)
    | (go_at_call 26; refine (ENC.out w1 (HE.out.keep I1.out.1)).mono ?_; rintro e w2 ⟨⟨A2, n2, m2, rfl, hs⟩, hb⟩; have ba := (Below.refl w2.heap.size w2).alloc (Nat.le_refl _) (.cells #[.int .u8 1, .int .u8 12, .int .u8 3, .int .u8 1, .int .u8 1, .int .u8 97, .int .u8 7] 5); have b2 := I1.out.1.trans (hb.mono I1.out.1.size); have I3 := Lib.hid (And.intro (b2.trans (ba.mono b2.size)) (And.intro ((I1.out.2.keep hb).keep ba) (hs.keep ba))); clear hs hb ba b2 I1))
  clear hB
  have L3 := Lib.hid (slB_lit w2 [1, 12, 3, 1, 1, 97, 7] 7 rfl #[.int .u8 1, .int .u8 12, .int .u8 3, .int .u8 1, .int .u8 1, .int .u8 97, .int .u8 7] rfl)
  have DEC := Lib.hid (DEC.out _ 7 7 _ (HE.out.keep I3.out.1) L3.out (by decide))
  go_upto_region 4 with (first
    | (go_at_call 14; refine DEC.out.mono ?_; rintro e w4 ⟨⟨A4, n4, m4, rfl, hi⟩, hb⟩; have I4 := Lib.hid (And.intro (I3.out.1.trans (hb.mono I3.out.1.size)) (And.intro (I3.out.2.1.keep hb) (And.intro (I3.out.2.2.keep hb) hi))); clear hi hb DEC)
    | (refine wpList_store_row rfl 36 (.tmp 4) (.tmp 24) rfl _ (cA wkC A4 n4 m4) rfl rfl 36 _ (heap_alloc_new _ _) (info24 _ _ _ _) rfl (all24 _ _ _ _) ?_; rw [World.setRow_alloc_new]))
  have I5 : Hid (Below w.heap.size w (w4.alloc (.cells (cA wkC A4 n4 m4) 36)) ∧ Whole (w4.alloc (.cells (cA wkC A4 n4 m4) 36)) w.heap.size 36 (cA wkC none 0 0) ∧ SlB (w4.alloc (.cells (cA wkC A4 n4 m4) 36)) A2 n2 [1, 12, 3, 1, 1, 97, 7] ∧ CmdAt (w4.alloc (.cells (cA wkC A4 n4 m4) 36)) w4.heap.size wkC A4 n4 m4) := by
    have ba := (Below.refl w4.heap.size w4).alloc (Nat.le_refl _) (.cells (cA wkC A4 n4 m4) 36)
    exact Lib.hid ⟨I4.out.1.trans (ba.mono I4.out.1.size), I4.out.2.1.keep ba, I4.out.2.2.1.keep ba, CmdAt.new I4.out.2.2.2⟩
  clear I3 L3 I4
  generalize w4.alloc (.cells (cA wkC A4 n4 m4) 36) = w5 at I5 ⊢
  generalize w4.heap.size = B4 at I5 ⊢
  have HKP : Hid (∀ V V', (Below w.heap.size w V ∧ Whole V w.heap.size 36 (cA wkC none 0 0) ∧ SlB V A2 n2 [1, 12, 3, 1, 1, 97, 7] ∧ CmdAt V B4 wkC A4 n4 m4) → Below V.heap.size V V' → (Below w.heap.size w V' ∧ Whole V' w.heap.size 36 (cA wkC none 0 0) ∧ SlB V' A2 n2 [1, 12, 3, 1, 1, 97, 7] ∧ CmdAt V' B4 wkC A4 n4 m4)) :=
    Lib.hid (fun V V' h hb => ⟨h.1.trans (hb.mono h.1.size), h.2.1.keep hb, h.2.2.1.keep hb, h.2.2.2.keep hb⟩)
  go_upto_region 5 with (first
    | (refine wpList_load_row rfl 36 (.tmp 1) rfl _ rfl 36 (cA wkC none 0 0) (0, 0) _ I5.out.2.1 Tryz.underlying36 rfl (info24 _ _ _ _) ?_)
    | (go_at_call 28; refine (TXT.out w5 (HE.out.keep I5.out.1)).mono ?_; rintro e w6 ⟨rfl, hb⟩; have I6 := Lib.hid (HKP.out w5 w6 I5.out hb); clear hb))
  go_upto_region 6 with (go_at_call 26; refine (ENZ.out w6 (HE.out.keep I6.out.1)).mono ?_; rintro e w7 ⟨⟨A7, m7, rfl⟩, hb⟩; have I7 := Lib.hid (HKP.out w6 w7 I6.out hb); clear hb)
  go_upto_region 7 with (go_at_call 20; refine (REP.out w7).mono ?_; rintro e w8 ⟨⟨A8, n8, m8, rfl, h8⟩, hb⟩; have I8 := Lib.hid (And.intro (HKP.out w7 w8 I7.out hb) h8); clear hb h8)
  clear I5 I6 I7 TXT ENZ ENC REP
  have ba8 := (Below.refl w8.heap.size w8).alloc (Nat.le_refl _) (.cells #[.int .u8 5, .int .u8 1, .int .u8 1, .int .u8 120] 5)
  have L8 := slB_lit w8 [5, 1, 1, 120] 4 rfl #[.int .u8 5, .int .u8 1, .int .u8 1, .int .u8 120] rfl
  have PRS := Lib.hid (PRS.out _ 4 4 _ L8 (by decide))
  have I9 := Lib.hid (And.intro (HKP.out _ _ I8.out.1 ba8) (I8.out.2.keep ba8))
  clear ba8 L8 I8
  go_upto_region 8 with (go_at_call 16; refine PRS.out.mono ?_; rintro e w10 ⟨rfl, hb⟩; have ba10 := (Below.refl w10.heap.size w10).alloc (Nat.le_refl _) (.cells #[.int .i64 5, .int .i64 (-1), .string ⟨#[120]⟩] 40); have I11 := Lib.hid (And.intro (HKP.out _ _ (HKP.out _ _ I9.out.1 hb) ba10) (And.intro ((I9.out.2.keep hb).keep ba10) (Whole.new w10 40 #[.int .i64 5, .int .i64 (-1), .string ⟨#[120]⟩]))); clear hb ba10 PRS)
  clear I9
  generalize w10.alloc (.cells #[.int .i64 5, .int .i64 (-1), .string ⟨#[120]⟩] 40) = w11 at I11 ⊢
  generalize w10.heap.size = B11 at I11 ⊢
  have ba11 := (Below.refl w11.heap.size w11).alloc (Nat.le_refl _) (.cells #[.int .u8 1, .int .u8 12, .int .u8 3, .int .u8 1, .int .u8 1, .int .u8 97, .int .u8 7] 5)
  have I12 := Lib.hid (And.intro (HKP.out _ _ I11.out.1 ba11) (And.intro (I11.out.2.1.keep ba11) (I11.out.2.2.keep ba11)))
  have L12 := slB_lit w11 [1, 12, 3, 1, 1, 97, 7] 7 rfl #[.int .u8 1, .int .u8 12, .int .u8 3, .int .u8 1, .int .u8 1, .int .u8 97, .int .u8 7] rfl
  have BE1 := Lib.hid (bEq_any A2 _ n2 7 m2 7 _ _ _ I12.out.1.2.2.1 L12)
  have EQ := Lib.hid ((equal_any wkC wkC none A4 0 n4 0 m4 _ (wk_in _) I12.out.1.2.2.2.i).mono (R' := fun e w' => e = .returned (.bool true) ∧ Below (w11.alloc (.cells #[.int .u8 1, .int .u8 12, .int .u8 3, .int .u8 1, .int .u8 1, .int .u8 97, .int .u8 7] 5)).heap.size (w11.alloc (.cells #[.int .u8 1, .int .u8 12, .int .u8 3, .int .u8 1, .int .u8 1, .int .u8 97, .int .u8 7] 5)) w') (fun e w' ⟨⟨q, he, hq⟩, hb⟩ => ⟨by rw [he, hq.2 rfl], hb⟩))
  have SHD := Lib.hid (fun V => shard_any wkC none 0 0 V)
  clear ba11 L12 I11
  go_wp2_with (first
    | (go_at_call 19; go_fit BE1.out; rintro e v ⟨rfl, rfl⟩; clear BE1)
    | (refine wpList_load_rowG (by rfl) 36 (.tmp 1) rfl _ rfl 36 (cA wkC none 0 0) (0, 0) _ I12.out.1.2.1 Tryz.underlying36 rfl (info24 _ _ _ _) ?_)
    | (refine wpList_load_rowG (by rfl) 36 (.tmp 4) rfl _ rfl 36 (cA wkC A4 n4 m4) (0, 0) _ I12.out.1.2.2.2.w Tryz.underlying36 rfl (info24 _ _ _ _) ?_)
    | (go_at_call 34; refine EQ.out.mono ?_; rintro e w13 ⟨rfl, hb⟩; have ba := (Below.refl w13.heap.size w13).alloc (Nat.le_refl _) (.cells #[.int .u8 5, .int .u8 1, .int .u8 1, .int .u8 120] 5); have I14 := Lib.hid (And.intro (HKP.out _ _ (HKP.out _ _ I12.out.1 hb) ba) (And.intro ((I12.out.2.1.keep hb).keep ba) ((I12.out.2.2.keep hb).keep ba))); have BE2 := Lib.hid (bEq_any A8 _ n8 4 m8 4 _ _ _ I14.out.2.1 (slB_lit w13 [5, 1, 1, 120] 4 rfl #[.int .u8 5, .int .u8 1, .int .u8 1, .int .u8 120] rfl)); obtain ⟨q0, q1, q2⟩ := whole4r I14.out.2.2; clear hb ba EQ)
    | (go_at_call 19; go_fit BE2.out; rintro e v ⟨rfl, rfl⟩; clear BE2)
    | (refine wpList_load_rowG (by rfl) 36 (.tmp 1) rfl _ rfl 36 (cA wkC none 0 0) (0, 0) _ I14.out.1.2.1 Tryz.underlying36 rfl (info24 _ _ _ _) ?_)
    | (go_at_call 32; refine (SHD.out _).mono ?_; rintro e w15 ⟨rfl, hb⟩; have B15 := Lib.hid (I14.out.1.1.trans (hb.mono I14.out.1.1.size)); clear hb))
  go_ret
  exact ⟨by rfl, B15.out⟩
end Go.Proofs.YtgjnmfmbheejoaaGreatDoor
