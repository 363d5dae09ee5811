/- Merged by program: CmRRe, CmRPr, CmRSp, CmRSh. -/
import Derived.Test.YtgjnmfmbheejoaaGreatDoorCmRp
import Derived.Test.YtgjnmfmbheejoaaGreatDoorRwA
import Derived.Test.YtgjnmfmbheejoaaGreatDoorRrA
import Derived.Test.YtgjnmfmbheejoaaGreatDoorCmRow
namespace Go.Proofs.YtgjnmfmbheejoaaGreatDoor
section
open Go.RowKit Go.Shelf

set_option maxHeartbeats 2000000 in
theorem ckRep09_any (r : Rv) (w : World) :
    Calls Tryz.prog 74 #[.agg (rA r)] w fun e w' => e = .returned (.int .i64 (ckR r)) ∧ Below w.heap.size w w' := by
  have HO : Hid (repOk r ↔ (0 ≤ r.e ∧ r.e ≤ 18) ∧ (-1152921504606846976 ≤ r.n ∧ r.n ≤ 1152921504606846976) ∧ r.data.size ≤ 65536) := Lib.hid Iff.rfl
  unfold rA
  by_cases h1 : r.e < 0
  · have HV : Hid (ckR r = 2) := Lib.hid (ckR_no (fun h => by have := HO.out.1 h; omega))
    go_enter Tryz.func74, Tryz.ntmps74
    go_wp2_with fail
    go_ret
    exact ⟨by rw [HV.out]; rfl, (Below.refl _ _).alloc (Nat.le_refl _) _⟩
  by_cases h2 : 18 < r.e
  · have HV : Hid (ckR r = 2) := Lib.hid (ckR_no (fun h => by have := HO.out.1 h; omega))
    go_enter Tryz.func74, Tryz.ntmps74
    go_wp2_with fail
    go_ret
    exact ⟨by rw [HV.out]; rfl, (Below.refl _ _).alloc (Nat.le_refl _) _⟩
  by_cases h3 : r.n < -1152921504606846976
  · have HV : Hid (ckR r = 2) := Lib.hid (ckR_no (fun h => by have := HO.out.1 h; omega))
    go_enter Tryz.func74, Tryz.ntmps74
    go_wp2_with fail
    go_ret
    exact ⟨by rw [HV.out]; rfl, (Below.refl _ _).alloc (Nat.le_refl _) _⟩
  by_cases h4 : 1152921504606846976 < r.n
  · have HV : Hid (ckR r = 2) := Lib.hid (ckR_no (fun h => by have := HO.out.1 h; omega))
    go_enter Tryz.func74, Tryz.ntmps74
    go_wp2_with fail
    go_ret
    exact ⟨by rw [HV.out]; rfl, (Below.refl _ _).alloc (Nat.le_refl _) _⟩
  by_cases h5 : 65536 < r.data.size
  · have HV : Hid (ckR r = 2) := Lib.hid (ckR_no (fun h => by have := (HO.out.1 h).2.2; omega))
    have h5' : (65536 : Int) < (r.data.size : Int) := by omega
    clear h5
    go_enter Tryz.func74, Tryz.ntmps74
    go_wp2_with fail
    go_ret
    exact ⟨by rw [HV.out]; rfl, (Below.refl _ _).alloc (Nat.le_refl _) _⟩
  · have HV : Hid (ckR r = 0) := Lib.hid (ckR_yes (HO.out.2 ⟨by omega, by omega, by omega⟩))
    have h5' : ¬ ((65536 : Int) < (r.data.size : Int)) := by omega
    clear h5
    go_enter Tryz.func74, Tryz.ntmps74
    go_wp2_with fail
    go_ret
    exact ⟨by rw [HV.out]; rfl, (Below.refl _ _).alloc (Nat.le_refl _) _⟩
set_option maxHeartbeats 1000000 in
theorem rckRep_any (r : Rv) (w : World) :
    Calls Tryz.prog 23 #[.agg (rA r)] w fun e w' => e = .returned (.int .i64 (ckR r)) ∧ Below w.heap.size w w' := by
  have CK := fun V => ckRep09_any r V
  have HB := Lib.hid ((Below.refl w.heap.size w).alloc (Nat.le_refl _) (.cells (rA r) 40))
  generalize ckR r = q at CK ⊢
  unfold rA at CK HB ⊢
  have CK := Lib.hid CK
  go_enter Tryz.func23, Tryz.ntmps23
  go_wp2_with (go_at_call 74; refine (CK.out _).mono ?_; rintro e w1 ⟨rfl, hb⟩; have B1 := Lib.hid (HB.out.trans (hb.mono HB.out.size)); clear hb)
  go_ret
  exact ⟨rfl, B1.out⟩
theorem ruint_z (C base : Nat) (v : Int) (h0 : 0 ≤ v) (h1 : v ≤ 2147483648) (l : List UInt8) (w : World) (h : WrQ w base C l) (hl : l.length ≤ 1000100) :
    Calls Tryz.prog 68 #[.pointer (some ⟨C, 0, none⟩), .int .u64 v] w fun e w' => e = .returned (.tuple #[]) ∧ WrQ w' base C (l ++ uvB v.toNat) ∧ WrK w w' base C := by
  have U := ruint_w C base v.toNat l w h (by omega) (by omega)
  rw [ofNat_toNat h0] at U
  exact U
set_option maxRecDepth 100000 in
set_option maxHeartbeats 4000000 in
theorem rreply_any (r : Rv) (w : World) :
    Calls Tryz.prog 21 #[.agg (rA r)] w fun e w' => RepR r w w' e := by
  have B1 := Lib.hid ((Below.refl w.heap.size w).alloc (Nat.le_refl _) (.cells (rA r) 40))
  have C1 := Lib.hid (Whole.new w 40 (rA r))
  have CK := fun V => rckRep_any r V
  by_cases hok : repOk r
  case neg =>
    have HV : Hid (repB r = [] ∧ repE r = 2) := Lib.hid (by unfold repB repE; rw [if_neg (fun e => hok e.1), if_neg hok]; exact ⟨rfl, rfl⟩)
    rw [ckR_no hok] at CK
    have CK := Lib.hid CK
    clear hok
    unfold rA
    unfold rA at B1 C1 CK
    go_enter Tryz.func21, Tryz.ntmps21
    go_wp2_with (go_at_call 23; refine (CK.out _).mono ?_; rintro e w2 ⟨rfl, hb⟩; have B2 := Lib.hid (B1.out.trans (hb.mono B1.out.size)); clear hb)
    go_ret2
    unfold RepR
    rw [HV.out.1, HV.out.2]
    exact ⟨⟨none, 0, 0, rfl, slB_nil _, Nat.le_refl _⟩, B2.out⟩
  case pos =>
    rw [ckR_yes hok] at CK
    have CK := Lib.hid CK
    have HOK := Lib.hid hok
    obtain ⟨⟨h1, h2⟩, ⟨h3, h4⟩, h5⟩ := hok
    have hwk : IntKind.u64.wrap r.e = r.e := by rw [IntKind.wrap_u64]; omega
    have hl1 := uvB_10 (v := r.e) h1 (by omega)
    have hl2 := uvB_len10 (n := zig r.n) (zig_lt (by omega) (by omega))
    have U1 := Lib.hid (fun (base C : Nat) (V : World) (h : WrQ V base C []) => ruint_z C base r.e h1 (by omega) [] V h (by simp))
    have U2 := Lib.hid (fun (base C : Nat) (V : World) (h : WrQ V base C ([] ++ uvB r.e.toNat)) => rint_w C base r.n _ V h (by omega) (by omega) (by rw [List.nil_append]; omega))
    have U3 := Lib.hid (fun (base C : Nat) (V : World) (h : WrQ V base C (([] ++ uvB r.e.toNat) ++ uvB (zig r.n))) => rtext_w C base r.data _ V h (by omega) (by rw [List.nil_append, List.length_append]; omega))
    have HBY : Hid ((([] ++ uvB r.e.toNat) ++ uvB (zig r.n)) ++ txB r.data.data.toList = bytesR r) := Lib.hid (by unfold bytesR; simp)
    have HLN : Hid ((bytesR r).length ≤ 1000000) := Lib.hid (by have := bytesR_len HOK.out; omega)
    clear h1 h2 h3 h4 h5 hl1 hl2
    unfold rA
    unfold rA at B1 C1 CK
    go_enter Tryz.func21, Tryz.ntmps21
    go_upto_region 1 with fail
    generalize w.alloc (.cells #[.int .i64 r.e, .int .i64 r.n, .string r.data] 40) = w1 at B1 C1 ⊢
    have HC1 := Lib.hid (fun (V : World) (hb : Below w1.heap.size w1 V) => rep_cells (r := r) (C1.out.keep hb))
    obtain ⟨x0, x1, x2⟩ := HC1.out w1 (Below.refl _ _)
    go_upto_region 3 with (go_at_call 23; refine (CK.out _).mono ?_; rintro e w2 ⟨rfl, hb⟩; have B2 := Lib.hid (And.intro (B1.out.trans (hb.mono B1.out.size)) hb); clear hb)
    clear x0 x1 x2
    have NW := Lib.hid ((rnew_any w2).mono (R' := fun e w' => e = .returned (.pointer (some ⟨w2.heap.size, 0, none⟩)) ∧ WrQ w' w2.heap.size w2.heap.size [] ∧ Below w2.heap.size w2 w') (fun e w' ⟨he, hw⟩ => ⟨he, by rw [hw]; exact WrQ.new w2 (Nat.le_refl _), by rw [hw]; exact (Below.refl _ _).alloc (Nat.le_refl _) _⟩))
    go_upto_region 4 with (go_at_call 67; refine NW.out.mono ?_; rintro e w3 ⟨rfl, hP, hb⟩; have P3 := Lib.hid (And.intro hP hb); obtain ⟨x0, x1, x2⟩ := HC1.out w3 (B2.out.2.trans (hb.mono B2.out.2.size)); clear hP hb NW)
    have U1 := Lib.hid (U1.out _ _ _ P3.out.1)
    go_upto_region 5 with (go_at_call 68; refine U1.out.mono ?_; rintro e w4 ⟨rfl, hP, hK⟩; have P4 := Lib.hid (And.intro hP (P3.out.2.trans hK.1)); clear x0 x1 x2 hP hK U1; obtain ⟨x0, x1, x2⟩ := HC1.out w4 (B2.out.2.trans (P4.out.2.mono B2.out.2.size)))
    have U2 := Lib.hid (U2.out _ _ _ P4.out.1)
    go_upto_region 6 with (go_at_call 69; refine U2.out.mono ?_; rintro e w5 ⟨rfl, hP, hK⟩; have P5 := Lib.hid (And.intro hP (P4.out.2.trans hK.1)); clear x0 x1 x2 hP hK U2; obtain ⟨x0, x1, x2⟩ := HC1.out w5 (B2.out.2.trans (P5.out.2.mono B2.out.2.size)))
    have U3 := Lib.hid (U3.out _ _ _ P5.out.1)
    go_upto_region 7 with (go_at_call 70; refine U3.out.mono ?_; rintro e w6 ⟨rfl, hP, hK⟩; rw [HBY.out] at hP; have P6 := Lib.hid (And.intro hP (P5.out.2.trans hK.1)); clear x0 x1 x2 hP hK U3)
    have LN := Lib.hid (rlen_w _ _ (bytesR r) w6 P6.out.1 (by have := HLN.out; omega))
    have B6 := Lib.hid (B2.out.1.trans (P6.out.2.mono B2.out.1.size))
    by_cases hl : 65536 < (bytesR r).length
    · have hl' : (65536 : Int) < ((bytesR r).length : Int) := by omega
      have HV : Hid (repB r = [] ∧ repE r = 11) := Lib.hid (by unfold repB repE; rw [if_neg (fun e => by omega), if_pos HOK.out, if_neg (by omega)]; exact ⟨rfl, rfl⟩)
      clear hl
      go_wp2_with (go_at_call 71; refine LN.out.mono ?_; rintro e w7 ⟨rfl, hb⟩; have B7 := Lib.hid (B6.out.trans (hb.mono B6.out.size)); clear hb)
      go_ret2
      unfold RepR
      rw [HV.out.1, HV.out.2]
      exact ⟨⟨none, 0, 0, rfl, slB_nil _, Nat.le_refl _⟩, B7.out⟩
    · have hl' : ¬ ((65536 : Int) < ((bytesR r).length : Int)) := by omega
      have HV : Hid (repB r = bytesR r ∧ repE r = 0) := Lib.hid (by unfold repB repE; rw [if_pos ⟨HOK.out, by omega⟩, if_pos HOK.out, if_pos (by omega)]; exact ⟨rfl, rfl⟩)
      have BY := Lib.hid (fun (V : World) (hb : Below w6.heap.size w6 V) => rbytes_w _ _ (bytesR r) V (P6.out.1.keep hb) (by have := HLN.out; omega))
      clear hl
      go_wp2_with (first
        | (go_at_call 71; refine LN.out.mono ?_; rintro e w7 ⟨rfl, hb⟩; have BY := Lib.hid (BY.out w7 hb); have B7 := Lib.hid (B6.out.trans (hb.mono B6.out.size)); clear hb)
        | (go_at_call 72; refine BY.out.mono ?_; rintro e w8 ⟨⟨v8, rfl, ho⟩, hb⟩; obtain ⟨A8, c8, rfl, hc8⟩ := own_slice2 ho; have B8 := Lib.hid (And.intro (B7.out.trans (hb.mono B7.out.size)) (And.intro (SlB.of_own ho) hc8)); clear ho hb hc8))
      go_ret2
      unfold RepR
      rw [HV.out.1, HV.out.2]
      exact ⟨⟨_, _, _, rfl, B8.out.2.1, B8.out.2.2⟩, B8.out.1⟩
end
section
open Go.RowKit Go.Shelf

set_option maxHeartbeats 1000000 in
theorem rsmall_any (C : Nat) (st : WS) (w : World) (h : RdQ w C st) :
    Calls Tryz.prog 51 #[.pointer (some ⟨C, 0, none⟩)] w fun e w' => e = .returned (.int .i64 ((wSm 2147483648 st).1 : Int)) ∧ RdQ w' C (wSm 2147483648 st).2 ∧ w.grownBy w' (some C) := by
  have U := Lib.hid (quint_any C st w h)
  have hlt := wU_lt st
  unfold wSm
  generalize wU st = q at U hlt ⊢
  obtain ⟨n, s2⟩ := q
  dsimp only at U hlt ⊢
  clear h
  by_cases hc : 2147483648 < n
  · have hc' : (2147483648 : Int) < (n : Int) := by omega
    rw [if_pos hc]
    clear hc hlt
    go_enter Tryz.func51, Tryz.ntmps51
    go_wp2_with (first
      | (go_at_call 114; refine U.out.mono ?_; rintro e w1 ⟨rfl, hP, hg⟩; have F := Lib.hid (qfail_any C s2 w1 hP); have HG := Lib.hid hg; clear hP hg)
      | (go_at_call 52; refine F.out.mono ?_; rintro e w2 ⟨rfl, hP2, hg2⟩))
    go_ret
    exact ⟨rfl, hP2, grown_trans HG.out hg2⟩
  · have hc' : ¬ ((2147483648 : Int) < (n : Int)) := by omega
    have hwn : IntKind.i64.wrap (n : Int) = (n : Int) := IntWalk.i64_in _ (by omega)
    rw [if_neg hc]
    clear hc hlt
    go_enter Tryz.func51, Tryz.ntmps51
    go_wp2_with (go_at_call 114; refine U.out.mono ?_; rintro e w1 ⟨rfl, hP, hg⟩)
    go_ret
    exact ⟨rfl, hP, hg⟩
/-- What ParseReply holds in memory. -/
structure PrJ (w : World) (B C : Nat) (r : Rv) (st : WS) (W : World) : Prop where
  bl : Below w.heap.size w W
  bx : Whole W B 40 (rA r)
  rd : RdQ W C st
  rs : Whole W w.heap.size 40 (rA zeroR)
  o1 : w.heap.size < C
  o2 : C < B
theorem PrJ.keep {w W W' : World} {B C : Nat} {r : Rv} {st : WS} (h : PrJ w B C r st W) (hb : Below W.heap.size W W') : PrJ w B C r st W' :=
  ⟨h.bl.trans (hb.mono h.bl.size), h.bx.keep hb, h.rd.keep hb, h.rs.keep hb, h.o1, h.o2⟩
theorem PrJ.put {w W W1 : World} {B C : Nat} {r r' : Rv} {st st' : WS} (h : PrJ w B C r st W) (hg : W.grownBy W1 (some C)) (hP : RdQ W1 C st') (i : Nat) (v u : Value) (hu : (rA r)[i]? = some u) (hput : (rA r).setIfInBounds i v = rA r') :
    W1.cell? ⟨B, i, none⟩ = some u ∧ W1.frozen? ⟨B, i, none⟩ = false ∧ Hid (PrJ w B C r' st' (W1.setCell ⟨B, i, none⟩ v)) := by
  have o1 := h.o1
  have o2 := h.o2
  have hb := h.bl.grown hg h.bl.size (fun k e => by cases e; omega)
  have g2 := grown_set (World.grownBy.refl W1 (some B)) i v
  have hx := h.bx.grown hg (fun e => by have := Option.some.inj e; omega)
  have hw := hx.put i v
  rw [hput] at hw
  exact ⟨(hx.cell i).trans hu, hx.fr i, ⟨hb.grown g2 hb.size (fun k e => by cases e; omega), hw, hP.other g2 (fun k e => by cases e; exact o2), (h.rs.grown hg (fun e => by have := Option.some.inj e; omega)).grown g2 (fun e => by have := Option.some.inj e; omega), o1, o2⟩⟩
set_option maxRecDepth 100000 in
set_option maxHeartbeats 4000000 in
theorem rpreply_any (Ab : Option Addr) (nb cb : Nat) (b : List UInt8) (w : World) (hb : SlB w Ab nb b) (hn : nb ≤ 1000000000000) :
    Calls Tryz.prog 17 #[.slice Ab nb cb] w fun e w' => PrR b w w' e := by
  have B1 := Lib.hid ((Below.refl w.heap.size w).alloc (Nat.le_refl _) (.cells (rA zeroR) 40))
  have R1 := Lib.hid (Whole.new w 40 (rA zeroR))
  have HSZ := Lib.hid (World.size_alloc w (.cells (rA zeroR) 40))
  have RD := Lib.hid (rread_any Ab nb cb b _ (hb.keep B1.out) hn)
  have HL := Lib.hid hb.1
  obtain ⟨k, hk⟩ : ∃ k : Int, k = ((wSm 2147483648 (some b)).1 : Int) := ⟨_, rfl⟩
  obtain ⟨s0, hs0⟩ : ∃ s, s = (wSm 2147483648 (some b)).2 := ⟨_, rfl⟩
  obtain ⟨v, hv⟩ : ∃ v : Int, v = (wI s0).1 := ⟨_, rfl⟩
  obtain ⟨s1, hs1⟩ : ∃ s, s = (wI s0).2 := ⟨_, rfl⟩
  obtain ⟨x, hx⟩ : ∃ x : ByteArray, x = ⟨(wT s1).1.toArray⟩ := ⟨_, rfl⟩
  obtain ⟨s2, hs2⟩ : ∃ s, s = (wT s1).2 := ⟨_, rfl⟩
  have HRD : Hid (rdR 2147483648 b = (⟨k, v, x⟩, s2)) := Lib.hid (by rw [hs2, hx, hs1, hv, hs0, hk]; rfl)
  have SM := fun (C : Nat) (V : World) (h : RdQ V C (some b)) => rsmall_any C (some b) V h
  rw [← hk, ← hs0] at SM
  have SI := fun (C : Nat) (V : World) (h : RdQ V C s0) => qint_any C s0 V h
  rw [← hv, ← hs1] at SI
  have ST := fun (C : Nat) (V : World) (h : RdQ V C s1) => qtext_any C s1 V h
  rw [← hx, ← hs2] at ST
  have SM := Lib.hid SM
  have SI := Lib.hid SI
  have ST := Lib.hid ST
  clear hb hk hs0 hv hs1 hx hs2
  unfold rA zeroR at B1 R1 RD HSZ
  dsimp only at B1 R1 RD HSZ
  go_enter Tryz.func17, Tryz.ntmps17
  go_upto_region 1 with fail
  generalize w.alloc (.cells #[.int .i64 0, .int .i64 0, .string ⟨#[]⟩] 40) = w1 at B1 R1 RD HSZ ⊢
  go_upto_region 2 with (go_at_call 50; refine RD.out.mono ?_; rintro e w2 ⟨⟨C, rfl, hC, hP⟩, hb⟩; have H2 := Lib.hid (And.intro hC (And.intro hP (And.intro (B1.out.trans (hb.mono B1.out.size)) (R1.out.keep hb)))); clear hC hP hb RD)
  have SM := Lib.hid (SM.out C w2 H2.out.2.1)
  have I3 : Hid (∀ w3, RdQ w3 C s0 → w2.grownBy w3 (some C) → PrJ w w3.heap.size C ⟨k, 0, ⟨#[]⟩⟩ s0 (w3.alloc (.cells #[.int .i64 k, .int .i64 0, .string ⟨#[]⟩] 40))) := Lib.hid (fun w3 hP hg => by
    have h1 := H2.out.1
    have h2 := HSZ.out
    have ba := (Below.refl w3.heap.size w3).alloc (Nat.le_refl _) (.cells #[.int .i64 k, .int .i64 0, .string ⟨#[]⟩] 40)
    have b3 := H2.out.2.2.1.grown hg H2.out.2.2.1.size (fun j e => by cases e; omega)
    exact ⟨b3.trans (ba.mono b3.size), Whole.new w3 _ _, hP.keep ba, (H2.out.2.2.2.grown hg (fun e => by have := Option.some.inj e; omega)).keep ba, by omega, hP.lt⟩)
  clear B1 R1 HSZ
  go_upto_region 3 with (go_at_call 51; refine SM.out.mono ?_; rintro e w3 ⟨rfl, hP, hg⟩; have I3 := Lib.hid (I3.out w3 hP hg); clear hP hg SM)
  clear H2
  generalize w3.alloc (.cells #[.int .i64 k, .int .i64 0, .string ⟨#[]⟩] 40) = w4 at I3 ⊢
  generalize w3.heap.size = B at I3 ⊢
  have SI := Lib.hid (SI.out C w4 I3.out.rd)
  go_upto_region 4 with (go_at_call 54; refine SI.out.mono ?_; rintro e w5 ⟨rfl, hP, hg⟩; obtain ⟨y, f, I5⟩ := I3.out.put (r' := ⟨k, v, ⟨#[]⟩⟩) hg hP 1 (.int .i64 v) (.int .i64 0) rfl (by simp [rA]); clear hP hg SI)
  clear y f I3
  generalize w5.setCell ⟨B, 1, none⟩ (.int .i64 v) = w6 at I5 ⊢
  have ST := Lib.hid (ST.out C w6 I5.out.rd)
  go_upto_region 5 with (go_at_call 53; refine ST.out.mono ?_; rintro e w7 ⟨rfl, hP, hg⟩; obtain ⟨y, f, I7⟩ := I5.out.put (r' := ⟨k, v, x⟩) hg hP 2 (.string x) (.string ⟨#[]⟩) rfl (by simp [rA]); clear hP hg ST)
  clear y f I5
  generalize w7.setCell ⟨B, 2, none⟩ (.string x) = w8 at I7 ⊢
  have HOKB : Hid (nb ≤ 65536 → wEnd s2 = 0 → repOk ⟨k, v, x⟩ → RDecR b ⟨k, v, x⟩ 0) := Lib.hid (fun h1 h2 h3 => by have := rdR_ok (most := 2147483648) (b := b) (by rw [HL.out]; exact h1) (by rw [HRD.out]; exact h2) (by rw [HRD.out]; exact h3); rw [HRD.out] at this; exact this)
  have HBAD : Hid (¬ (nb ≤ 65536 ∧ wEnd s2 = 0 ∧ repOk ⟨k, v, x⟩) → RDecR b zeroR 10) := Lib.hid (fun h => rdR_bad (most := 2147483648) (by decide) (by decide) (by rw [HL.out, HRD.out]; exact h))
  have EN := qend_any C s2 w8 I7.out.rd
  have CK := fun V => rckRep_any ⟨k, v, x⟩ V
  obtain ⟨y0, y1, y2⟩ := rep_cells I7.out.bx
  obtain ⟨z0, z1, z2⟩ := rep_cells I7.out.rs
  have f0 := I7.out.rs.fr 0
  have f1 := I7.out.rs.fr 1
  have f2 := I7.out.rs.fr 2
  have HBL := Lib.hid I7.out.bl
  dsimp only at y0 y1 y2
  have z0' : w8.cell? ⟨w.heap.size, 0, none⟩ = some (.int .i64 0) := z0
  have z1' : w8.cell? ⟨w.heap.size, 1, none⟩ = some (.int .i64 0) := z1
  have z2' : w8.cell? ⟨w.heap.size, 2, none⟩ = some (.string ⟨#[]⟩) := z2
  clear z0 z1 z2
  have HFB : Hid (∀ V, Below w.heap.size w V → ∀ a b c, Below w.heap.size w (((V.setCell ⟨w.heap.size, 0, none⟩ a).setCell ⟨w.heap.size, 1, none⟩ b).setCell ⟨w.heap.size, 2, none⟩ c)) := Lib.hid (fun V h a b c => h.grown (put3_grown V w.heap.size a b c) h.size (fun k e => by cases e; exact Nat.le_refl _))
  by_cases hlen : 65536 < nb
  · have PR : Hid (RDecR b zeroR 10) := Lib.hid (HBAD.out (fun h => by omega))
    have el : (65536 : Int) < (nb : Int) := by omega
    clear HOKB HBAD EN CK hlen
    go_wp2_with fail
    refine bodyPost_ret (v := .tuple #[.agg (rA zeroR), .int .i64 10]) (by simp [results, Tryz.results17, go_sem, rA, zeroR, z0', z1', z2']) rfl ?_
    exact ⟨⟨_, _, rfl, PR.out⟩, HFB.out _ HBL.out _ _ _⟩
  have el : ¬ ((65536 : Int) < (nb : Int)) := by omega
  by_cases hw0 : wEnd s2 = 0
  case neg =>
    have PR : Hid (RDecR b zeroR 10) := Lib.hid (HBAD.out (fun h => hw0 h.2.1))
    have he10 : wEnd s2 = 10 := by unfold wEnd at hw0 ⊢; split at hw0 <;> simp_all
    rw [he10] at EN
    have EN := Lib.hid EN
    clear HOKB HBAD CK hw0 he10
    go_wp2_with (go_at_call 58; refine EN.out.mono ?_; rintro e w9 ⟨rfl, rfl⟩)
    refine bodyPost_ret (v := .tuple #[.agg (rA zeroR), .int .i64 10]) (by simp [results, Tryz.results17, go_sem, rA, zeroR, z0', z1', z2']) rfl ?_
    exact ⟨⟨_, _, rfl, PR.out⟩, HFB.out _ HBL.out _ _ _⟩
  case pos =>
    rw [hw0] at EN
    have EN := Lib.hid EN
    have HKP := Lib.hid (fun (V : World) (hb : Below w8.heap.size w8 V) => And.intro (I7.out.keep hb).bl (And.intro (rep_cells (I7.out.keep hb).rs) (And.intro (rep_cells (I7.out.keep hb).bx) (And.intro (And.intro ((I7.out.keep hb).rs.fr 0) (And.intro ((I7.out.keep hb).rs.fr 1) ((I7.out.keep hb).rs.fr 2))) (I7.out.keep hb).rs.lt))))
    unfold rA at CK
    dsimp only at CK
    clear f0 f1 f2 z0' z1' z2'
    by_cases hok : repOk ⟨k, v, x⟩
    case neg =>
      have PR : Hid (RDecR b zeroR 10) := Lib.hid (HBAD.out (fun h => hok h.2.2))
      rw [ckR_no hok] at CK
      have CK := Lib.hid CK
      clear HOKB HBAD hw0 hok
      go_wp2_with (first
        | (go_at_call 58; refine EN.out.mono ?_; rintro e w9 ⟨rfl, rfl⟩)
        | (go_at_call 23; refine (CK.out _).mono ?_; rintro e w10 ⟨rfl, hb⟩; obtain ⟨hB, ⟨z0, z1, z2⟩, ⟨u0, u1, u2⟩, ⟨f0, f1, f2⟩, _⟩ := HKP.out w10 hb; have HB := Lib.hid hB; clear hb hB))
      have z0' : w10.cell? ⟨w.heap.size, 0, none⟩ = some (.int .i64 0) := z0
      have z1' : w10.cell? ⟨w.heap.size, 1, none⟩ = some (.int .i64 0) := z1
      have z2' : w10.cell? ⟨w.heap.size, 2, none⟩ = some (.string ⟨#[]⟩) := z2
      refine bodyPost_ret (v := .tuple #[.agg (rA zeroR), .int .i64 10]) (by simp [results, Tryz.results17, go_sem, rA, zeroR, z0', z1', z2']) rfl ?_
      exact ⟨⟨_, _, rfl, PR.out⟩, HFB.out _ HB.out _ _ _⟩
    case pos =>
      have PR : Hid (RDecR b ⟨k, v, x⟩ 0) := Lib.hid (HOKB.out (by omega) hw0 hok)
      rw [ckR_yes hok] at CK
      have CK := Lib.hid CK
      clear HOKB HBAD hw0 hok
      go_wp2_with (first
        | (go_at_call 58; refine EN.out.mono ?_; rintro e w9 ⟨rfl, rfl⟩)
        | (go_at_call 23; refine (CK.out _).mono ?_; rintro e w10 ⟨rfl, hb⟩; obtain ⟨hB, ⟨z0, z1, z2⟩, ⟨u0, u1, u2⟩, ⟨f0, f1, f2⟩, _⟩ := HKP.out w10 hb; have HB := Lib.hid hB; clear hb hB))
      have z0' : w10.cell? ⟨w.heap.size, 0, none⟩ = some (.int .i64 0) := z0
      have z1' : w10.cell? ⟨w.heap.size, 1, none⟩ = some (.int .i64 0) := z1
      have z2' : w10.cell? ⟨w.heap.size, 2, none⟩ = some (.string ⟨#[]⟩) := z2
      refine bodyPost_ret (v := .tuple #[.agg (rA ⟨k, v, x⟩), .int .i64 0]) (by simp [results, Tryz.results17, go_sem, rA, z0', z1', z2']) rfl ?_
      exact ⟨⟨_, _, rfl, PR.out⟩, HFB.out _ HB.out _ _ _⟩
end
section
open Go.RowKit Go.Shelf

theorem grown_new {a w : World} {row : Option Nat} {g : Nat} (h : a.grownBy w row) (hg : a.heap.size ≤ g) (i : Nat) (u : Value) : a.grownBy (w.setCell ⟨g, i, none⟩ u) row :=
  ⟨h.os, h.tape, h.output, by simpa [World.setCell] using h.size, fun k hk hne => (Below.heap_setCell w ⟨g, i, none⟩ u k (by rintro rfl; exact absurd hk (by omega))).trans (h.block k hk hne)⟩
set_option maxHeartbeats 1000000 in
theorem rspan_any (C : Nat) (st : WS) (w : World) (h : RdQ w C st) :
    Calls Tryz.prog 55 #[.pointer (some ⟨C, 0, none⟩)] w fun e w' => e = .returned (.agg #[.string ⟨(wT st).1.toArray⟩, .string ⟨(wT (wT st).2).1.toArray⟩]) ∧ RdQ w' C (wT (wT st).2).2 ∧ w.grownBy w' (some C) := by
  obtain ⟨f, hf⟩ : ∃ f : ByteArray, f = ⟨(wT st).1.toArray⟩ := ⟨_, rfl⟩
  obtain ⟨s1, hs1⟩ : ∃ s, s = (wT st).2 := ⟨_, rfl⟩
  obtain ⟨t, ht⟩ : ∃ f : ByteArray, f = ⟨(wT s1).1.toArray⟩ := ⟨_, rfl⟩
  obtain ⟨s2, hs2⟩ : ∃ s, s = (wT s1).2 := ⟨_, rfl⟩
  have T1 := fun V (hV : RdQ V C st) => qtext_any C st V hV
  have T2 := fun V (hV : RdQ V C s1) => qtext_any C s1 V hV
  rw [← hf, ← hs1] at T1
  rw [← ht, ← hs2] at T2
  rw [← hf, ← hs1, ← ht, ← hs2]
  have T1 := Lib.hid T1
  have T2 := Lib.hid T2
  have b1 := (Below.refl w.heap.size w).alloc (Nat.le_refl _) (.cells #[.string ⟨#[]⟩, .string ⟨#[]⟩] 28)
  have HLT := Lib.hid h.lt
  have I1 := Lib.hid (And.intro (h.keep b1) (And.intro (World.grownBy_alloc w (.cells #[.string ⟨#[]⟩, .string ⟨#[]⟩] 28) (some C)) (Whole.new w 28 #[.string ⟨#[]⟩, .string ⟨#[]⟩])))
  clear h b1 hf hs1 ht hs2
  go_enter Tryz.func55, Tryz.ntmps55
  go_upto_region 1 with fail
  generalize w.alloc (.cells #[.string ⟨#[]⟩, .string ⟨#[]⟩] 28) = w1 at I1 ⊢
  go_upto_region 2 with (go_at_call 53; refine (T1.out w1 I1.out.1).mono ?_; rintro e w2 ⟨rfl, hP, hg⟩; have I2 := Lib.hid (And.intro hP (And.intro (grown_trans I1.out.2.1 hg) (I1.out.2.2.grown hg (fun e => by have := Option.some.inj e; have := HLT.out; omega)))); clear hP hg)
  clear I1 T1
  have T2 := Lib.hid (T2.out w2 I2.out.1)
  go_wp2_with (go_at_call 53; refine T2.out.mono ?_; rintro e w3 ⟨rfl, hP, hg⟩; have I3 := Lib.hid (And.intro hP (And.intro (grown_trans I2.out.2.1 hg) (I2.out.2.2.grown hg (fun e => by have := Option.some.inj e; have := HLT.out; omega)))); have y0 : w3.cell? ⟨w.heap.size, 0, none⟩ = some (.string ⟨#[]⟩) := I3.out.2.2.cell 0; have y1 : w3.cell? ⟨w.heap.size, 1, none⟩ = some (.string ⟨#[]⟩) := I3.out.2.2.cell 1; have f0 := I3.out.2.2.fr 0; have f1 := I3.out.2.2.fr 1; clear hP hg)
  have Z := (I3.out.2.2.put 0 (.string f)).put 1 (.string t)
  have z0 : ((w3.setCell ⟨w.heap.size, 0, none⟩ (.string f)).setCell ⟨w.heap.size, 1, none⟩ (.string t)).cell? ⟨w.heap.size, 0, none⟩ = some (.string f) := Z.cell 0
  have z1 : ((w3.setCell ⟨w.heap.size, 0, none⟩ (.string f)).setCell ⟨w.heap.size, 1, none⟩ (.string t)).cell? ⟨w.heap.size, 1, none⟩ = some (.string t) := Z.cell 1
  refine bodyPost_ret (v := .agg #[.string f, .string t]) (by simp [results, Tryz.results55, go_sem, z0, z1]) rfl ?_
  exact ⟨rfl, I3.out.1.other (grown_set (grown_set (World.grownBy.refl w3 (some w.heap.size)) 0 _) 1 _) (fun k e => by cases e; exact HLT.out), grown_new (grown_new I3.out.2.1 (Nat.le_refl _) 0 _) (Nat.le_refl _) 1 _⟩
end
section
open Go.RowKit Go.Shelf

theorem rshard_any (c : Cv) (A : Option Addr) (n m : Nat) (w : World) :
    Calls Tryz.prog 33 #[.agg (cA c A n m)] w fun e w' => e = .returned (.bool (decide (0 ≤ c.k ∧ c.k ≤ 4))) ∧ Below w.heap.size w w' := by
  have C1 := Whole.new w 36 (cA c A n m)
  have xk : (w.alloc (.cells (cA c A n m) 36)).cell? ⟨w.heap.size, 0, none⟩ = some (.int .i64 c.k) := C1.cell 0
  have HB := Lib.hid ((Below.refl w.heap.size w).alloc (Nat.le_refl _) (.cells (cA c A n m) 36))
  clear C1
  generalize hq : decide (0 ≤ c.k ∧ c.k ≤ 4) = q
  have HQ := Lib.hid hq
  clear hq
  rcases (show c.k < 0 ∨ (0 ≤ c.k ∧ c.k ≤ 4) ∨ (0 ≤ c.k ∧ 4 < c.k) by omega) with h0 | ⟨h0, h1⟩ | ⟨h0, h1⟩
  all_goals
    go_enter Tryz.func33, Tryz.ntmps33
    go_wp2
    go_ret
    exact ⟨by rw [← HQ.out]; simp <;> omega, HB.out⟩
end
end Go.Proofs.YtgjnmfmbheejoaaGreatDoor
