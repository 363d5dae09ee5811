/- Merged by program: CmRep, CmPr. -/
import Derived.Test.YtgjnmfmbheejoaaGreatDoorCmA
import Derived.Test.YtgjnmfmbheejoaaGreatDoorCmRR
import Derived.Test.YtgjnmfmbheejoaaGreatDoorCmWr
namespace Go.Proofs.YtgjnmfmbheejoaaGreatDoor
section
open Go.RowKit Go.Shelf

def rA (r : Rv) : Array Value := #[.int .i64 r.e, .int .i64 r.n, .string r.data]
structure RepZ (r : Rv) : Prop where
  e : In64 r.e
  n : In64 r.n
  data : r.data.size ≤ 9223372036854775807
theorem rep_cells {W : World} {B : Nat} {t : TypeId} {r : Rv} (h : Whole W B t (rA r)) : W.cell? ⟨B, 0, none⟩ = some (.int .i64 r.e) ∧ W.cell? ⟨B, 1, none⟩ = some (.int .i64 r.n) ∧ W.cell? ⟨B, 2, none⟩ = some (.string r.data) := ⟨h.cell 0, h.cell 1, h.cell 2⟩
set_option maxHeartbeats 2000000 in
theorem ckRep_any (r : Rv) (w : World) :
    Calls Tryz.prog 22 #[.agg (rA r)] w fun e w' => e = .returned (.int .i64 (ckR r)) ∧ Below w.heap.size w w' := by
  have NC := Lib.hid (fun V => numCheck_any r.n V)
  have HO : Hid (repOk r ↔ (0 ≤ r.e ∧ r.e ≤ 18) ∧ (-1152921504606846976 ≤ r.n ∧ r.n ≤ 1152921504606846976) ∧ r.data.size ≤ 65536) := Lib.hid Iff.rfl
  unfold rA
  by_cases h1 : r.e < 0
  · have HV : Hid (ckR r = 2) := Lib.hid (ckR_no (fun h => by have := HO.out.1 h; omega))
    go_enter Tryz.func22, Tryz.ntmps22
    go_wp2_with fail
    go_ret
    exact ⟨by rw [HV.out]; rfl, (Below.refl _ _).alloc (Nat.le_refl _) _⟩
  by_cases h2 : 18 < r.e
  · have HV : Hid (ckR r = 2) := Lib.hid (ckR_no (fun h => by have := HO.out.1 h; omega))
    go_enter Tryz.func22, Tryz.ntmps22
    go_wp2_with fail
    go_ret
    exact ⟨by rw [HV.out]; rfl, (Below.refl _ _).alloc (Nat.le_refl _) _⟩
  by_cases h3 : -1152921504606846976 ≤ r.n ∧ r.n ≤ 1152921504606846976
  case neg =>
    have HV : Hid (ckR r = 2) := Lib.hid (ckR_no (fun h => h3 (HO.out.1 h).2.1))
    have NC := NC.out
    rw [if_neg h3] at NC
    have NC := Lib.hid NC
    clear h3
    go_enter Tryz.func22, Tryz.ntmps22
    go_wp2_with (go_at_call 73; refine (NC.out _).mono ?_; rintro e w1 ⟨rfl, rfl⟩)
    go_ret
    exact ⟨by rw [HV.out]; rfl, (Below.refl _ _).alloc (Nat.le_refl _) _⟩
  case pos =>
    have NC := NC.out
    rw [if_pos h3] at NC
    have NC := Lib.hid NC
    by_cases h4 : 65536 < r.data.size
    · have HV : Hid (ckR r = 2) := Lib.hid (ckR_no (fun h => by have := (HO.out.1 h).2.2; omega))
      have h4' : (65536 : Int) < (r.data.size : Int) := by omega
      clear h3 h4
      go_enter Tryz.func22, Tryz.ntmps22
      go_wp2_with (go_at_call 73; refine (NC.out _).mono ?_; rintro e w1 ⟨rfl, rfl⟩)
      go_ret
      exact ⟨by rw [HV.out]; rfl, (Below.refl _ _).alloc (Nat.le_refl _) _⟩
    · have HV : Hid (ckR r = 0) := Lib.hid (ckR_yes (HO.out.2 ⟨by omega, h3, by omega⟩))
      have h4' : ¬ ((65536 : Int) < (r.data.size : Int)) := by omega
      clear h3 h4
      go_enter Tryz.func22, Tryz.ntmps22
      go_wp2_with (go_at_call 73; refine (NC.out _).mono ?_; rintro e w1 ⟨rfl, rfl⟩)
      go_ret
      exact ⟨by rw [HV.out]; rfl, (Below.refl _ _).alloc (Nat.le_refl _) _⟩
/-- What Reply answers. -/
def RepR (r : Rv) (w w' : World) (e : Ending) : Prop := (∃ A n m, e = .returned (.tuple #[.slice A n m, .int .i64 (repE r)]) ∧ SlB w' A n (repB r) ∧ n ≤ m) ∧ Below w.heap.size w w'
set_option maxRecDepth 100000 in
set_option maxHeartbeats 4000000 in
theorem reply_any (r : Rv) (w : World) :
    Calls Tryz.prog 20 #[.agg (rA r)] w fun e w' => RepR r w w' e := by
  have B1 := Lib.hid ((Below.refl w.heap.size w).alloc (Nat.le_refl _) (.cells (rA r) 40))
  have C1 := Lib.hid (Whole.new w 40 (rA r))
  have CK := fun V => ckRep_any r V
  by_cases hok : repOk r
  case neg =>
    have HV : Hid (repB r = [] ∧ repE r = 2) := Lib.hid (by unfold repB repE; rw [if_neg (fun e => hok e.1), if_neg hok]; exact ⟨rfl, rfl⟩)
    rw [ckR_no hok] at CK
    have CK := Lib.hid CK
    clear hok
    unfold rA
    unfold rA at B1 C1 CK
    go_enter Tryz.func20, Tryz.ntmps20
    go_wp2_with (go_at_call 22; refine (CK.out _).mono ?_; rintro e w2 ⟨rfl, hb⟩; have B2 := Lib.hid (B1.out.trans (hb.mono B1.out.size)); clear hb)
    go_ret2
    unfold RepR
    rw [HV.out.1, HV.out.2]
    exact ⟨⟨none, 0, 0, rfl, slB_nil _, Nat.le_refl _⟩, B2.out⟩
  case pos =>
    rw [ckR_yes hok] at CK
    have CK := Lib.hid CK
    have HOK := Lib.hid hok
    obtain ⟨⟨h1, h2⟩, ⟨h3, h4⟩, h5⟩ := hok
    have hwk : IntKind.u64.wrap r.e = r.e := by rw [IntKind.wrap_u64]; omega
    have hl1 := uvB_10 (v := r.e) h1 (by omega)
    have hl2 := uvB_len10 (n := zig r.n) (zig_lt (by omega) (by omega))
    have U1 := Lib.hid (fun (base C : Nat) (V : World) (h : WrP V base C []) => uint_z C base r.e h1 (by omega) [] V h (by simp))
    have U2 := Lib.hid (fun (base C : Nat) (V : World) (h : WrP V base C ([] ++ uvB r.e.toNat)) => wint_any C base r.n _ V h (by omega) (by omega) (by rw [List.nil_append]; omega))
    have U3 := Lib.hid (fun (base C : Nat) (V : World) (h : WrP V base C (([] ++ uvB r.e.toNat) ++ uvB (zig r.n))) => wtext_any C base r.data _ V h (by omega) (by rw [List.nil_append, List.length_append]; omega))
    have HBY : Hid ((([] ++ uvB r.e.toNat) ++ uvB (zig r.n)) ++ txB r.data.data.toList = bytesR r) := Lib.hid (by unfold bytesR; simp)
    have HLN : Hid ((bytesR r).length ≤ 1000000) := Lib.hid (by have := bytesR_len HOK.out; omega)
    clear h1 h2 h3 h4 h5 hl1 hl2
    unfold rA
    unfold rA at B1 C1 CK
    go_enter Tryz.func20, Tryz.ntmps20
    go_upto_region 1 with fail
    generalize w.alloc (.cells #[.int .i64 r.e, .int .i64 r.n, .string r.data] 40) = w1 at B1 C1 ⊢
    have HC1 := Lib.hid (fun (V : World) (hb : Below w1.heap.size w1 V) => rep_cells (r := r) (C1.out.keep hb))
    obtain ⟨x0, x1, x2⟩ := HC1.out w1 (Below.refl _ _)
    go_upto_region 4 with (go_at_call 22; refine (CK.out _).mono ?_; rintro e w2 ⟨rfl, hb⟩; have B2 := Lib.hid (And.intro (B1.out.trans (hb.mono B1.out.size)) hb); clear hb)
    clear x0 x1 x2
    have NW := Lib.hid ((wnew_any w2).mono (R' := fun e w' => e = .returned (.pointer (some ⟨w2.heap.size, 0, none⟩)) ∧ WrP w' w2.heap.size w2.heap.size [] ∧ Below w2.heap.size w2 w') (fun e w' ⟨he, hw⟩ => ⟨he, by rw [hw]; exact WrP.new w2 (Nat.le_refl _), by rw [hw]; exact (Below.refl _ _).alloc (Nat.le_refl _) _⟩))
    go_upto_region 5 with (go_at_call 62; refine NW.out.mono ?_; rintro e w3 ⟨rfl, hP, hb⟩; have P3 := Lib.hid (And.intro hP hb); obtain ⟨x0, x1, x2⟩ := HC1.out w3 (B2.out.2.trans (hb.mono B2.out.2.size)); clear hP hb NW)
    have U1 := Lib.hid (U1.out _ _ _ P3.out.1)
    go_upto_region 6 with (go_at_call 63; refine U1.out.mono ?_; rintro e w4 ⟨rfl, hP, hK⟩; have P4 := Lib.hid (And.intro hP (P3.out.2.trans hK.1)); clear x0 x1 x2 hP hK U1; obtain ⟨x0, x1, x2⟩ := HC1.out w4 (B2.out.2.trans (P4.out.2.mono B2.out.2.size)))
    have U2 := Lib.hid (U2.out _ _ _ P4.out.1)
    go_upto_region 7 with (go_at_call 64; refine U2.out.mono ?_; rintro e w5 ⟨rfl, hP, hK⟩; have P5 := Lib.hid (And.intro hP (P4.out.2.trans hK.1)); clear x0 x1 x2 hP hK U2; obtain ⟨x0, x1, x2⟩ := HC1.out w5 (B2.out.2.trans (P5.out.2.mono B2.out.2.size)))
    have U3 := Lib.hid (U3.out _ _ _ P5.out.1)
    go_upto_region 8 with (go_at_call 65; refine U3.out.mono ?_; rintro e w6 ⟨rfl, hP, hK⟩; rw [HBY.out] at hP; have P6 := Lib.hid (And.intro hP (P5.out.2.trans hK.1)); clear x0 x1 x2 hP hK U3)
    have LM := limited_any _ _ (bytesR r) w6 P6.out.1 HLN.out
    have HV : Hid (repB r = (if (bytesR r).length ≤ 65536 then bytesR r else []) ∧ repE r = (if (bytesR r).length ≤ 65536 then 0 else 11)) := Lib.hid (by
      unfold repB repE
      rw [if_pos HOK.out]
      by_cases hl : (bytesR r).length ≤ 65536
      · rw [if_pos ⟨HOK.out, hl⟩, if_pos hl]; exact ⟨rfl, rfl⟩
      · rw [if_neg (fun e => hl e.2), if_neg hl]; exact ⟨rfl, rfl⟩)
    rw [← HV.out.1, ← HV.out.2] at LM
    obtain ⟨ee, hee⟩ : ∃ ee, ee = repE r := ⟨_, rfl⟩
    rw [← hee] at LM
    have HEE := Lib.hid hee
    have LM := Lib.hid LM
    clear hee
    go_wp2_with (go_at_call 66; refine LM.out.mono ?_; rintro e w8 ⟨⟨A8, n8, m8, rfl, h8⟩, hb⟩; have H8 := Lib.hid (And.intro h8 hb); clear h8 hb)
    go_ret2
    unfold RepR
    rw [← HEE.out]
    have B6 := B2.out.1.trans (P6.out.2.mono B2.out.1.size)
    exact ⟨⟨_, _, _, rfl, H8.out.1⟩, B6.trans (H8.out.2.mono B6.size)⟩
end
section
open Go.RowKit Go.Shelf

/-- What ParseReply answers. -/
def PrR (b : List UInt8) (w w' : World) (e : Ending) : Prop := (∃ r er, e = .returned (.tuple #[.agg (rA r), .int .i64 er]) ∧ RDecR b r er) ∧ Below w.heap.size w w'
/-- What ParseReply holds in memory. -/
structure PrI (w : World) (B C : Nat) (r : Rv) (st : WS) (W : World) : Prop where
  bl : Below w.heap.size w W
  bx : Whole W B 40 (rA r)
  rd : RdP W C st
  rs : Whole W w.heap.size 40 (rA zeroR)
  o1 : w.heap.size < C
  o2 : C < B
theorem PrI.keep {w W W' : World} {B C : Nat} {r : Rv} {st : WS} (h : PrI w B C r st W) (hb : Below W.heap.size W W') : PrI w B C r st W' :=
  ⟨h.bl.trans (hb.mono h.bl.size), h.bx.keep hb, h.rd.keep hb, h.rs.keep hb, h.o1, h.o2⟩
theorem PrI.put {w W W1 : World} {B C : Nat} {r r' : Rv} {st st' : WS} (h : PrI w B C r st W) (hg : W.grownBy W1 (some C)) (hP : RdP W1 C st') (i : Nat) (v u : Value) (hu : (rA r)[i]? = some u) (hput : (rA r).setIfInBounds i v = rA r') :
    W1.cell? ⟨B, i, none⟩ = some u ∧ W1.frozen? ⟨B, i, none⟩ = false ∧ Hid (PrI w B C r' st' (W1.setCell ⟨B, i, none⟩ v)) := by
  have o1 := h.o1
  have o2 := h.o2
  have hb := h.bl.grown hg h.bl.size (fun k e => by cases e; omega)
  have g2 := grown_set (World.grownBy.refl W1 (some B)) i v
  have hx := h.bx.grown hg (fun e => by have := Option.some.inj e; omega)
  have hw := hx.put i v
  rw [hput] at hw
  exact ⟨(hx.cell i).trans hu, hx.fr i, ⟨hb.grown g2 hb.size (fun k e => by cases e; omega), hw, hP.other g2 (fun k e => by cases e; exact o2), (h.rs.grown hg (fun e => by have := Option.some.inj e; omega)).grown g2 (fun e => by have := Option.some.inj e; omega), o1, o2⟩⟩
theorem put3_grown (W : World) (D : Nat) (a b c : Value) : W.grownBy (((W.setCell ⟨D, 0, none⟩ a).setCell ⟨D, 1, none⟩ b).setCell ⟨D, 2, none⟩ c) (some D) := grown_set (grown_set (grown_set (World.grownBy.refl W (some D)) 0 a) 1 b) 2 c
set_option maxRecDepth 100000 in
set_option maxHeartbeats 4000000 in
theorem preply_any (Ab : Option Addr) (nb cb : Nat) (b : List UInt8) (w : World) (hb : SlB w Ab nb b) (hn : nb ≤ 1000000000000) :
    Calls Tryz.prog 16 #[.slice Ab nb cb] w fun e w' => PrR b w w' e := by
  have B1 := Lib.hid ((Below.refl w.heap.size w).alloc (Nat.le_refl _) (.cells (rA zeroR) 40))
  have R1 := Lib.hid (Whole.new w 40 (rA zeroR))
  have HSZ := Lib.hid (World.size_alloc w (.cells (rA zeroR) 40))
  have RD := Lib.hid (read_any Ab nb cb b _ (hb.keep B1.out) hn)
  have HL := Lib.hid hb.1
  obtain ⟨k, hk⟩ : ∃ k : Int, k = ((wSm 18 (some b)).1 : Int) := ⟨_, rfl⟩
  obtain ⟨s0, hs0⟩ : ∃ s, s = (wSm 18 (some b)).2 := ⟨_, rfl⟩
  obtain ⟨v, hv⟩ : ∃ v : Int, v = (wI s0).1 := ⟨_, rfl⟩
  obtain ⟨s1, hs1⟩ : ∃ s, s = (wI s0).2 := ⟨_, rfl⟩
  obtain ⟨x, hx⟩ : ∃ x : ByteArray, x = ⟨(wT s1).1.toArray⟩ := ⟨_, rfl⟩
  obtain ⟨s2, hs2⟩ : ∃ s, s = (wT s1).2 := ⟨_, rfl⟩
  have HRD : Hid (rdR 18 b = (⟨k, v, x⟩, s2)) := Lib.hid (by rw [hs2, hx, hs1, hv, hs0, hk]; rfl)
  have SM := fun (C : Nat) (V : World) (h : RdP V C (some b)) => small_z C (some b) 18 18 rfl (by decide) V h
  rw [← hk, ← hs0] at SM
  have SI := fun (C : Nat) (V : World) (h : RdP V C s0) => rint_any C s0 V h
  rw [← hv, ← hs1] at SI
  have ST := fun (C : Nat) (V : World) (h : RdP V C s1) => rtext_any C s1 V h
  rw [← hx, ← hs2] at ST
  have SM := Lib.hid SM
  have SI := Lib.hid SI
  have ST := Lib.hid ST
  clear hb hk hs0 hv hs1 hx hs2
  unfold rA zeroR at B1 R1 RD HSZ
  dsimp only at B1 R1 RD HSZ
  go_enter Tryz.func16, Tryz.ntmps16
  go_upto_region 1 with fail
  generalize w.alloc (.cells #[.int .i64 0, .int .i64 0, .string ⟨#[]⟩] 40) = w1 at B1 R1 RD HSZ ⊢
  go_upto_region 2 with (go_at_call 46; refine RD.out.mono ?_; rintro e w2 ⟨⟨C, rfl, hC, hP⟩, hb⟩; have H2 := Lib.hid (And.intro hC (And.intro hP (And.intro (B1.out.trans (hb.mono B1.out.size)) (R1.out.keep hb)))); clear hC hP hb RD)
  have SM := Lib.hid (SM.out C w2 H2.out.2.1)
  have I3 : Hid (∀ w3, RdP w3 C s0 → w2.grownBy w3 (some C) → PrI w w3.heap.size C ⟨k, 0, ⟨#[]⟩⟩ s0 (w3.alloc (.cells #[.int .i64 k, .int .i64 0, .string ⟨#[]⟩] 40))) := Lib.hid (fun w3 hP hg => by
    have h1 := H2.out.1
    have h2 := HSZ.out
    have ba := (Below.refl w3.heap.size w3).alloc (Nat.le_refl _) (.cells #[.int .i64 k, .int .i64 0, .string ⟨#[]⟩] 40)
    have b3 := H2.out.2.2.1.grown hg H2.out.2.2.1.size (fun j e => by cases e; omega)
    exact ⟨b3.trans (ba.mono b3.size), Whole.new w3 _ _, hP.keep ba, (H2.out.2.2.2.grown hg (fun e => by have := Option.some.inj e; omega)).keep ba, by omega, hP.lt⟩)
  clear B1 R1 HSZ
  go_upto_region 3 with (go_at_call 47; refine SM.out.mono ?_; rintro e w3 ⟨rfl, hP, hg⟩; have I3 := Lib.hid (I3.out w3 hP hg); clear hP hg SM)
  clear H2
  generalize w3.alloc (.cells #[.int .i64 k, .int .i64 0, .string ⟨#[]⟩] 40) = w4 at I3 ⊢
  generalize w3.heap.size = B at I3 ⊢
  have SI := Lib.hid (SI.out C w4 I3.out.rd)
  go_upto_region 4 with (go_at_call 59; refine SI.out.mono ?_; rintro e w5 ⟨rfl, hP, hg⟩; obtain ⟨y, f, I5⟩ := I3.out.put (r' := ⟨k, v, ⟨#[]⟩⟩) hg hP 1 (.int .i64 v) (.int .i64 0) rfl (by simp [rA]); clear hP hg SI)
  clear y f I3
  generalize w5.setCell ⟨B, 1, none⟩ (.int .i64 v) = w6 at I5 ⊢
  have ST := Lib.hid (ST.out C w6 I5.out.rd)
  go_upto_region 5 with (go_at_call 60; refine ST.out.mono ?_; rintro e w7 ⟨rfl, hP, hg⟩; obtain ⟨y, f, I7⟩ := I5.out.put (r' := ⟨k, v, x⟩) hg hP 2 (.string x) (.string ⟨#[]⟩) rfl (by simp [rA]); clear hP hg ST)
  clear y f I5
  generalize w7.setCell ⟨B, 2, none⟩ (.string x) = w8 at I7 ⊢
  have HOKB : Hid (nb ≤ 65536 → wEnd s2 = 0 → repOk ⟨k, v, x⟩ → RDecR b ⟨k, v, x⟩ 0) := Lib.hid (fun h1 h2 h3 => by have := rdR_ok (most := 18) (b := b) (by rw [HL.out]; exact h1) (by rw [HRD.out]; exact h2) (by rw [HRD.out]; exact h3); rw [HRD.out] at this; exact this)
  have HBAD : Hid (¬ (nb ≤ 65536 ∧ wEnd s2 = 0 ∧ repOk ⟨k, v, x⟩) → RDecR b zeroR 10) := Lib.hid (fun h => rdR_bad (most := 18) (by decide) (by decide) (by rw [HL.out, HRD.out]; exact h))
  have EN := rend_any C s2 w8 I7.out.rd
  have CK := fun V => ckRep_any ⟨k, v, x⟩ V
  obtain ⟨y0, y1, y2⟩ := rep_cells I7.out.bx
  obtain ⟨z0, z1, z2⟩ := rep_cells I7.out.rs
  have f0 := I7.out.rs.fr 0
  have f1 := I7.out.rs.fr 1
  have f2 := I7.out.rs.fr 2
  have HBL := Lib.hid I7.out.bl
  dsimp only at y0 y1 y2
  have z0' : w8.cell? ⟨w.heap.size, 0, none⟩ = some (.int .i64 0) := z0
  have z1' : w8.cell? ⟨w.heap.size, 1, none⟩ = some (.int .i64 0) := z1
  have z2' : w8.cell? ⟨w.heap.size, 2, none⟩ = some (.string ⟨#[]⟩) := z2
  clear z0 z1 z2
  have HFB : Hid (∀ V, Below w.heap.size w V → ∀ a b c, Below w.heap.size w (((V.setCell ⟨w.heap.size, 0, none⟩ a).setCell ⟨w.heap.size, 1, none⟩ b).setCell ⟨w.heap.size, 2, none⟩ c)) := Lib.hid (fun V h a b c => h.grown (put3_grown V w.heap.size a b c) h.size (fun k e => by cases e; exact Nat.le_refl _))
  by_cases hlen : 65536 < nb
  · have PR : Hid (RDecR b zeroR 10) := Lib.hid (HBAD.out (fun h => by omega))
    have el : (65536 : Int) < (nb : Int) := by omega
    clear HOKB HBAD EN CK hlen
    go_wp2_with fail
    refine bodyPost_ret (v := .tuple #[.agg (rA zeroR), .int .i64 10]) (by simp [results, Tryz.results16, go_sem, rA, zeroR, z0', z1', z2']) rfl ?_
    exact ⟨⟨_, _, rfl, PR.out⟩, HFB.out _ HBL.out _ _ _⟩
  have el : ¬ ((65536 : Int) < (nb : Int)) := by omega
  by_cases hw0 : wEnd s2 = 0
  case neg =>
    have PR : Hid (RDecR b zeroR 10) := Lib.hid (HBAD.out (fun h => hw0 h.2.1))
    have he10 : wEnd s2 = 10 := by unfold wEnd at hw0 ⊢; split at hw0 <;> simp_all
    rw [he10] at EN
    have EN := Lib.hid EN
    clear HOKB HBAD CK hw0 he10
    go_wp2_with (go_at_call 49; refine EN.out.mono ?_; rintro e w9 ⟨rfl, rfl⟩)
    refine bodyPost_ret (v := .tuple #[.agg (rA zeroR), .int .i64 10]) (by simp [results, Tryz.results16, go_sem, rA, zeroR, z0', z1', z2']) rfl ?_
    exact ⟨⟨_, _, rfl, PR.out⟩, HFB.out _ HBL.out _ _ _⟩
  case pos =>
    rw [hw0] at EN
    have EN := Lib.hid EN
    have HKP := Lib.hid (fun (V : World) (hb : Below w8.heap.size w8 V) => And.intro (I7.out.keep hb).bl (And.intro (rep_cells (I7.out.keep hb).rs) (And.intro (rep_cells (I7.out.keep hb).bx) (And.intro (And.intro ((I7.out.keep hb).rs.fr 0) (And.intro ((I7.out.keep hb).rs.fr 1) ((I7.out.keep hb).rs.fr 2))) (I7.out.keep hb).rs.lt))))
    unfold rA at CK
    dsimp only at CK
    clear f0 f1 f2 z0' z1' z2'
    by_cases hok : repOk ⟨k, v, x⟩
    case neg =>
      have PR : Hid (RDecR b zeroR 10) := Lib.hid (HBAD.out (fun h => hok h.2.2))
      rw [ckR_no hok] at CK
      have CK := Lib.hid CK
      clear HOKB HBAD hw0 hok
      go_wp2_with (first
        | (go_at_call 49; refine EN.out.mono ?_; rintro e w9 ⟨rfl, rfl⟩)
        | (go_at_call 22; refine (CK.out _).mono ?_; rintro e w10 ⟨rfl, hb⟩; obtain ⟨hB, ⟨z0, z1, z2⟩, ⟨u0, u1, u2⟩, ⟨f0, f1, f2⟩, _⟩ := HKP.out w10 hb; have HB := Lib.hid hB; clear hb hB))
      have z0' : w10.cell? ⟨w.heap.size, 0, none⟩ = some (.int .i64 0) := z0
      have z1' : w10.cell? ⟨w.heap.size, 1, none⟩ = some (.int .i64 0) := z1
      have z2' : w10.cell? ⟨w.heap.size, 2, none⟩ = some (.string ⟨#[]⟩) := z2
      refine bodyPost_ret (v := .tuple #[.agg (rA zeroR), .int .i64 10]) (by simp [results, Tryz.results16, go_sem, rA, zeroR, z0', z1', z2']) rfl ?_
      exact ⟨⟨_, _, rfl, PR.out⟩, HFB.out _ HB.out _ _ _⟩
    case pos =>
      have PR : Hid (RDecR b ⟨k, v, x⟩ 0) := Lib.hid (HOKB.out (by omega) hw0 hok)
      rw [ckR_yes hok] at CK
      have CK := Lib.hid CK
      clear HOKB HBAD hw0 hok
      go_wp2_with (first
        | (go_at_call 49; refine EN.out.mono ?_; rintro e w9 ⟨rfl, rfl⟩)
        | (go_at_call 22; refine (CK.out _).mono ?_; rintro e w10 ⟨rfl, hb⟩; obtain ⟨hB, ⟨z0, z1, z2⟩, ⟨u0, u1, u2⟩, ⟨f0, f1, f2⟩, _⟩ := HKP.out w10 hb; have HB := Lib.hid hB; clear hb hB))
      have z0' : w10.cell? ⟨w.heap.size, 0, none⟩ = some (.int .i64 0) := z0
      have z1' : w10.cell? ⟨w.heap.size, 1, none⟩ = some (.int .i64 0) := z1
      have z2' : w10.cell? ⟨w.heap.size, 2, none⟩ = some (.string ⟨#[]⟩) := z2
      refine bodyPost_ret (v := .tuple #[.agg (rA ⟨k, v, x⟩), .int .i64 0]) (by simp [results, Tryz.results16, go_sem, rA, z0', z1', z2']) rfl ?_
      exact ⟨⟨_, _, rfl, PR.out⟩, HFB.out _ HB.out _ _ _⟩
end
end Go.Proofs.YtgjnmfmbheejoaaGreatDoor
