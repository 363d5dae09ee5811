/- Replies: which are allowed, and their bytes, by the reference. Condition: sizes as a machine's integers can say. -/
import Derived.Test.YtgjnmfmbheejoaaGreatDoorCmRp
import Derived.Test.YtgjnmfmbheejoaaGreatDoorRwr2
namespace Go.Proofs.YtgjnmfmbheejoaaGreatDoor
open Go.RowKit Go.Shelf

set_option maxHeartbeats 2000000 in
theorem ckRep09_any (r : Rv) (w : World) :
    Calls Tryz.prog 74 #[.agg (rA r)] w fun e w' => e = .returned (.int .i64 (ckR r)) ∧ Below w.heap.size w w' := by
  have HO : Hid (repOk r ↔ (0 ≤ r.e ∧ r.e ≤ 18) ∧ (-1152921504606846976 ≤ r.n ∧ r.n ≤ 1152921504606846976) ∧ r.data.size ≤ 65536) := Lib.hid Iff.rfl
  unfold rA
  by_cases h1 : r.e < 0
  · have HV : Hid (ckR r = 2) := Lib.hid (ckR_no (fun h => by have := HO.out.1 h; omega))
    go_enter Tryz.func74, Tryz.ntmps74
    go_wp2_with fail
    go_ret
    exact ⟨by rw [HV.out]; rfl, (Below.refl _ _).alloc (Nat.le_refl _) _⟩
  by_cases h2 : 18 < r.e
  · have HV : Hid (ckR r = 2) := Lib.hid (ckR_no (fun h => by have := HO.out.1 h; omega))
    go_enter Tryz.func74, Tryz.ntmps74
    go_wp2_with fail
    go_ret
    exact ⟨by rw [HV.out]; rfl, (Below.refl _ _).alloc (Nat.le_refl _) _⟩
  by_cases h3 : r.n < -1152921504606846976
  · have HV : Hid (ckR r = 2) := Lib.hid (ckR_no (fun h => by have := HO.out.1 h; omega))
    go_enter Tryz.func74, Tryz.ntmps74
    go_wp2_with fail
    go_ret
    exact ⟨by rw [HV.out]; rfl, (Below.refl _ _).alloc (Nat.le_refl _) _⟩
  by_cases h4 : 1152921504606846976 < r.n
  · have HV : Hid (ckR r = 2) := Lib.hid (ckR_no (fun h => by have := HO.out.1 h; omega))
    go_enter Tryz.func74, Tryz.ntmps74
    go_wp2_with fail
    go_ret
    exact ⟨by rw [HV.out]; rfl, (Below.refl _ _).alloc (Nat.le_refl _) _⟩
  by_cases h5 : 65536 < r.data.size
  · have HV : Hid (ckR r = 2) := Lib.hid (ckR_no (fun h => by have := (HO.out.1 h).2.2; omega))
    have h5' : (65536 : Int) < (r.data.size : Int) := by omega
    clear h5
    go_enter Tryz.func74, Tryz.ntmps74
    go_wp2_with fail
    go_ret
    exact ⟨by rw [HV.out]; rfl, (Below.refl _ _).alloc (Nat.le_refl _) _⟩
  · have HV : Hid (ckR r = 0) := Lib.hid (ckR_yes (HO.out.2 ⟨by omega, by omega, by omega⟩))
    have h5' : ¬ ((65536 : Int) < (r.data.size : Int)) := by omega
    clear h5
    go_enter Tryz.func74, Tryz.ntmps74
    go_wp2_with fail
    go_ret
    exact ⟨by rw [HV.out]; rfl, (Below.refl _ _).alloc (Nat.le_refl _) _⟩
set_option maxHeartbeats 1000000 in
theorem rckRep_any (r : Rv) (w : World) :
    Calls Tryz.prog 23 #[.agg (rA r)] w fun e w' => e = .returned (.int .i64 (ckR r)) ∧ Below w.heap.size w w' := by
  have CK := fun V => ckRep09_any r V
  have HB := Lib.hid ((Below.refl w.heap.size w).alloc (Nat.le_refl _) (.cells (rA r) 40))
  generalize ckR r = q at CK ⊢
  unfold rA at CK HB ⊢
  have CK := Lib.hid CK
  go_enter Tryz.func23, Tryz.ntmps23
  go_wp2_with (go_at_call 74; refine (CK.out _).mono ?_; rintro e w1 ⟨rfl, hb⟩; have B1 := Lib.hid (HB.out.trans (hb.mono HB.out.size)); clear hb)
  go_ret
  exact ⟨rfl, B1.out⟩
theorem ruint_z (C base : Nat) (v : Int) (h0 : 0 ≤ v) (h1 : v ≤ 2147483648) (l : List UInt8) (w : World) (h : WrQ w base C l) (hl : l.length ≤ 1000100) :
    Calls Tryz.prog 68 #[.pointer (some ⟨C, 0, none⟩), .int .u64 v] w fun e w' => e = .returned (.tuple #[]) ∧ WrQ w' base C (l ++ uvB v.toNat) ∧ WrK w w' base C := by
  have U := ruint_w C base v.toNat l w h (by omega) (by omega)
  rw [ofNat_toNat h0] at U
  exact U
set_option maxRecDepth 100000 in
set_option maxHeartbeats 4000000 in
theorem rreply_any (r : Rv) (w : World) :
    Calls Tryz.prog 21 #[.agg (rA r)] w fun e w' => RepR r w w' e := by
  have B1 := Lib.hid ((Below.refl w.heap.size w).alloc (Nat.le_refl _) (.cells (rA r) 40))
  have C1 := Lib.hid (Whole.new w 40 (rA r))
  have CK := fun V => rckRep_any r V
  by_cases hok : repOk r
  case neg =>
    have HV : Hid (repB r = [] ∧ repE r = 2) := Lib.hid (by unfold repB repE; rw [if_neg (fun e => hok e.1), if_neg hok]; exact ⟨rfl, rfl⟩)
    rw [ckR_no hok] at CK
    have CK := Lib.hid CK
    clear hok
    unfold rA
    unfold rA at B1 C1 CK
    go_enter Tryz.func21, Tryz.ntmps21
    go_wp2_with (go_at_call 23; refine (CK.out _).mono ?_; rintro e w2 ⟨rfl, hb⟩; have B2 := Lib.hid (B1.out.trans (hb.mono B1.out.size)); clear hb)
    go_ret2
    unfold RepR
    rw [HV.out.1, HV.out.2]
    exact ⟨⟨none, 0, 0, rfl, slB_nil _, Nat.le_refl _⟩, B2.out⟩
  case pos =>
    rw [ckR_yes hok] at CK
    have CK := Lib.hid CK
    have HOK := Lib.hid hok
    obtain ⟨⟨h1, h2⟩, ⟨h3, h4⟩, h5⟩ := hok
    have hwk : IntKind.u64.wrap r.e = r.e := by rw [IntKind.wrap_u64]; omega
    have hl1 := uvB_10 (v := r.e) h1 (by omega)
    have hl2 := uvB_len10 (n := zig r.n) (zig_lt (by omega) (by omega))
    have U1 := Lib.hid (fun (base C : Nat) (V : World) (h : WrQ V base C []) => ruint_z C base r.e h1 (by omega) [] V h (by simp))
    have U2 := Lib.hid (fun (base C : Nat) (V : World) (h : WrQ V base C ([] ++ uvB r.e.toNat)) => rint_w C base r.n _ V h (by omega) (by omega) (by rw [List.nil_append]; omega))
    have U3 := Lib.hid (fun (base C : Nat) (V : World) (h : WrQ V base C (([] ++ uvB r.e.toNat) ++ uvB (zig r.n))) => rtext_w C base r.data _ V h (by omega) (by rw [List.nil_append, List.length_append]; omega))
    have HBY : Hid ((([] ++ uvB r.e.toNat) ++ uvB (zig r.n)) ++ txB r.data.data.toList = bytesR r) := Lib.hid (by unfold bytesR; simp)
    have HLN : Hid ((bytesR r).length ≤ 1000000) := Lib.hid (by have := bytesR_len HOK.out; omega)
    clear h1 h2 h3 h4 h5 hl1 hl2
    unfold rA
    unfold rA at B1 C1 CK
    go_enter Tryz.func21, Tryz.ntmps21
    go_upto_region 1 with fail
    generalize w.alloc (.cells #[.int .i64 r.e, .int .i64 r.n, .string r.data] 40) = w1 at B1 C1 ⊢
    have HC1 := Lib.hid (fun (V : World) (hb : Below w1.heap.size w1 V) => rep_cells (r := r) (C1.out.keep hb))
    obtain ⟨x0, x1, x2⟩ := HC1.out w1 (Below.refl _ _)
    go_upto_region 3 with (go_at_call 23; refine (CK.out _).mono ?_; rintro e w2 ⟨rfl, hb⟩; have B2 := Lib.hid (And.intro (B1.out.trans (hb.mono B1.out.size)) hb); clear hb)
    clear x0 x1 x2
    have NW := Lib.hid ((rnew_any w2).mono (R' := fun e w' => e = .returned (.pointer (some ⟨w2.heap.size, 0, none⟩)) ∧ WrQ w' w2.heap.size w2.heap.size [] ∧ Below w2.heap.size w2 w') (fun e w' ⟨he, hw⟩ => ⟨he, by rw [hw]; exact WrQ.new w2 (Nat.le_refl _), by rw [hw]; exact (Below.refl _ _).alloc (Nat.le_refl _) _⟩))
    go_upto_region 4 with (go_at_call 67; refine NW.out.mono ?_; rintro e w3 ⟨rfl, hP, hb⟩; have P3 := Lib.hid (And.intro hP hb); obtain ⟨x0, x1, x2⟩ := HC1.out w3 (B2.out.2.trans (hb.mono B2.out.2.size)); clear hP hb NW)
    have U1 := Lib.hid (U1.out _ _ _ P3.out.1)
    go_upto_region 5 with (go_at_call 68; refine U1.out.mono ?_; rintro e w4 ⟨rfl, hP, hK⟩; have P4 := Lib.hid (And.intro hP (P3.out.2.trans hK.1)); clear x0 x1 x2 hP hK U1; obtain ⟨x0, x1, x2⟩ := HC1.out w4 (B2.out.2.trans (P4.out.2.mono B2.out.2.size)))
    have U2 := Lib.hid (U2.out _ _ _ P4.out.1)
    go_upto_region 6 with (go_at_call 69; refine U2.out.mono ?_; rintro e w5 ⟨rfl, hP, hK⟩; have P5 := Lib.hid (And.intro hP (P4.out.2.trans hK.1)); clear x0 x1 x2 hP hK U2; obtain ⟨x0, x1, x2⟩ := HC1.out w5 (B2.out.2.trans (P5.out.2.mono B2.out.2.size)))
    have U3 := Lib.hid (U3.out _ _ _ P5.out.1)
    go_upto_region 7 with (go_at_call 70; refine U3.out.mono ?_; rintro e w6 ⟨rfl, hP, hK⟩; rw [HBY.out] at hP; have P6 := Lib.hid (And.intro hP (P5.out.2.trans hK.1)); clear x0 x1 x2 hP hK U3)
    have LN := Lib.hid (rlen_w _ _ (bytesR r) w6 P6.out.1 (by have := HLN.out; omega))
    have B6 := Lib.hid (B2.out.1.trans (P6.out.2.mono B2.out.1.size))
    by_cases hl : 65536 < (bytesR r).length
    · have hl' : (65536 : Int) < ((bytesR r).length : Int) := by omega
      have HV : Hid (repB r = [] ∧ repE r = 11) := Lib.hid (by unfold repB repE; rw [if_neg (fun e => by omega), if_pos HOK.out, if_neg (by omega)]; exact ⟨rfl, rfl⟩)
      clear hl
      go_wp2_with (go_at_call 71; refine LN.out.mono ?_; rintro e w7 ⟨rfl, hb⟩; have B7 := Lib.hid (B6.out.trans (hb.mono B6.out.size)); clear hb)
      go_ret2
      unfold RepR
      rw [HV.out.1, HV.out.2]
      exact ⟨⟨none, 0, 0, rfl, slB_nil _, Nat.le_refl _⟩, B7.out⟩
    · have hl' : ¬ ((65536 : Int) < ((bytesR r).length : Int)) := by omega
      have HV : Hid (repB r = bytesR r ∧ repE r = 0) := Lib.hid (by unfold repB repE; rw [if_pos ⟨HOK.out, by omega⟩, if_pos HOK.out, if_pos (by omega)]; exact ⟨rfl, rfl⟩)
      have BY := Lib.hid (fun (V : World) (hb : Below w6.heap.size w6 V) => rbytes_w _ _ (bytesR r) V (P6.out.1.keep hb) (by have := HLN.out; omega))
      clear hl
      go_wp2_with (first
        | (go_at_call 71; refine LN.out.mono ?_; rintro e w7 ⟨rfl, hb⟩; have BY := Lib.hid (BY.out w7 hb); have B7 := Lib.hid (B6.out.trans (hb.mono B6.out.size)); clear hb)
        | (go_at_call 72; refine BY.out.mono ?_; rintro e w8 ⟨⟨v8, rfl, ho⟩, hb⟩; obtain ⟨A8, c8, rfl, hc8⟩ := own_slice2 ho; have B8 := Lib.hid (And.intro (B7.out.trans (hb.mono B7.out.size)) (And.intro (SlB.of_own ho) hc8)); clear ho hb hc8))
      go_ret2
      unfold RepR
      rw [HV.out.1, HV.out.2]
      exact ⟨⟨_, _, _, rfl, B8.out.2.1, B8.out.2.2⟩, B8.out.1⟩
end Go.Proofs.YtgjnmfmbheejoaaGreatDoor
