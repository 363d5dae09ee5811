/- Which operations are valid, by the reference. Condition: sizes as a machine's integers can say. -/
import Derived.Test.YtojodekmmkemgaaGreatDoorScUs
namespace Go.Proofs.YtojodekmmkemgaaGreatDoor
open Go.RowKit Go.Shelf

set_option maxRecDepth 100000 in
set_option maxHeartbeats 4000000 in
theorem rocheck_any (o : Ov) (A : Option Addr) (n m : Nat) (w : World) (h : OpIn w o A n m) :
    Calls Tryz.prog 25 #[.agg (oA o A n m)] w fun e w' => e = .returned (.int .i64 (ckO o)) ∧ Below w.heap.size w w' := by
  have US := fun V (hV : OpIn V o A n m) => used_any o A n m V hV
  unfold AloR at US
  obtain ⟨u, hu⟩ : ∃ u, u = aloneO o := ⟨_, rfl⟩
  rw [← hu] at US
  have B1 := Lib.hid ((Below.refl w.heap.size w).alloc (Nat.le_refl _) (.cells (oA o A n m) 34))
  have C1 := Lib.hid (OpAt.new h)
  have US := Lib.hid US
  by_cases h1 : usedO o
  case neg =>
    have HV : Hid (ckO o = 2) := Lib.hid (ckO_no (fun e => h1 e.1))
    have H1 := Lib.hid h1
    clear h h1 hu
    go_enter Tryz.func25, Tryz.ntmps25
    go_upto_region 1 with fail
    generalize w.alloc (.cells (oA o A n m) 34) = w1 at B1 C1 ⊢
    go_upto_region 2 with (first
      | (refine wpList_load_row rfl 34 (.tmp 1) rfl _ rfl 34 (oA o A n m) (0, 0) _ C1.out.w Tryz.underlying34 rfl (info10 _ _ _ _) ?_)
      | (go_at_call 63; refine (US.out w1 C1.out.i).mono ?_; rintro e w2 ⟨⟨q, A2, n2, m2, rfl, hq, hin⟩, hb⟩; obtain rfl : q = false := Bool.eq_false_iff.2 (fun e => H1.out (hq.1 e)); have I2 := Lib.hid (B1.out.trans (hb.mono B1.out.size)); clear hq hin hb US)
      | (refine wpList_store_row rfl 34 (.tmp 3) (.tmp 8) rfl _ (oA u A2 n2 m2) rfl rfl 34 _ (heap_alloc_new _ _) (info10 _ _ _ _) rfl (all10 _ _ _ _) ?_; rw [World.setRow_alloc_new]))
    have I3 : Hid (Below w.heap.size w (w2.alloc (.cells (oA u A2 n2 m2) 34))) := Lib.hid (I2.out.trans (((Below.refl w2.heap.size w2).alloc (Nat.le_refl _) (.cells (oA u A2 n2 m2) 34)).mono I2.out.size))
    clear B1 C1 I2 H1
    generalize w2.alloc (.cells (oA u A2 n2 m2) 34) = w3 at I3 ⊢
    go_wp2_with fail
    go_ret
    exact ⟨by rw [HV.out]; rfl, I3.out⟩
  obtain ⟨q2, hq2⟩ : ∃ q2 : Bool, (q2 = true ↔ u = o) ∧ ckO o = (if q2 = true then 0 else 2) := by
    by_cases h2 : u = o
    · exact ⟨true, by simp [h2], by rw [ckO_yes ⟨h1, by rw [← hu]; exact h2⟩]; rfl⟩
    · exact ⟨false, by simp [h2], by rw [ckO_no (fun e => h2 (by rw [hu]; exact e.2))]; rfl⟩
  have H1 := Lib.hid h1
  have H2 := Lib.hid hq2
  clear h h1 hu hq2
  go_enter Tryz.func25, Tryz.ntmps25
  go_upto_region 1 with fail
  generalize w.alloc (.cells (oA o A n m) 34) = w1 at B1 C1 ⊢
  go_upto_region 2 with (first
    | (refine wpList_load_row rfl 34 (.tmp 1) rfl _ rfl 34 (oA o A n m) (0, 0) _ C1.out.w Tryz.underlying34 rfl (info10 _ _ _ _) ?_)
    | (go_at_call 63; refine (US.out w1 C1.out.i).mono ?_; rintro e w2 ⟨⟨q, A2, n2, m2, rfl, hq, hin⟩, hb⟩; obtain rfl : q = true := hq.2 H1.out; have I2 := Lib.hid (And.intro (B1.out.trans (hb.mono B1.out.size)) (And.intro (C1.out.keep hb) hin)); clear hq hin hb US)
    | (refine wpList_store_row rfl 34 (.tmp 3) (.tmp 8) rfl _ (oA u A2 n2 m2) rfl rfl 34 _ (heap_alloc_new _ _) (info10 _ _ _ _) rfl (all10 _ _ _ _) ?_; rw [World.setRow_alloc_new]))
  have I3 : Hid (Below w.heap.size w (w2.alloc (.cells (oA u A2 n2 m2) 34)) ∧ OpAt (w2.alloc (.cells (oA u A2 n2 m2) 34)) w.heap.size o A n m ∧ OpAt (w2.alloc (.cells (oA u A2 n2 m2) 34)) w2.heap.size u A2 n2 m2) := by
    have ba := (Below.refl w2.heap.size w2).alloc (Nat.le_refl _) (.cells (oA u A2 n2 m2) 34)
    exact Lib.hid ⟨I2.out.1.trans (ba.mono I2.out.1.size), I2.out.2.1.keep ba, OpAt.new I2.out.2.2⟩
  clear B1 C1 I2 H1
  generalize w2.alloc (.cells (oA u A2 n2 m2) 34) = w3 at I3 ⊢
  generalize w2.heap.size = O at I3 ⊢
  have EQ := Lib.hid ((roequal_any u o A2 A n2 n m2 m w3 I3.out.2.2.i I3.out.2.1.i).mono (R' := fun e w' => e = .returned (.bool q2) ∧ Below w3.heap.size w3 w') (fun e w' ⟨⟨b, he, hb⟩, hw⟩ => ⟨by rw [he, Bool.eq_iff_iff.2 (hb.trans H2.out.1.symm)], hw⟩))
  have H3 : Hid (ckO o = (if q2 = true then 0 else 2)) := Lib.hid H2.out.2
  clear H2
  cases q2
  all_goals
    go_wp2_with (first
      | (refine wpList_load_rowG (by rfl) 34 (.tmp 3) rfl _ rfl 34 (oA u A2 n2 m2) (0, 0) _ I3.out.2.2.w Tryz.underlying34 rfl (info10 _ _ _ _) ?_)
      | (refine wpList_load_rowG (by rfl) 34 (.tmp 1) rfl _ rfl 34 (oA o A n m) (0, 0) _ I3.out.2.1.w Tryz.underlying34 rfl (info10 _ _ _ _) ?_)
      | (go_at_call 27; refine EQ.out.mono ?_; rintro e w4 ⟨rfl, hb⟩; have BZ := Lib.hid (I3.out.1.trans (hb.mono I3.out.1.size)); clear hb EQ))
    go_ret
    exact ⟨by rw [H3.out]; rfl, BZ.out⟩
end Go.Proofs.YtojodekmmkemgaaGreatDoor
