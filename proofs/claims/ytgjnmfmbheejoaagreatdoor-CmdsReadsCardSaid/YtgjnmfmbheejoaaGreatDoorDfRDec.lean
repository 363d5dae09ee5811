/- A definition read from bytes, by the reference. Condition: the bytes are no longer than an int can say. -/
import Derived.Test.YtgjnmfmbheejoaaGreatDoorRrA
namespace Go.Proofs.YtgjnmfmbheejoaaGreatDoor
open Go.RowKit Go.Shelf

set_option maxHeartbeats 1000000 in
theorem small26_any (u : Nat) (w : World) (hu : u < 2 ^ 64) : Calls Tryz.prog 117 #[.int .u64 (u : Int)] w fun e w' => e = .returned (.int .i64 ((small u : Nat) : Int)) ∧ w = w' := by
  obtain ⟨v, hv⟩ : ∃ v : Nat, v = small u := ⟨_, rfl⟩
  rw [← hv]
  by_cases h : 1000000 < u
  · have e1 : (1000000 : Int) < (u : Int) := by omega
    have HV : Hid (v = 1000000) := Lib.hid (by rw [hv]; unfold small; omega)
    clear hv h hu
    go_enter Tryz.func117, Tryz.ntmps117
    go_wp2
    go_ret
    exact ⟨by rw [HV.out]; rfl, rfl⟩
  · have e1 : ¬ ((1000000 : Int) < (u : Int)) := by omega
    have hwu : IntKind.i64.wrap (u : Int) = (u : Int) := IntWalk.i64_in _ (by omega)
    have HV : Hid (v = u) := Lib.hid (by rw [hv]; unfold small; omega)
    clear hv h hu
    go_enter Tryz.func117, Tryz.ntmps117
    go_wp2
    go_ret
    exact ⟨by rw [HV.out]; rfl, rfl⟩
theorem small_le (u : Nat) : small u ≤ 1000000 := Nat.min_le_right _ _
set_option maxRecDepth 100000 in
set_option maxHeartbeats 1000000 in
theorem refDecode_new (A : Option Addr) (n c : Nat) (l : List UInt8) (w : World) (h : SlB w A n l) (hn : n ≤ 1000000000000) :
    Calls Tryz.prog 56 #[.slice A n c] w fun e w' => DecodeN l w w' e := by
  have mixed : Tryz.prog.follows Departure.mixedOrders = true := by kernel_rfl
  have R1 := Lib.hid (Whole.new w 31 #[.string ⟨#[]⟩, .int .i64 0, .int .i64 0, .slice none 0 0])
  have b1 := Lib.hid ((Below.refl w.heap.size w).alloc (Nat.le_refl _) (.cells #[.string ⟨#[]⟩, .int .i64 0, .int .i64 0, .slice none 0 0] 31))
  have RD := Lib.hid (rread_any A n c l _ (h.keep b1.out) hn)
  have HSZ := Lib.hid (World.size_alloc w (.cells #[.string ⟨#[]⟩, .int .i64 0, .int .i64 0, .slice none 0 0] 31))
  have HSL := Lib.hid h
  clear h hn
  go_enter Tryz.func56, Tryz.ntmps56
  go_upto_region 2 with (go_at_call 50; refine RD.out.mono ?_; rintro e w1 ⟨⟨C, rfl, hC, hP⟩, hB⟩)
  have M1 : Hid (RdQ w1 C (some l) ∧ Whole w1 w.heap.size 31 #[.string ⟨#[]⟩, .int .i64 0, .int .i64 0, .slice none 0 0] ∧ Below w.heap.size w w1 ∧ w.heap.size < C) := by
    have hz := HSZ.out
    exact Lib.hid ⟨hP, R1.out.keep hB, b1.out.trans (hB.mono (by omega)), by omega⟩
  clear R1 b1 RD HSZ hB hP hC
  have KP : Hid (∀ (W W2 : World) (st st2 : WS), (RdQ W C st ∧ Whole W w.heap.size 31 #[.string ⟨#[]⟩, .int .i64 0, .int .i64 0, .slice none 0 0] ∧ Below w.heap.size w W ∧ w.heap.size < C) → RdQ W2 C st2 → W.grownBy W2 (some C) → (RdQ W2 C st2 ∧ Whole W2 w.heap.size 31 #[.string ⟨#[]⟩, .int .i64 0, .int .i64 0, .slice none 0 0] ∧ Below w.heap.size w W2 ∧ w.heap.size < C)) := Lib.hid (fun W W2 st st2 ⟨_, h2, h3, h4⟩ hp hg => ⟨hp, h2.grown hg (by simp; omega), h3.grown hg h3.size (fun k e => by cases e; omega), h4⟩)
  obtain ⟨nm, hnm⟩ : ∃ nm : ByteArray, nm = ⟨(wT (some l)).1.toArray⟩ := ⟨_, rfl⟩
  obtain ⟨s1, hs1⟩ : ∃ s1, s1 = (wT (some l)).2 := ⟨_, rfl⟩
  have T := Lib.hid (qtext_any C (some l) w1 M1.out.1)
  rw [← hnm, ← hs1] at T
  have HNM := Lib.hid (And.intro hnm hs1)
  have hnz : nm.size ≤ 65536 := by rw [hnm, Lib.size_mk]; exact wT_len _
  clear hnm hs1
  go_upto_region 3 with (go_at_call 53; refine T.out.mono ?_; rintro e w2 ⟨rfl, hP, hg⟩; have M2 := Lib.hid (KP.out _ _ _ _ M1.out hP hg); clear hP hg)
  obtain ⟨u1, hu1⟩ : ∃ u1, u1 = (wU s1).1 := ⟨_, rfl⟩
  obtain ⟨s2, hs2⟩ : ∃ s2, s2 = (wU s1).2 := ⟨_, rfl⟩
  obtain ⟨u2, hu2⟩ : ∃ u2, u2 = (wU s2).1 := ⟨_, rfl⟩
  obtain ⟨s3, hs3⟩ : ∃ s3, s3 = (wU s2).2 := ⟨_, rfl⟩
  obtain ⟨u3, hu3⟩ : ∃ u3, u3 = (wU s3).1 := ⟨_, rfl⟩
  obtain ⟨s4, hs4⟩ : ∃ s4, s4 = (wU s3).2 := ⟨_, rfl⟩
  have U1 := Lib.hid (quint_any C s1 w2 M2.out.1)
  have U2 := Lib.hid (fun W hW => quint_any C s2 W hW)
  have U3 := Lib.hid (fun W hW => quint_any C s3 W hW)
  rw [← hu1, ← hs2] at U1
  rw [← hu2, ← hs3] at U2
  rw [← hu3, ← hs4] at U3
  have SM1 := Lib.hid (fun W => small26_any u1 W (by rw [hu1]; exact wU_lt _))
  have SM2 := Lib.hid (fun W => small26_any u2 W (by rw [hu2]; exact wU_lt _))
  have SM3 := Lib.hid (fun W => small26_any u3 W (by rw [hu3]; exact wU_lt _))
  have HR01 := Lib.hid (And.intro (small_le u1) (small_le u2))
  obtain ⟨z, hz⟩ : ∃ z : Nat, z = small u3 := ⟨_, rfl⟩
  have hz0 : z ≤ 1000000 := by rw [hz]; exact small_le u3
  rw [← hz] at SM3
  have HD0 : Hid (∀ xs : List Sp, (wSps (min z 8) s4).1 = xs → refD l = ⟨nm, (small u1 : Nat), (small u2 : Nat), xs⟩) := Lib.hid (fun xs e => by
    rw [← e, hz, hs4, hu3, hu2, hs3, hu1, hs2, HNM.out.1, HNM.out.2]
    rfl)
  obtain ⟨m, hm⟩ : ∃ m : Nat, m = min z 8 := ⟨_, rfl⟩
  rw [← hm] at HD0
  have HM := Lib.hid hm
  clear hm
  clear hu1 hs2 hu2 hs3 hu3 hs4 hz
  generalize small u1 = r1 at *
  generalize small u2 = t1 at *
  clear T M1
  go_upto_region 4 with (first
    | (go_at_call 114; go_fit U1.out; rintro e w3 ⟨rfl, hP, hg⟩; have M3 := Lib.hid (KP.out _ _ _ _ M2.out hP hg); have U2 := Lib.hid (U2.out w3 hP); clear hP hg U1)
    | (go_at_call 114; go_fit U2.out; rintro e w4 ⟨rfl, hP, hg⟩; have M4 := Lib.hid (KP.out _ _ _ _ M3.out hP hg); clear hP hg U2)
    | (go_at_call 117; go_fit (SM1.out _); rintro e wx ⟨rfl, rfl⟩)
    | (go_at_call 117; go_fit (SM2.out _); rintro e wx ⟨rfl, rfl⟩))
  clear M2 M3
  have M5 : Hid (DecQ w (w4.alloc (.cells #[.string nm, .int .i64 (r1 : Int), .int .i64 (t1 : Int), .slice none 0 0] 31)) C w4.heap.size s3 #[.string nm, .int .i64 (r1 : Int), .int .i64 (t1 : Int), .slice none 0 0]) := by
    have ba := (Below.refl _ w4).alloc (Nat.le_refl _) (.cells #[.string nm, .int .i64 (r1 : Int), .int .i64 (t1 : Int), .slice none 0 0] 31)
    exact Lib.hid ⟨M4.out.1.keep ba, Whole.new w4 _ _, M4.out.2.1.keep ba, M4.out.2.2.1.trans (ba.mono M4.out.2.2.1.size), M4.out.2.2.2, M4.out.1.lt⟩
  clear M4
  generalize w4.alloc (.cells #[.string nm, .int .i64 (r1 : Int), .int .i64 (t1 : Int), .slice none 0 0] 31) = w5 at M5 ⊢
  generalize w4.heap.size = D at M5 ⊢
  have U3 := Lib.hid (U3.out w5 M5.out.rd)
  go_upto_region 5 with (first
    | (go_at_call 114; go_fit U3.out; rintro e wd ⟨rfl, hP, hg⟩; have M6 := Lib.hid (M5.out.reads hP hg); clear hP hg U3)
    | (go_at_call 117; go_fit (SM3.out _); rintro e wx ⟨rfl, rfl⟩))
  clear M5 SM1 SM2 SM3 KP
  have J0 : Hid (DecQ w wd C D (wSps 0 s4).2 #[.string nm, .int .i64 (r1 : Int), .int .i64 (t1 : Int), .slice none 0 0] ∧ wd.ownsRow wd.heap.size 53 2 (.slice none 0 0) 0 ((wSps 0 s4).1.flatMap stC) ∧ wd.heap.size ≤ wd.heap.size) := Lib.hid ⟨M6.out, ⟨rfl, Or.inl ⟨rfl, rfl⟩⟩, Nat.le_refl _⟩
  have HDB : Hid (D < wd.heap.size) := Lib.hid M6.out.d.lt
  clear M6
  go_wp2_with fail
  go_loopw [8] (fun i wr => ∃ (j : Nat) (v : Value), j ≤ m ∧ i = .int .i64 j ∧ Hid (DecQ w wr C D (wSps j s4).2 #[.string nm, .int .i64 (r1 : Int), .int .i64 (t1 : Int), v] ∧ wr.ownsRow wd.heap.size 53 2 v j ((wSps j s4).1.flatMap stC) ∧ wd.heap.size ≤ wr.heap.size)) (fun i _ => m - (intOf i).toNat)
  case atStart => exact ⟨0, _, by omega, rfl, J0⟩
  case round =>
    clear J0
    obtain ⟨j, v, hj, rfl, HJ⟩ := hrel
    have hm := HM.out
    by_cases hjm : j < m
    · have hj0 : (0 : Int) ≤ (j : Int) := by omega
      have hjn' : (j : Int) < (z : Int) := by omega
      have hj8' : (j : Int) < 8 := by omega
      have hwj : IntKind.i64.wrap ((j : Int) + 1) = (j : Int) + 1 := IntWalk.i64_in _ (by omega)
      clear hm
      have T := Lib.hid (qtext_any C (wSps j s4).2 wr HJ.out.1.rd)
      obtain ⟨ky, hky⟩ : ∃ ky : ByteArray, ky = ⟨(wT (wSps j s4).2).1.toArray⟩ := ⟨_, rfl⟩
      obtain ⟨st2, hst2⟩ : ∃ st2, st2 = (wT (wSps j s4).2).2 := ⟨_, rfl⟩
      obtain ⟨iv, hiv⟩ : ∃ iv, iv = (wI st2).1 := ⟨_, rfl⟩
      obtain ⟨st3, hst3⟩ : ∃ st3, st3 = (wI st2).2 := ⟨_, rfl⟩
      have HNX : Hid (wSps (j + 1) s4 = ((wSps j s4).1 ++ [⟨ky, iv⟩], st3)) := Lib.hid (by rw [wSps_succ, hst3, hiv, hst2, hky]; rfl)
      have HIV := Lib.hid (And.intro hiv.symm hst3.symm)
      rw [← hky, ← hst2] at T
      clear hky hst2 hiv hst3
      go_upto_region 9 with (go_at_call 53; refine T.out.mono ?_; rintro e w6 ⟨rfl, hP, hg⟩; have M6 := Lib.hid (And.intro ((HJ.out.1.reads hP hg).keep (Below.refl _ w6).drew) (And.intro ((HJ.out.2.1.kept hg (Or.inr (fun e => by have h1 := (HJ.out.2.1.lt C e).1; have h2 := HDB.out; have h3 := HJ.out.1.o2; omega))).drew) (show wd.heap.size ≤ w6.drew.heap.size from Nat.le_trans HJ.out.2.2 hg.size))); clear hP hg)
      have c6 : w6.drew.cell? ⟨D, 3, none⟩ = some v := M6.out.1.d.cell 3
      have I := Lib.hid (qint_any C st2 w6.drew M6.out.1.rd)
      rw [HIV.out.1, HIV.out.2] at I
      clear T
      refine wp_region_held_drew (S := fun _ => True) (by kernel_rfl) trivial (fun hHeld => ?_)
      refine wpAnyH_take (i := 0) (v := ?_) rfl (by kernel_rfl) (by kernel_rfl) (by kernel_rfl) (fun _ _ _ h => h) (Or.inl ⟨by rfl, ?_⟩) (by assumption) ?_
      rotate_left
      · intro w hSw
        go_simp
        try with_reducible rfl
      simp only [Act.put, List.getElem_toArray, List.getElem_cons_zero, List.setIfInBounds_toArray, List.set_cons_zero, List.set_cons_succ]
      refine wpAnyH_take (i := 2) (v := ?_) rfl (by kernel_rfl) (by kernel_rfl) (by kernel_rfl) (fun _ _ _ h => h) (Or.inl ⟨by rfl, ?_⟩) (by assumption) ?_
      rotate_left
      · intro w hSw
        go_simp
        try with_reducible rfl
      simp only [Act.put, List.getElem_toArray, List.getElem_cons_succ, List.getElem_cons_zero, List.setIfInBounds_toArray, List.set_cons_zero, List.set_cons_succ]
      refine wpAnyH_take (i := 3) (v := ?_) rfl (by kernel_rfl) (by kernel_rfl) (by kernel_rfl) (fun _ _ _ h => h) (Or.inl ⟨by rfl, ?_⟩) (by assumption) ?_
      rotate_left
      · intro w hSw
        go_simp
        try with_reducible rfl
      simp only [Act.put, List.getElem_toArray, List.getElem_cons_succ, List.getElem_cons_zero, List.setIfInBounds_toArray, List.set_cons_zero, List.set_cons_succ]
      refine wpAnyH_ready (rs := [1, 4]) (by kernel_rfl) (by simp) ?_
      refine AllReadyH.cons rfl (fun K hK => ?_) (AllReadyH.cons rfl (fun K hK => ?_) AllReadyH.nil)
      · go_simp
        refine hK.out _ _ ?_ (fun hHeld' => ?_)
        · trivial
        clear hK K hHeld
        have hHeld := hHeld'
        clear hHeld'
        try simp only [Act.put, List.getElem_toArray, List.getElem_cons_succ, List.getElem_cons_zero, List.setIfInBounds_toArray, List.set_cons_zero, List.set_cons_succ]
        refine wpAnyH_ready (rs := [4]) (by kernel_rfl) (by simp) ?_
        refine AllReadyH.cons rfl (fun K hK => ?_) AllReadyH.nil
        go_simp
        refine I.out.mono ?_
        rintro e w7 ⟨rfl, hP, hg⟩
        obtain ⟨c7, c8, A', c', w8, R, c9, f9, HZ⟩ := decq_pack M6.out.1 M6.out.2.1 HDB.out M6.out.2.2 hP hg (by omega) ky iv
        clear hP hg
        try go_wp2_with fail
        refine hK.out _ _ ?_ (fun hHeld' => ?_)
        · trivial
        clear hK K hHeld
        have hHeld := hHeld'
        clear hHeld'
        try simp only [Act.put, List.getElem_toArray, List.getElem_cons_succ, List.getElem_cons_zero, List.setIfInBounds_toArray, List.set_cons_zero, List.set_cons_succ]
        refine wpAnyH_take (i := 5) (v := ?_) rfl (by kernel_rfl) (by kernel_rfl) (by kernel_rfl) (fun _ _ _ h => h) (Or.inl ⟨by rfl, ?_⟩) (by assumption) ?_
        rotate_left
        · intro w hSw
          go_simp
          try with_reducible rfl
        simp only [Act.put, List.getElem_toArray, List.getElem_cons_succ, List.getElem_cons_zero, List.setIfInBounds_toArray, List.set_cons_zero, List.set_cons_succ]
        refine wpAnyH_ready (rs := [6]) (by kernel_rfl) (by simp) ?_
        refine AllReadyH.cons rfl (fun K hK => ?_) AllReadyH.nil
        go_simp
        refine hK.out _ _ ?_ (fun hHeld' => ?_)
        · trivial
        clear hK K hHeld
        have hHeld := hHeld'
        clear hHeld'
        try simp only [Act.put, List.getElem_toArray, List.getElem_cons_succ, List.getElem_cons_zero, List.setIfInBounds_toArray, List.set_cons_zero, List.set_cons_succ]
        refine wpAnyH_ready (rs := [7]) (by kernel_rfl) (by simp) ?_
        refine AllReadyH.cons rfl (fun K hK => ?_) AllReadyH.nil
        refine step_append_run (by rfl) (.tmp 39) (.tmp 44) 29 29 (by rfl) (by rfl) (by rfl) R.out ?_
        refine hK.out _ _ ?_ (fun hHeld' => ?_)
        · trivial
        clear hK K hHeld
        have hHeld := hHeld'
        clear hHeld'
        try simp only [Act.put, List.getElem_toArray, List.getElem_cons_succ, List.getElem_cons_zero, List.setIfInBounds_toArray, List.set_cons_zero, List.set_cons_succ]
        refine wpAnyH_take (i := 8) (v := ?_) rfl (by kernel_rfl) (by kernel_rfl) (by kernel_rfl) (fun _ _ _ h => h) (Or.inl ⟨by rfl, ?_⟩) (by assumption) ?_
        rotate_left
        · intro w hSw
          go_simp
          try with_reducible rfl
        simp only [Act.put, List.getElem_toArray, List.getElem_cons_succ, List.getElem_cons_zero, List.setIfInBounds_toArray, List.set_cons_zero, List.set_cons_succ]
        refine wpAnyH_ready (rs := [9]) (by kernel_rfl) (by simp) ?_
        refine AllReadyH.cons rfl (fun K hK => ?_) AllReadyH.nil
        go_simp
        refine hK.out _ _ ?_ (fun hHeld' => ?_)
        · trivial
        clear hK K hHeld
        have hHeld := hHeld'
        clear hHeld'
        try simp only [Act.put, List.getElem_toArray, List.getElem_cons_succ, List.getElem_cons_zero, List.setIfInBounds_toArray, List.set_cons_zero, List.set_cons_succ]
        refine wpAnyH_done (by kernel_rfl) ?_ _
        clear hHeld R c6 c7 c8 c9 f9 I
        go_wp2_with fail
        go_roundw
        case rel => exact ⟨j + 1, _, by omega, by go_num, Lib.hid ⟨by rw [HNX.out]; exact HZ.out.1, by rw [HNX.out, List.flatMap_append]; exact HZ.out.2.1, HZ.out.2.2⟩⟩
        case measure => simp [intOf]; omega
      · go_simp
        refine I.out.mono ?_
        rintro e w7 ⟨rfl, hP, hg⟩
        obtain ⟨c7, c8, A', c', w8, R, c9, f9, HZ⟩ := decq_pack M6.out.1 M6.out.2.1 HDB.out M6.out.2.2 hP hg (by omega) ky iv
        clear hP hg
        try go_wp2_with fail
        refine hK.out _ _ ?_ (fun hHeld' => ?_)
        · trivial
        clear hK K hHeld
        have hHeld := hHeld'
        clear hHeld'
        try simp only [Act.put, List.getElem_toArray, List.getElem_cons_succ, List.getElem_cons_zero, List.setIfInBounds_toArray, List.set_cons_zero, List.set_cons_succ]
        refine wpAnyH_take (i := 5) (v := ?_) rfl (by kernel_rfl) (by kernel_rfl) (by kernel_rfl) (fun _ _ _ h => h) (Or.inl ⟨by rfl, ?_⟩) (by assumption) ?_
        rotate_left
        · intro w hSw
          go_simp
          try with_reducible rfl
        simp only [Act.put, List.getElem_toArray, List.getElem_cons_succ, List.getElem_cons_zero, List.setIfInBounds_toArray, List.set_cons_zero, List.set_cons_succ]
        refine wpAnyH_ready (rs := [1, 6]) (by kernel_rfl) (by simp) ?_
        refine AllReadyH.cons rfl (fun K hK => ?_) (AllReadyH.cons rfl (fun K hK => ?_) AllReadyH.nil)
        · go_simp
          refine hK.out _ _ ?_ (fun hHeld' => ?_)
          · trivial
          clear hK K hHeld
          have hHeld := hHeld'
          clear hHeld'
          try simp only [Act.put, List.getElem_toArray, List.getElem_cons_succ, List.getElem_cons_zero, List.setIfInBounds_toArray, List.set_cons_zero, List.set_cons_succ]
          refine wpAnyH_ready (rs := [6]) (by kernel_rfl) (by simp) ?_
          refine AllReadyH.cons rfl (fun K hK => ?_) AllReadyH.nil
          go_simp
          refine hK.out _ _ ?_ (fun hHeld' => ?_)
          · trivial
          clear hK K hHeld
          have hHeld := hHeld'
          clear hHeld'
          try simp only [Act.put, List.getElem_toArray, List.getElem_cons_succ, List.getElem_cons_zero, List.setIfInBounds_toArray, List.set_cons_zero, List.set_cons_succ]
          refine wpAnyH_ready (rs := [7]) (by kernel_rfl) (by simp) ?_
          refine AllReadyH.cons rfl (fun K hK => ?_) AllReadyH.nil
          refine step_append_run (by rfl) (.tmp 39) (.tmp 44) 29 29 (by rfl) (by rfl) (by rfl) R.out ?_
          refine hK.out _ _ ?_ (fun hHeld' => ?_)
          · trivial
          clear hK K hHeld
          have hHeld := hHeld'
          clear hHeld'
          try simp only [Act.put, List.getElem_toArray, List.getElem_cons_succ, List.getElem_cons_zero, List.setIfInBounds_toArray, List.set_cons_zero, List.set_cons_succ]
          refine wpAnyH_take (i := 8) (v := ?_) rfl (by kernel_rfl) (by kernel_rfl) (by kernel_rfl) (fun _ _ _ h => h) (Or.inl ⟨by rfl, ?_⟩) (by assumption) ?_
          rotate_left
          · intro w hSw
            go_simp
            try with_reducible rfl
          simp only [Act.put, List.getElem_toArray, List.getElem_cons_succ, List.getElem_cons_zero, List.setIfInBounds_toArray, List.set_cons_zero, List.set_cons_succ]
          refine wpAnyH_ready (rs := [9]) (by kernel_rfl) (by simp) ?_
          refine AllReadyH.cons rfl (fun K hK => ?_) AllReadyH.nil
          go_simp
          refine hK.out _ _ ?_ (fun hHeld' => ?_)
          · trivial
          clear hK K hHeld
          have hHeld := hHeld'
          clear hHeld'
          try simp only [Act.put, List.getElem_toArray, List.getElem_cons_succ, List.getElem_cons_zero, List.setIfInBounds_toArray, List.set_cons_zero, List.set_cons_succ]
          refine wpAnyH_done (by kernel_rfl) ?_ _
          clear hHeld R c6 c7 c8 c9 f9 I
          go_wp2_with fail
          go_roundw
          case rel => exact ⟨j + 1, _, by omega, by go_num, Lib.hid ⟨by rw [HNX.out]; exact HZ.out.1, by rw [HNX.out, List.flatMap_append]; exact HZ.out.2.1, HZ.out.2.2⟩⟩
          case measure => simp [intOf]; omega
        · go_simp
          refine hK.out _ _ ?_ (fun hHeld' => ?_)
          · trivial
          clear hK K hHeld
          have hHeld := hHeld'
          clear hHeld'
          try simp only [Act.put, List.getElem_toArray, List.getElem_cons_succ, List.getElem_cons_zero, List.setIfInBounds_toArray, List.set_cons_zero, List.set_cons_succ]
          refine wpAnyH_ready (rs := [1]) (by kernel_rfl) (by simp) ?_
          refine AllReadyH.cons rfl (fun K hK => ?_) AllReadyH.nil
          go_simp
          refine hK.out _ _ ?_ (fun hHeld' => ?_)
          · trivial
          clear hK K hHeld
          have hHeld := hHeld'
          clear hHeld'
          try simp only [Act.put, List.getElem_toArray, List.getElem_cons_succ, List.getElem_cons_zero, List.setIfInBounds_toArray, List.set_cons_zero, List.set_cons_succ]
          refine wpAnyH_ready (rs := [7]) (by kernel_rfl) (by simp) ?_
          refine AllReadyH.cons rfl (fun K hK => ?_) AllReadyH.nil
          refine step_append_run (by rfl) (.tmp 39) (.tmp 44) 29 29 (by rfl) (by rfl) (by rfl) R.out ?_
          refine hK.out _ _ ?_ (fun hHeld' => ?_)
          · trivial
          clear hK K hHeld
          have hHeld := hHeld'
          clear hHeld'
          try simp only [Act.put, List.getElem_toArray, List.getElem_cons_succ, List.getElem_cons_zero, List.setIfInBounds_toArray, List.set_cons_zero, List.set_cons_succ]
          refine wpAnyH_take (i := 8) (v := ?_) rfl (by kernel_rfl) (by kernel_rfl) (by kernel_rfl) (fun _ _ _ h => h) (Or.inl ⟨by rfl, ?_⟩) (by assumption) ?_
          rotate_left
          · intro w hSw
            go_simp
            try with_reducible rfl
          simp only [Act.put, List.getElem_toArray, List.getElem_cons_succ, List.getElem_cons_zero, List.setIfInBounds_toArray, List.set_cons_zero, List.set_cons_succ]
          refine wpAnyH_ready (rs := [9]) (by kernel_rfl) (by simp) ?_
          refine AllReadyH.cons rfl (fun K hK => ?_) AllReadyH.nil
          go_simp
          refine hK.out _ _ ?_ (fun hHeld' => ?_)
          · trivial
          clear hK K hHeld
          have hHeld := hHeld'
          clear hHeld'
          try simp only [Act.put, List.getElem_toArray, List.getElem_cons_succ, List.getElem_cons_zero, List.setIfInBounds_toArray, List.set_cons_zero, List.set_cons_succ]
          refine wpAnyH_done (by kernel_rfl) ?_ _
          clear hHeld R c6 c7 c8 c9 f9 I
          go_wp2_with fail
          go_roundw
          case rel => exact ⟨j + 1, _, by omega, by go_num, Lib.hid ⟨by rw [HNX.out]; exact HZ.out.1, by rw [HNX.out, List.flatMap_append]; exact HZ.out.2.1, HZ.out.2.2⟩⟩
          case measure => simp [intOf]; omega
    · obtain rfl : j = m := by omega
      have hend : ¬ ((j : Int) < (z : Int)) ∨ ((j : Int) < (z : Int) ∧ ¬ ((j : Int) < 8)) := by omega
      have hj8 : j ≤ 8 := by omega
      clear hm
      obtain ⟨xs, hxs⟩ : ∃ xs, xs = (wSps j s4).1 := ⟨_, rfl⟩
      have HDD := Lib.hid (HD0.out xs hxs.symm)
      have hxl : xs.length = j := by rw [hxs, wSps_len]
      have hxz : ∀ p ∈ xs, SpZ p := by rw [hxs]; exact wSps_z j s4
      rw [← hxs] at HJ
      clear hxs HD0
      obtain ⟨A9, c9, rfl, hc9⟩ := own_slice2 HJ.out.2.1
      have HDA : Hid (DefAt wr A9 j c9 ⟨nm, (r1 : Nat), (t1 : Nat), xs⟩) := Lib.hid ⟨hxl, hc9, by omega, ⟨by show nm.size ≤ _; omega, by have := HR01.out.1; dsimp only; omega, by have := HR01.out.2; dsimp only; omega, fun i p hi => hxz p (List.mem_of_getElem? hi)⟩, slD_own HJ.out.2.1 hxl⟩
      have EN := Lib.hid ((refDefEncode_any _ A9 j c9 wr HDA.out).mono (fun e w' ⟨h, hb⟩ => And.intro h.val hb))
      have hAnb : ∀ a : Addr, A9 = some a → w.heap.size ≤ a.block := fun a ha => by
        have h1 := (HJ.out.2.1.lt a.block (by rw [ha]; rfl)).1
        have h2 := HDB.out
        have h3 := HJ.out.1.o2
        have h4 := HJ.out.1.o1
        omega
      have HAB := Lib.hid hAnb
      have hAne : ∀ a : Addr, A9 = some a → xs ≠ [] → some a.block ≠ some w.heap.size := fun a ha _ e => by
        have h1 := (HJ.out.2.1.lt a.block (by rw [ha]; rfl)).1
        have h2 := HDB.out
        have h3 := HJ.out.1.o2
        have h4 := HJ.out.1.o1
        injection e with e; omega
      have HAN := Lib.hid hAne
      have HMM := Lib.hid HJ.out.1
      unfold dV at EN
      dsimp only at EN
      obtain ⟨⟨d0, d1, d2, d3⟩, _⟩ := whole4 HJ.out.1.d
      clear HJ hxl hxz hAne hAnb hc9 hjm
      rcases hend with hend | ⟨hend, hend2⟩
      all_goals
        go_upto_region 10 with fail
        go_upto_region 11 with (go_at_call 75; refine EN.out.mono ?_; rintro e w9 ⟨⟨A8, n8, c8, rfl, hs8, _⟩, hb9⟩)
        have B9 := Lib.hid hb9
        have M9 := Lib.hid (HMM.out.keep hb9)
        have hcv1 := conv_bytes hs8 c8
        have hcv2 := conv_bytes (HSL.out.keep M9.out.b) c
        obtain ⟨⟨r0', r1', r2', r3'⟩, s0, s1', s2', s3'⟩ := whole4 M9.out.r
        obtain ⟨⟨d0, d1, d2, d3⟩, _⟩ := whole4 M9.out.d
        have hRl := M9.out.r.lt
        have hres : ∀ (d9 : Dv) (Ax : Option Addr) (nx cx : Nat), True := fun _ _ _ _ => trivial
        clear hb9 hs8 EN hres
        by_cases hok : defOk ⟨nm, (r1 : Nat), (t1 : Nat), xs⟩
        · rw [ckD_yes hok]
          rw [encL_yes hok] at hcv1
          by_cases hbb : bytesD ⟨nm, (r1 : Nat), (t1 : Nat), xs⟩ = l
          · have PR : Hid (DecR l ⟨nm, (r1 : Nat), (t1 : Nat), xs⟩ 0) := Lib.hid (by have h := refD_ok (b := l) (by rw [HDD.out]; exact hok) (by rw [HDD.out]; exact hbb); rw [HDD.out] at h; exact h)
            rw [hbb] at hcv1
            clear hok hbb
            go_wp2_with fail
            refine bodyPost_ret (v := .tuple #[.agg #[.string nm, .int .i64 (r1 : Int), .int .i64 (t1 : Int), .slice A9 j c9], .int .i64 0]) ?_ rfl ?_
            · simp [results, Tryz.results56, go_sem, r0', r1', r2', r3']
            · exact ⟨⟨⟨nm, (r1 : Nat), (t1 : Nat), xs⟩, A9, j, c9, 0, rfl, PR.out, (HDA.out.keep B9.out).grown (put4_grown _ _ _ _ _ _) (fun a ea hne => HAN.out a ea hne), HAB.out⟩, ((((M9.out.b.setCell (p := ⟨w.heap.size, 0, none⟩) (Nat.le_refl _) _).setCell (p := ⟨w.heap.size, 1, none⟩) (Nat.le_refl _) _).setCell (p := ⟨w.heap.size, 2, none⟩) (Nat.le_refl _) _).setCell (p := ⟨w.heap.size, 3, none⟩) (Nat.le_refl _) _)⟩
          · have PR : Hid (DecR l zeroD 10) := Lib.hid (refD_bad (b := l) (fun h => hbb (by have := h.2; rw [HDD.out] at this; exact this)))
            have hne0 := neq_str hbb
            generalize (⟨(bytesD ⟨nm, (r1 : Nat), (t1 : Nat), xs⟩).toArray⟩ : ByteArray) = tb at hcv1 hne0
            generalize (⟨l.toArray⟩ : ByteArray) = tl at hcv2 hne0
            have hne1 : (tb.toList = tl.toList) = False := by rw [beq_eq_false_iff_ne] at hne0; simp [hne0]
            clear hok hbb
            go_wp2_with fail
            refine bodyPost_ret (v := .tuple #[.agg #[.string ⟨#[]⟩, .int .i64 0, .int .i64 0, .slice none 0 0], .int .i64 10]) ?_ rfl ?_
            · simp [results, Tryz.results56, go_sem, r0', r1', r2', r3']
            · exact ⟨⟨zeroD, none, 0, 0, 10, rfl, PR.out, defAt_zero _, (fun a ea => by cases ea)⟩, ((((M9.out.b.setCell (p := ⟨w.heap.size, 0, none⟩) (Nat.le_refl _) _).setCell (p := ⟨w.heap.size, 1, none⟩) (Nat.le_refl _) _).setCell (p := ⟨w.heap.size, 2, none⟩) (Nat.le_refl _) _).setCell (p := ⟨w.heap.size, 3, none⟩) (Nat.le_refl _) _)⟩
        · rw [ckD_no hok]
          have PR : Hid (DecR l zeroD 10) := Lib.hid (refD_bad (b := l) (fun h => hok (by have := h.1; rw [HDD.out] at this; exact this)))
          clear hok
          go_wp2_with fail
          refine bodyPost_ret (v := .tuple #[.agg #[.string ⟨#[]⟩, .int .i64 0, .int .i64 0, .slice none 0 0], .int .i64 10]) ?_ rfl ?_
          · simp [results, Tryz.results56, go_sem, r0', r1', r2', r3']
          · exact ⟨⟨zeroD, none, 0, 0, 10, rfl, PR.out, defAt_zero _, (fun a ea => by cases ea)⟩, ((((M9.out.b.setCell (p := ⟨w.heap.size, 0, none⟩) (Nat.le_refl _) _).setCell (p := ⟨w.heap.size, 1, none⟩) (Nat.le_refl _) _).setCell (p := ⟨w.heap.size, 2, none⟩) (Nat.le_refl _) _).setCell (p := ⟨w.heap.size, 3, none⟩) (Nat.le_refl _) _)⟩
theorem refDecode_any (A : Option Addr) (n c : Nat) (l : List UInt8) (w : World) (h : SlB w A n l) (hn : n ≤ 1000000000000) :
    Calls Tryz.prog 56 #[.slice A n c] w fun e w' => DecodeR l w w' e := (refDecode_new A n c l w h hn).mono (fun _ _ h => h.any)
end Go.Proofs.YtgjnmfmbheejoaaGreatDoor
