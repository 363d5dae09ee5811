/- Made: kind 12. Condition: the numbers lie as their types say. -/
import Derived.Test.YtojodekmmkemgaaGreatDoorScMdS
namespace Go.Proofs.YtojodekmmkemgaaGreatDoor
open Go.RowKit Go.Shelf

set_option maxRecDepth 100000 in
set_option maxHeartbeats 4000000 in
theorem made_12 (x : No) (w : World) (hz : NoZ x) (hk : kO x = 12) :
    Calls Tryz.prog 11 #[.agg (nAo x)] w fun e w' => MdO x w e w' := by
  have W1 := Lib.hid (Whole.new w 27 (nAo x))
  have b1 := Lib.hid ((Below.refl w.heap.size w).alloc (Nat.le_refl _) (.cells (nAo x) 27))
  obtain ⟨k, hkk⟩ : ∃ k : Nat, k = kO x := ⟨_, rfl⟩
  obtain ⟨n, hnn⟩ : ∃ n : Nat, n = x.n % 56 := ⟨_, rfl⟩
  have HZ := Lib.hid hz
  have hkq : k = 12 := by rw [hkk]; exact hk
  have hn56 : n ≤ 55 := by omega
  have hkm : (x.kind : Int).tmod 12 = (k : Int) - 1 := by rw [Int.tmod_eq_emod_of_nonneg (by omega), hkk]; unfold kO; omega
  have hnm : (x.n : Int).tmod 56 = (n : Int) := by rw [Int.tmod_eq_emod_of_nonneg (by omega), hnn]; omega
  have h1 := hz.kind
  have h2 := hz.n
  have hw1 : IntKind.i64.wrap (x.kind : Int) = (x.kind : Int) := IntWalk.i64_in _ (by omega)
  have hw2 : IntKind.i64.wrap (x.n : Int) = (x.n : Int) := IntWalk.i64_in _ (by omega)
  have hw3 : wrap64 (1 + ((k : Int) - 1)) = (k : Int) := by unfold wrap64; omega
  have hw4 : IntKind.i64.wrap (1 + ((k : Int) - 1)) = (k : Int) := by rw [IntWalk.i64_in _ (by omega)]; omega
  have HM : Hid (madeO x = { zeroO k n with m := 1 + (x.m : Int) % 7, f := frO x, t := toN (nvO x) }) := Lib.hid (by
    unfold madeO
    rw [← hkk, if_neg (by omega), if_neg (by omega), if_neg (by omega), if_neg (by omega), if_neg (by omega), if_pos (by omega), hnn]
    rfl)
  clear hkk hnn hz h1 h2
  have e1 : ((k : Int) == 1) = false := by rw [hkq]; rfl
  have e2 : ((k : Int) == 2) = false := by rw [hkq]; rfl
  have e3 : ((k : Int) == 3) = false := by rw [hkq]; rfl
  have e6 : ((k : Int) == 6) = false := by rw [hkq]; rfl
  have e8 : ((k : Int) == 8) = false := by rw [hkq]; rfl
  have e9 : ((k : Int) == 9) = false := by rw [hkq]; rfl
  have e10 : ((k : Int) == 10) = false := by rw [hkq]; rfl
  have e11 : ((k : Int) == 11) = false := by rw [hkq]; rfl
  have e12 : ((k : Int) == 12) = true := by rw [hkq]; rfl
  have HKQ := Lib.hid (And.intro hkq hn56)
  clear hkq hn56
  go_enter Tryz.func11, Tryz.ntmps11
  go_upto_region 1 with fail
  rw [← zero10 0 0]
  have sz1 : (w.alloc (.cells (nAo x) 27)).heap.size = w.heap.size + 1 := World.size_alloc ..
  generalize w.alloc (.cells (nAo x) 27) = w1 at W1 b1 sz1 ⊢
  have V2 : Hid (Whole (w1.alloc (.cells (oA (zeroO 0 0) none 0 0) 34)) (w.heap.size + 1) 34 (oA (zeroO 0 0) none 0 0)) := Lib.hid (by rw [← sz1]; exact Whole.new w1 _ _)
  have W2 := Lib.hid (W1.out.alloc (.cells (oA (zeroO 0 0) none 0 0) 34))
  have b2 := Lib.hid (b1.out.alloc b1.out.size (.cells (oA (zeroO 0 0) none 0 0) 34))
  generalize w1.alloc (.cells (oA (zeroO 0 0) none 0 0) 34) = w2 at W2 b2 V2 ⊢
  have x0 : w2.cell? ⟨w.heap.size, 0, none⟩ = some (.int .u8 (x.kind : Int)) := W2.out.cell 0
  have x1 : w2.cell? ⟨w.heap.size, 1, none⟩ = some (.int .u8 (x.n : Int)) := W2.out.cell 1
  go_upto_region 2 with (refine wpList_store_row rfl 34 (.tmp 3) (.tmp 16) rfl _ (oA (zeroO k n) none 0 0) rfl rfl 34 _ (heap_alloc_new _ _) (info10 _ _ _ _) rfl (all10 _ _ _ _) ?_; rw [World.setRow_alloc_new])
  have I3 : Hid (MoI w x w2.heap.size (zeroO k n) (w2.alloc (.cells (oA (zeroO k n) none 0 0) 34))) := Lib.hid ⟨b2.out.alloc b2.out.size _, W2.out.alloc _, V2.out.alloc _, Whole.new w2 _ _, by have := V2.out.lt; omega⟩
  clear x0 x1 W1 W2 b1 b2 V2 sz1 hw1 hw2 hw3 hw4 hkm hnm
  generalize w2.alloc (.cells (oA (zeroO k n) none 0 0) 34) = w3 at I3 ⊢
  generalize w2.heap.size = O at I3 ⊢
  have y0 : w3.cell? ⟨O, 0, none⟩ = some (.int .i64 (k : Int)) := I3.out.co.cell 0
  have hz5 := HZ.out.m
  obtain ⟨g7, hg7⟩ : ∃ g7 : Nat, g7 = x.m % 7 := ⟨_, rfl⟩
  have ht5 : (x.m : Int).tmod 7 = (g7 : Int) := by rw [Int.tmod_eq_emod_of_nonneg (by omega)]; omega
  have hg77 : g7 ≤ 6 := by omega
  have hw5 : IntKind.i64.wrap (g7 : Int) = (g7 : Int) := IntWalk.i64_in _ (by omega)
  have hw6 : IntKind.i64.wrap (1 + (g7 : Int)) = 1 + (g7 : Int) := IntWalk.i64_in _ (by omega)
  have hm1 : 1 + (x.m : Int) % 7 = 1 + (g7 : Int) := by omega
  rw [hm1] at HM
  have HG7 := Lib.hid hg77
  clear hz5 hg7 hg77 hm1
  obtain ⟨kk, hkk⟩ : ∃ kk, kk = nmBA x.key := ⟨_, rfl⟩
  obtain ⟨tt, htt⟩ : ∃ tt, tt = nmBA x.to := ⟨_, rfl⟩
  have NK : Hid (∀ W : World, Calls Tryz.prog 38 #[.int .u8 (x.key : Int)] W fun e w' => e = .returned (.string kk) ∧ Below W.heap.size W w') := Lib.hid (fun W => by rw [hkk]; exact made_name x.key HZ.out.key W)
  have NT : Hid (∀ W : World, Calls Tryz.prog 38 #[.int .u8 (x.to : Int)] W fun e w' => e = .returned (.string tt) ∧ Below W.heap.size W w') := Lib.hid (fun W => by rw [htt]; exact made_name x.to HZ.out.tto W)
  have HKN := Lib.hid (And.intro hkk htt)
  clear hkk htt
  have HNC : Hid (w.heap.size ≠ O) := Lib.hid (by have := I3.out.o1; omega)
  go_upto_region 16 with fail
  clear y0
  go_cut [] from 58 to 68 (fun wx => Hid (MoI w x O { zeroO k n with m := 1 + (g7 : Int), f := kk } wx))
  case first =>
    have SA : Hid (w3.drew.cell? ⟨w.heap.size, 2, none⟩ = some (.int .u8 (x.key : Int)) ∧ w3.drew.cell? ⟨w.heap.size, 5, none⟩ = some (.int .u32 (x.m : Int)) ∧ True) := Lib.hid ⟨I3.out.nm.cell 2, I3.out.nm.cell 5, trivial⟩
    have Id : Hid (MoI w x O (zeroO k n) w3.drew) := Lib.hid (I3.out.keep (Below.refl _ _).drew)
    clear I3
    refine wp_region_held_drew (S := fun wx => wx.cell? ⟨w.heap.size, 2, none⟩ = some (.int .u8 (x.key : Int)) ∧ wx.cell? ⟨w.heap.size, 5, none⟩ = some (.int .u32 (x.m : Int)) ∧ True) (by kernel_rfl) SA.out (fun hHeld => ?_)
    clear SA
    generalize w3.drew = wz at hHeld Id ⊢
    refine wpAnyH_take (i := 0) (v := ?_) rfl (by kernel_rfl) (by kernel_rfl) (by kernel_rfl) (fun _ _ _ h => h) (Or.inl ⟨by rfl, ?_⟩) (by assumption) ?_
    rotate_left
    · intro w hSw
      go_simp
      try with_reducible rfl
    simp only [Act.put, List.getElem_toArray, List.getElem_cons_zero, List.setIfInBounds_toArray, List.set_cons_zero, List.set_cons_succ]
    refine wpAnyH_take (i := 1) (v := ?_) rfl (by kernel_rfl) (by kernel_rfl) (by kernel_rfl) (fun _ _ _ h => h) (Or.inl ⟨by rfl, ?_⟩) (by assumption) ?_
    rotate_left
    · intro w hSw
      go_simp
      try with_reducible rfl
    simp only [Act.put, List.getElem_toArray, List.getElem_cons_succ, List.getElem_cons_zero, List.setIfInBounds_toArray, List.set_cons_zero, List.set_cons_succ]
    refine wpAnyH_take (i := 4) (v := ?_) rfl (by kernel_rfl) (by kernel_rfl) (by kernel_rfl) (fun _ _ _ h => h) (Or.inl ⟨by rfl, ?_⟩) (by assumption) ?_
    rotate_left
    · intro w hSw
      go_simp
      try with_reducible rfl
    simp only [Act.put, List.getElem_toArray, List.getElem_cons_succ, List.getElem_cons_zero, List.setIfInBounds_toArray, List.set_cons_zero, List.set_cons_succ]
    refine wpAnyH_take (i := 5) (v := ?_) rfl (by kernel_rfl) (by kernel_rfl) (by kernel_rfl) (fun _ _ _ h => h) (Or.inl ⟨by rfl, ?_⟩) (by assumption) ?_
    rotate_left
    · intro w hSw
      go_simp
      try with_reducible rfl
    simp only [Act.put, List.getElem_toArray, List.getElem_cons_succ, List.getElem_cons_zero, List.setIfInBounds_toArray, List.set_cons_zero, List.set_cons_succ]
    refine wpAnyH_take (i := 6) (v := ?_) rfl (by kernel_rfl) (by kernel_rfl) (by kernel_rfl) (fun _ _ _ h => h) (Or.inl ⟨by rfl, ?_⟩) (by assumption) ?_
    rotate_left
    · intro w hSw
      go_simp
      try with_reducible rfl
    simp only [Act.put, List.getElem_toArray, List.getElem_cons_succ, List.getElem_cons_zero, List.setIfInBounds_toArray, List.set_cons_zero, List.set_cons_succ]
    refine wpAnyH_take (i := 7) (v := ?_) rfl (by kernel_rfl) (by kernel_rfl) (by kernel_rfl) (fun _ _ _ h => h) (Or.inl ⟨by rfl, ?_⟩) (by assumption) ?_
    rotate_left
    · intro w hSw
      go_simp
      try with_reducible rfl
    simp only [Act.put, List.getElem_toArray, List.getElem_cons_succ, List.getElem_cons_zero, List.setIfInBounds_toArray, List.set_cons_zero, List.set_cons_succ]
    refine wpAnyH_take (i := 8) (v := ?_) rfl (by kernel_rfl) (by kernel_rfl) (by kernel_rfl) (fun _ _ _ h => h) (Or.inl ⟨by rfl, ?_⟩) (by assumption) ?_
    rotate_left
    · intro w hSw
      go_simp
      try with_reducible rfl
    simp only [Act.put, List.getElem_toArray, List.getElem_cons_succ, List.getElem_cons_zero, List.setIfInBounds_toArray, List.set_cons_zero, List.set_cons_succ]
    refine wpAnyH_ready (rs := [2]) (by kernel_rfl) (by simp) ?_
    refine AllReadyH.cons rfl (fun K hK => ?_) AllReadyH.nil
    go_simp
    refine (NK.out _).mono ?_
    rintro e wa ⟨rfl, hb⟩
    try go_simp
    have Ia := Lib.hid (Id.out.keep hb)
    refine hK.out _ _ ?_ (fun hHeld' => ?_)
    · exact ⟨bcell hHeld.1 hb, bcell hHeld.2.1 hb, trivial⟩
    clear hK K hHeld
    have hHeld := hHeld'
    clear hHeld'
    try simp only [Act.put, List.getElem_toArray, List.getElem_cons_succ, List.getElem_cons_zero, List.setIfInBounds_toArray, List.set_cons_zero, List.set_cons_succ]
    clear hb Id NK
    refine wpAnyH_take (i := 3) (v := ?_) rfl (by kernel_rfl) (by kernel_rfl) (by kernel_rfl) (fun _ _ _ h => h) (Or.inl ⟨by rfl, ?_⟩) (by assumption) ?_
    rotate_left
    · intro w hSw
      go_simp
      try with_reducible rfl
    simp only [Act.put, List.getElem_toArray, List.getElem_cons_succ, List.getElem_cons_zero, List.setIfInBounds_toArray, List.set_cons_zero, List.set_cons_succ]
    refine wpAnyH_take (i := 9) (v := ?_) rfl (by kernel_rfl) (by kernel_rfl) (by kernel_rfl) (fun _ _ _ h => h) (Or.inl ⟨by rfl, ?_⟩) (by assumption) ?_
    rotate_left
    · intro w hSw
      go_simp
      try with_reducible rfl
    simp only [Act.put, List.getElem_toArray, List.getElem_cons_succ, List.getElem_cons_zero, List.setIfInBounds_toArray, List.set_cons_zero, List.set_cons_succ]
    refine wpAnyH_ready (rs := [10]) (by kernel_rfl) (by simp) ?_
    refine AllReadyH.cons rfl (fun K hK => ?_) AllReadyH.nil
    have y4 := Ia.out.co.cell 4
    have f4 := Ia.out.co.fr 4
    have y5 := Ia.out.co.cell 5
    have f5 := Ia.out.co.fr 5
    obtain ⟨o4, ho4⟩ : ∃ o4, (oA (zeroO k n) none 0 0)[4]? = some o4 := ⟨_, rfl⟩
    obtain ⟨o5, ho5⟩ : ∃ o5, (oA (zeroO k n) none 0 0)[5]? = some o5 := ⟨_, rfl⟩
    rw [ho4] at y4
    rw [ho5] at y5
    clear ho4 ho5
    go_simp
    have P1 := (Ia.out.put (cc' := { zeroO k n with f := kk }) 4 (.string kk) rfl).put (cc' := { zeroO k n with f := kk }) 5 (.string ⟨#[]⟩) rfl
    refine hK.out _ _ ?_ (fun hHeld' => ?_)
    · exact ⟨gcell hHeld.1 (grown_set (grown_set (World.grownBy.refl _ (some O)) 4 _) 5 _) (fun e => HNC.out (Option.some.inj e)), gcell hHeld.2.1 (grown_set (grown_set (World.grownBy.refl _ (some O)) 4 _) 5 _) (fun e => HNC.out (Option.some.inj e)), trivial⟩
    clear hK K hHeld
    have hHeld := hHeld'
    clear hHeld'
    try simp only [Act.put, List.getElem_toArray, List.getElem_cons_succ, List.getElem_cons_zero]
    have Ib := Lib.hid P1
    clear P1 y4 y5 f4 f5 Ia
    generalize (wa.setCell ⟨O, 4, none⟩ (.string kk)).setCell ⟨O, 5, none⟩ (.string ⟨#[]⟩) = wb at hHeld Ib ⊢
    refine wpAnyH_take (i := 11) (v := ?_) rfl (by kernel_rfl) (by kernel_rfl) (by kernel_rfl) (fun _ _ _ h => h) (Or.inl ⟨by rfl, ?_⟩) (by assumption) ?_
    rotate_left
    · intro w hSw
      go_simp
      try with_reducible rfl
    simp only [Act.put, List.getElem_toArray, List.getElem_cons_succ, List.getElem_cons_zero, List.setIfInBounds_toArray, List.set_cons_zero, List.set_cons_succ]
    refine wpAnyH_ready (rs := [12]) (by kernel_rfl) (by simp) ?_
    refine AllReadyH.cons rfl (fun K hK => ?_) AllReadyH.nil
    have y2 := Ib.out.co.cell 2
    have f2 := Ib.out.co.fr 2
    obtain ⟨o2, ho2⟩ : ∃ o2, (oA { zeroO k n with f := kk } none 0 0)[2]? = some o2 := ⟨_, rfl⟩
    rw [ho2] at y2
    clear ho2
    go_simp
    have P2 := Ib.out.put (cc' := { zeroO k n with m := 1 + (g7 : Int), f := kk }) 2 (.int .i64 (1 + (g7 : Int))) rfl
    refine hK.out _ _ ?_ (fun hHeld' => ?_)
    · exact ⟨gcell hHeld.1 (grown_set (World.grownBy.refl _ (some O)) 2 _) (fun e => HNC.out (Option.some.inj e)), gcell hHeld.2.1 (grown_set (World.grownBy.refl _ (some O)) 2 _) (fun e => HNC.out (Option.some.inj e)), trivial⟩
    clear hK K hHeld
    have hHeld := hHeld'
    clear hHeld'
    try simp only [Act.put, List.getElem_toArray, List.getElem_cons_succ, List.getElem_cons_zero]
    have Ic := Lib.hid P2
    clear P2 y2 f2 Ib
    refine wpAnyH_done (by kernel_rfl) ?_ _
    clear hHeld
    go_wp2_with fail
    go_meet
    case rel => exact Ic
  case rest =>
  generalize wc = w4 at hcut ⊢
  have I4 := hcut
  clear hcut I3 NK
  have x3 : w4.cell? ⟨w.heap.size, 3, none⟩ = some (.int .u8 (x.to : Int)) := I4.out.nm.cell 3
  go_upto_region 18 with (go_at_call 38; refine (NT.out _).mono ?_; rintro e w5 ⟨rfl, hb⟩; have I5 := Lib.hid (I4.out.keep hb); clear hb NT x3)
  clear I4
  have y4 : w5.cell? ⟨O, 4, none⟩ = some (.string kk) := I5.out.co.cell 4
  have y5 : w5.cell? ⟨O, 5, none⟩ = some (.string ⟨#[]⟩) := I5.out.co.cell 5
  have f5 := I5.out.co.fr 5
  go_upto_if 76 with fail
  go_cut [] from 76 to 79 (fun wx => Hid (MoI w x O { zeroO k n with m := 1 + (g7 : Int), f := kk, t := toN (nvO x) } wx))
  case first =>
    have hq := gt_iff kk tt
    generalize (!Op.bytesLess tt.toList kk.toList && !(tt.toList == kk.toList)) = q at hq ⊢
    cases q with
    | true =>
      have ht : toN (nvO x) = tt := by unfold toN; show (if Op.bytesLess (nmBA x.key).toList (nmBA x.to).toList = true then nmBA x.to else ⟨#[]⟩) = tt; rw [← HKN.out.1, ← HKN.out.2, ← hq]; rfl
      have R8 : Hid (MoI w x O { zeroO k n with m := 1 + (g7 : Int), f := kk, t := toN (nvO x) } (w5.setCell ⟨O, 5, none⟩ (.string tt))) := Lib.hid (by rw [ht]; exact I5.out.put 5 (.string tt) rfl)
      clear hq ht I5
      go_wp2_with fail
      go_meet
      case rel => exact R8
    | false =>
      have ht : toN (nvO x) = ⟨#[]⟩ := by unfold toN; show (if Op.bytesLess (nmBA x.key).toList (nmBA x.to).toList = true then nmBA x.to else ⟨#[]⟩) = _; rw [← HKN.out.1, ← HKN.out.2, ← hq]; rfl
      have R8 : Hid (MoI w x O { zeroO k n with m := 1 + (g7 : Int), f := kk, t := toN (nvO x) } w5) := Lib.hid (by rw [ht]; exact I5.out)
      clear hq ht I5
      go_wp2_with fail
      go_meet
      case rel => exact R8
  case rest =>
  clear y4 y5 f5 I5
  generalize wc = w6 at hcut ⊢
  have I6 := hcut
  clear hcut
  have z4 : w6.cell? ⟨w.heap.size, 4, none⟩ = some (.int .u8 (x.step : Int)) := I6.out.nm.cell 4
  have y4 : w6.cell? ⟨O, 4, none⟩ = some (.string kk) := I6.out.co.cell 4
  have f4 := I6.out.co.fr 4
  go_upto_if 83 with fail
  by_cases hq : x.step % 4 = 0
  · have ht : frO x = ⟨#[]⟩ := by unfold frO; rw [if_pos hq]
    have e0 : ((x.step : Int) % 4 == 0) = true := by rw [beq_iff_eq]; omega
    have e0' : ((x.step : Int).tmod 4 == 0) = true := by rw [Int.tmod_eq_emod_of_nonneg (by omega)]; exact e0
    obtain ⟨ff, hff⟩ : ∃ ff, ff = frO x := ⟨_, rfl⟩
    obtain ⟨tn, htn⟩ : ∃ tn, tn = toN (nvO x) := ⟨_, rfl⟩
    have HFZ : Hid (ff.size ≤ 9223372036854775807 ∧ tn.size ≤ 9223372036854775807) := Lib.hid ⟨by rw [hff]; exact fr_z x, by rw [htn]; exact to_z _⟩
    have I7 : Hid (MoI w x O { zeroO k n with m := 1 + (g7 : Int), f := ff, t := tn } (w6.setCell ⟨O, 4, none⟩ (.string ⟨#[]⟩))) := Lib.hid (by rw [hff, htn, ht]; exact I6.out.put 4 (.string ⟨#[]⟩) rfl)
    rw [← hff, ← htn] at HM
    clear hff htn hq ht I6
    go_upto_region 22 with fail
    clear z4 y4 f4 e0 e0'
    generalize w6.setCell ⟨O, 4, none⟩ (.string ⟨#[]⟩) = w7 at I7 ⊢
    obtain ⟨cc, hcc⟩ : ∃ cc : Ov, cc = { zeroO k n with m := 1 + (g7 : Int), f := ff, t := tn } := ⟨_, rfl⟩
    have hck : cc.k = k := by rw [hcc]; rfl
    have IF : Hid (MoI w x O cc w7) := Lib.hid (by rw [hcc]; exact I7.out)
    have HM : Hid (madeO x = cc) := Lib.hid (HM.out.trans hcc.symm)
    have HZC : Hid (OpZ cc) := Lib.hid (by rw [hcc]; exact (let z := opok_z (k := k) (n := n) (by have := HKQ.out.1; omega) (by have := HKQ.out.2; omega); ⟨z.k, z.n, nat64 (n := 1 + g7) (by have := HG7.out; omega), z.key, HFZ.out.1, HFZ.out.2⟩))
    have HCD : Hid (cc.d = zeroD) := Lib.hid (by rw [hcc]; rfl)
    have y0 : w7.cell? ⟨O, 0, none⟩ = some (.int .i64 (k : Int)) := by rw [← hck]; exact IF.out.co.cell 0
    clear hcc hck I7
    go_wp2_with (first
      | (refine wpList_load_row rfl 34 (.tmp 3) rfl O rfl 34 (oA cc none 0 0) (0, 0) _ IF.out.co Tryz.underlying34 rfl (info10 _ _ _ _) ?_)
      | (refine wpList_store_row rfl 34 (.tmp 2) (.tmp 134) rfl (w.heap.size + 1) (oA cc none 0 0) rfl rfl 34 (oA (zeroO 0 0) none 0 0) IF.out.rs (info10 _ _ _ _) rfl (all10 _ _ _ _) ?_))
    refine bodyPost_ret (results_row1 rfl _ _ (w.heap.size + 1) 34 (oA cc none 0 0) (0, 0) _ rfl (setRow_heap _ _ _ _ _ _ IF.out.rs) Tryz.underlying34 rfl (info10 _ _ _ _)) rfl ?_
    exact IF.out.done HCD.out HZC.out HM.out _ rfl
  · have ht : frO x = kk := by unfold frO; rw [if_neg hq, HKN.out.1]
    have e0 : ((x.step : Int) % 4 == 0) = false := by rw [beq_eq_false_iff_ne]; omega
    have e0' : ((x.step : Int).tmod 4 == 0) = false := by rw [Int.tmod_eq_emod_of_nonneg (by omega)]; exact e0
    obtain ⟨ff, hff⟩ : ∃ ff, ff = frO x := ⟨_, rfl⟩
    obtain ⟨tn, htn⟩ : ∃ tn, tn = toN (nvO x) := ⟨_, rfl⟩
    have HFZ : Hid (ff.size ≤ 9223372036854775807 ∧ tn.size ≤ 9223372036854775807) := Lib.hid ⟨by rw [hff]; exact fr_z x, by rw [htn]; exact to_z _⟩
    have I7 : Hid (MoI w x O { zeroO k n with m := 1 + (g7 : Int), f := ff, t := tn } w6) := Lib.hid (by rw [hff, htn, ht]; exact I6.out)
    rw [← hff, ← htn] at HM
    clear hff htn hq ht I6
    go_upto_region 22 with fail
    clear z4 y4 f4 e0 e0'
    generalize w6 = w7 at I7 ⊢
    obtain ⟨cc, hcc⟩ : ∃ cc : Ov, cc = { zeroO k n with m := 1 + (g7 : Int), f := ff, t := tn } := ⟨_, rfl⟩
    have hck : cc.k = k := by rw [hcc]; rfl
    have IF : Hid (MoI w x O cc w7) := Lib.hid (by rw [hcc]; exact I7.out)
    have HM : Hid (madeO x = cc) := Lib.hid (HM.out.trans hcc.symm)
    have HZC : Hid (OpZ cc) := Lib.hid (by rw [hcc]; exact (let z := opok_z (k := k) (n := n) (by have := HKQ.out.1; omega) (by have := HKQ.out.2; omega); ⟨z.k, z.n, nat64 (n := 1 + g7) (by have := HG7.out; omega), z.key, HFZ.out.1, HFZ.out.2⟩))
    have HCD : Hid (cc.d = zeroD) := Lib.hid (by rw [hcc]; rfl)
    have y0 : w7.cell? ⟨O, 0, none⟩ = some (.int .i64 (k : Int)) := by rw [← hck]; exact IF.out.co.cell 0
    clear hcc hck I7
    go_wp2_with (first
      | (refine wpList_load_row rfl 34 (.tmp 3) rfl O rfl 34 (oA cc none 0 0) (0, 0) _ IF.out.co Tryz.underlying34 rfl (info10 _ _ _ _) ?_)
      | (refine wpList_store_row rfl 34 (.tmp 2) (.tmp 134) rfl (w.heap.size + 1) (oA cc none 0 0) rfl rfl 34 (oA (zeroO 0 0) none 0 0) IF.out.rs (info10 _ _ _ _) rfl (all10 _ _ _ _) ?_))
    refine bodyPost_ret (results_row1 rfl _ _ (w.heap.size + 1) 34 (oA cc none 0 0) (0, 0) _ rfl (setRow_heap _ _ _ _ _ _ IF.out.rs) Tryz.underlying34 rfl (info10 _ _ _ _)) rfl ?_
    exact IF.out.done HCD.out HZC.out HM.out _ rfl
end Go.Proofs.YtojodekmmkemgaaGreatDoor
