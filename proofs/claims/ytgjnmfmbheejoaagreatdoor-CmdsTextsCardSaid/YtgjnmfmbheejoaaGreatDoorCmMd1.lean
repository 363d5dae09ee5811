/- The command that numbers make. Condition: the table of kinds lies in memory. -/
import Derived.Test.YtgjnmfmbheejoaaGreatDoorCmMdT
namespace Go.Proofs.YtgjnmfmbheejoaaGreatDoor
open Go.RowKit Go.Shelf

set_option maxRecDepth 100000 in
set_option maxHeartbeats 8000000 in
theorem made_1 (x : Nv) (hz : NvZ x) (hk : x.kind % 10 = 1) (w : World) (hK : KndE w) :
    Calls Tryz.prog 36 #[.agg (nA x)] w fun e w' => MadeR x w w' e := by
  have H1 := made_start w x
  obtain ⟨b, o, cp, k0, k1⟩ := hK.keep H1.1
  have k2 := k1 1 (by decide)
  rw [show (kindsL[1]?).getD 0 = 1 from rfl] at k2
  have hzk := hz.kind
  have hwk : IntKind.i64.wrap (x.kind : Int) = (x.kind : Int) := IntWalk.i64_in _ (by omega)
  have htk : (x.kind : Int).tmod 10 = 1 := by rw [Int.tmod_eq_emod_of_nonneg (by omega)]; omega
  have hz1 := hz.step
  have hz4 := hz.saga
  obtain ⟨s1, hs1⟩ : ∃ s : Int, s = (x.saga : Int) % 9999 := ⟨_, rfl⟩
  obtain ⟨s2, hs2⟩ : ∃ s : Int, s = (x.step : Int) % 8 := ⟨_, rfl⟩
  obtain ⟨s3, hs3⟩ : ∃ s : Int, s = (x.step : Int) / 8 % 3 := ⟨_, rfl⟩
  have hw4 : IntKind.i64.wrap (x.saga : Int) = (x.saga : Int) := IntWalk.i64_in _ (by omega)
  have hw1s : IntKind.i64.wrap (x.step : Int) = (x.step : Int) := IntWalk.i64_in _ (by omega)
  have hw18 : IntKind.i64.wrap ((x.step : Int) / 8) = (x.step : Int) / 8 := IntWalk.i64_in _ (by omega)
  have ht4 : (x.saga : Int).tmod 9999 = s1 := by rw [Int.tmod_eq_emod_of_nonneg (by omega)]; exact hs1.symm
  have ht1 : (x.step : Int).tmod 8 = s2 := by rw [Int.tmod_eq_emod_of_nonneg (by omega)]; exact hs2.symm
  have ht13 : ((x.step : Int) / 8).tmod 3 = s3 := by rw [Int.tmod_eq_emod_of_nonneg (by omega)]; exact hs3.symm
  have hws1 : IntKind.i64.wrap (1 + s1) = 1 + s1 := IntWalk.i64_in _ (by omega)
  have hws3 : IntKind.i64.wrap (1 + s3) = 1 + s3 := IntWalk.i64_in _ (by omega)
  have HS := Lib.hid (And.intro hs1 (And.intro hs2 hs3))
  clear hz1 hz4 hs1 hs2 hs3
  have HZ := Lib.hid hz
  have HKK := Lib.hid hk
  have x0 := H1.2.1.cell 0
  have H1 := Lib.hid H1
  clear hz hk hK k1 hzk
  go_enter Tryz.func36, Tryz.ntmps36
  go_upto_region 1 with fail
  rw [← zero24 0]
  generalize ((w.alloc (.cells (nA x) 62)).alloc (.cells (cA (zeroC 0) none 0 0) 36)) = w1 at H1 k0 k2 x0 ⊢
  have SA : Hid (w1.drew.cell? ⟨0, 0, none⟩ = some (.slice (some ⟨b, o, none⟩) 10 cp) ∧ w1.drew.cell? ⟨b, o + 1, none⟩ = some (.int .i64 1) ∧ w1.drew.cell? ⟨w.heap.size, 0, none⟩ = some (.int .u8 (x.kind : Int)) ∧ Below w1.heap.size w1 w1.drew) := Lib.hid ⟨k0, k2, x0, (Below.refl _ _).drew⟩
  have HL : Hid (0 < w1.heap.size ∧ b < w1.heap.size ∧ w.heap.size < w1.heap.size) := Lib.hid ⟨lt_cell k0, lt_cell k2, lt_cell x0⟩
  clear x0 k0 k2
  refine wp_region_held_drew (S := fun wx => wx.cell? ⟨0, 0, none⟩ = some (.slice (some ⟨b, o, none⟩) 10 cp) ∧ wx.cell? ⟨b, o + 1, none⟩ = some (.int .i64 1) ∧ wx.cell? ⟨w.heap.size, 0, none⟩ = some (.int .u8 (x.kind : Int)) ∧ Below w1.heap.size w1 wx) (by kernel_rfl) SA.out (fun hHeld => ?_)
  refine wpAnyH_take (i := 0) (v := ?_) rfl (by kernel_rfl) (by kernel_rfl) (by kernel_rfl) (fun _ _ _ h => h) (Or.inl ⟨by rfl, ?_⟩) (by assumption) ?_
  rotate_left
  · intro w hSw
    go_simp
    try with_reducible rfl
  simp only [Act.put, List.getElem_toArray, List.getElem_cons_zero, List.setIfInBounds_toArray, List.set_cons_zero, List.set_cons_succ]
  refine wpAnyH_take (i := 1) (v := ?_) rfl (by kernel_rfl) (by kernel_rfl) (by kernel_rfl) (fun _ _ _ h => h) (Or.inl ⟨by rfl, ?_⟩) (by assumption) ?_
  rotate_left
  · intro w hSw
    go_simp
    try with_reducible rfl
  simp only [Act.put, List.getElem_toArray, List.getElem_cons_succ, List.getElem_cons_zero, List.setIfInBounds_toArray, List.set_cons_zero, List.set_cons_succ]
  refine wpAnyH_take (i := 2) (v := ?_) rfl (by kernel_rfl) (by kernel_rfl) (by kernel_rfl) (fun _ _ _ h => h) (Or.inl ⟨by rfl, ?_⟩) (by assumption) ?_
  rotate_left
  · intro w hSw
    go_simp
    try with_reducible rfl
  simp only [Act.put, List.getElem_toArray, List.getElem_cons_succ, List.getElem_cons_zero, List.setIfInBounds_toArray, List.set_cons_zero, List.set_cons_succ]
  refine wpAnyH_take (i := 3) (v := ?_) rfl (by kernel_rfl) (by kernel_rfl) (by kernel_rfl) (fun _ _ _ h => h) (Or.inl ⟨by rfl, ?_⟩) (by assumption) ?_
  rotate_left
  · intro w hSw
    go_simp
    try with_reducible rfl
  simp only [Act.put, List.getElem_toArray, List.getElem_cons_succ, List.getElem_cons_zero, List.setIfInBounds_toArray, List.set_cons_zero, List.set_cons_succ]
  refine wpAnyH_take (i := 4) (v := ?_) rfl (by kernel_rfl) (by kernel_rfl) (by kernel_rfl) (fun _ _ _ h => h) (Or.inl ⟨by rfl, ?_⟩) (by assumption) ?_
  rotate_left
  · intro w hSw
    go_simp
    try with_reducible rfl
  simp only [Act.put, List.getElem_toArray, List.getElem_cons_succ, List.getElem_cons_zero, List.setIfInBounds_toArray, List.set_cons_zero, List.set_cons_succ]
  refine wpAnyH_take (i := 5) (v := ?_) rfl (by kernel_rfl) (by kernel_rfl) (by kernel_rfl) (fun _ _ _ h => h) (Or.inl ⟨by rfl, ?_⟩) (by assumption) ?_
  rotate_left
  · intro w hSw
    go_simp
    try with_reducible rfl
  simp only [Act.put, List.getElem_toArray, List.getElem_cons_succ, List.getElem_cons_zero, List.setIfInBounds_toArray, List.set_cons_zero, List.set_cons_succ]
  refine wpAnyH_take (i := 6) (v := ?_) rfl (by kernel_rfl) (by kernel_rfl) (by kernel_rfl) (fun _ _ _ h => h) (Or.inl ⟨by rfl, ?_⟩) (by assumption) ?_
  rotate_left
  · intro w hSw
    go_simp
    try with_reducible rfl
  simp only [Act.put, List.getElem_toArray, List.getElem_cons_succ, List.getElem_cons_zero, List.setIfInBounds_toArray, List.set_cons_zero, List.set_cons_succ]
  refine wpAnyH_take (i := 7) (v := ?_) rfl (by kernel_rfl) (by kernel_rfl) (by kernel_rfl) (fun _ _ _ h => h) (Or.inl ⟨by rfl, ?_⟩) (by assumption) ?_
  rotate_left
  · intro w hSw
    go_simp
    try with_reducible rfl
  simp only [Act.put, List.getElem_toArray, List.getElem_cons_succ, List.getElem_cons_zero, List.setIfInBounds_toArray, List.set_cons_zero, List.set_cons_succ]
  refine wpAnyH_take (i := 8) (v := ?_) rfl (by kernel_rfl) (by kernel_rfl) (by kernel_rfl) (fun _ _ _ h => h) (Or.inl ⟨by rfl, ?_⟩) (by assumption) ?_
  rotate_left
  · intro w hSw
    go_simp
    try with_reducible rfl
  simp only [Act.put, List.getElem_toArray, List.getElem_cons_succ, List.getElem_cons_zero, List.setIfInBounds_toArray, List.set_cons_zero, List.set_cons_succ]
  refine wpAnyH_take (i := 9) (v := ?_) rfl (by kernel_rfl) (by kernel_rfl) (by kernel_rfl) (fun _ _ _ h => h) (Or.inl ⟨by rfl, ?_⟩) (by assumption) ?_
  rotate_left
  · intro w hSw
    go_simp
    try with_reducible rfl
  simp only [Act.put, List.getElem_toArray, List.getElem_cons_succ, List.getElem_cons_zero, List.setIfInBounds_toArray, List.set_cons_zero, List.set_cons_succ]
  refine wpAnyH_ready (rs := [10]) (by kernel_rfl) (by simp) ?_
  refine AllReadyH.cons rfl (fun K hK => ?_) AllReadyH.nil
  go_simp
  rw [← zero24 0]
  have N2 : Whole (w1.drew.alloc (.cells (cA (zeroC 0) none 0 0) 36)) w1.heap.size 36 (cA (zeroC 0) none 0 0) := Whole.new w1.drew _ _
  refine hK.out _ _ ?_ (fun hHeld' => ?_)
  · exact ⟨acell _ hHeld.1, acell _ hHeld.2.1, acell _ hHeld.2.2.1, hHeld.2.2.2.alloc hHeld.2.2.2.size _⟩
  clear hK K hHeld
  have hHeld := hHeld'
  clear hHeld'
  try simp only [Act.put, List.getElem_toArray, List.getElem_cons_succ, List.getElem_cons_zero, List.setIfInBounds_toArray, List.set_cons_zero, List.set_cons_succ]
  have hN : Hid (Whole ((w1.alloc (.cells (cA (zeroC 0) none 0 0) 36)).drew) w1.heap.size 36 (cA (zeroC 0) none 0 0)) := Lib.hid N2
  clear N2
  generalize (w1.alloc (.cells (cA (zeroC 0) none 0 0) 36)).drew = w2 at hHeld hN ⊢
  refine wpAnyH_ready (rs := [11]) (by kernel_rfl) (by simp) ?_
  refine AllReadyH.cons rfl (fun K hK => ?_) AllReadyH.nil
  rw [if_pos (by rfl)]
  refine wp_store_row 36 (.tmp 3) (.tmp 19) rfl w1.heap.size (cA (zeroC 1) none 0 0) rfl rfl 36 (cA (zeroC 0) none 0 0) hN.out (info24 _ _ _ _) rfl (all24 _ _ _ _) ?_
  have I3 := Lib.hid (MdI.new H1.out hHeld.2.2.2 hN.out 1 ⟨by decide, by decide⟩)
  refine hK.out _ _ ?_ (fun hHeld' => ?_)
  · exact ⟨gcell hHeld.1 (setRow_grown _ _ _) (fun e => Nat.ne_of_lt HL.out.1 (Option.some.inj e)), gcell hHeld.2.1 (setRow_grown _ _ _) (fun e => Nat.ne_of_lt HL.out.2.1 (Option.some.inj e)), gcell hHeld.2.2.1 (setRow_grown _ _ _) (fun e => Nat.ne_of_lt HL.out.2.2 (Option.some.inj e)), hHeld.2.2.2.grown (setRow_grown _ _ _) hHeld.2.2.2.size (fun k e => by cases e; exact Nat.le_refl _)⟩
  clear hK K hHeld
  have hHeld := hHeld'
  clear hHeld'
  try simp only [Act.put, List.getElem_toArray, List.getElem_cons_succ, List.getElem_cons_zero]
  refine wpAnyH_done (by kernel_rfl) ?_ _
  clear hHeld hN SA HL H1
  generalize w2.setRow w1.heap.size (cA (zeroC 1) none 0 0) = w3 at I3 ⊢
  generalize w1.heap.size = C at I3 ⊢
  have x1 : w3.cell? ⟨w.heap.size, 1, none⟩ = some (.int .u8 (x.step : Int)) := I3.out.nm.cell 1
  have x4 : w3.cell? ⟨w.heap.size, 4, none⟩ = some (.int .u16 (x.saga : Int)) := I3.out.nm.cell 4
  go_upto_region 3 with fail
  clear x1 x4 hw4 ht4 hw1s hw18 ht1 ht13 hws1 hws3 hwk htk
  have I4 : Hid (MdI w x C (zeroC 1) none 0 0 (w3.alloc (.cells #[.int .i64 (1 + s1), .int .i64 s2, .int .i64 (1 + s3)] 26))) := Lib.hid (I3.out.keep ((Below.refl _ _).alloc (Nat.le_refl _) _))
  have E4 := Lib.hid (Whole.new w3 26 #[.int .i64 (1 + s1), .int .i64 s2, .int .i64 (1 + s3)])
  have HCE : Hid (C < w3.heap.size) := Lib.hid I3.out.co.lt
  clear I3
  generalize w3.alloc (.cells #[.int .i64 (1 + s1), .int .i64 s2, .int .i64 (1 + s3)] 26) = w4 at I4 E4 ⊢
  generalize w3.heap.size = E at E4 HCE ⊢
  have x7 : w4.cell? ⟨w.heap.size, 7, none⟩ = some (.int .i64 x.delta) := I4.out.nm.cell 7
  obtain ⟨v, hv⟩ : ∃ v, x.delta.tmod 1152921504606846977 = v := ⟨_, rfl⟩
  have HV := Lib.hid hv
  go_upto_if 40 with fail
  go_cut [5] from 41 to 41 (fun s5 wx => s5 = .int .i64 (dlN x) ∧ w4 = wx)
  case first =>
    by_cases hv0 : v = 0
    · have hd : dlN x = 1 := by unfold dlN; rw [hv, if_pos hv0]
      have e0 : (v == 0) = true := by rw [hv0]; rfl
      have HD := Lib.hid hd
      clear hv hd hv0
      go_wp2_with fail
      go_meet
      case rel => exact ⟨by rw [HD.out], rfl⟩
    · have hd : dlN x = v := by unfold dlN; rw [hv, if_neg hv0]
      have e0 : (v == 0) = false := beq_eq_false_iff_ne.2 hv0
      have HD := Lib.hid hd
      clear hv hd hv0
      go_wp2_with fail
      go_meet
      case rel => exact ⟨by rw [HD.out], rfl⟩
  case rest =>
  obtain ⟨rfl, rfl⟩ := hcut
  clear x7 hv HV
  have x2 : w4.cell? ⟨w.heap.size, 2, none⟩ = some (.int .u8 (x.key : Int)) := I4.out.nm.cell 2
  have NK := Lib.hid (made_name x.key HZ.out.key w4)
  obtain ⟨kk, hkk⟩ : ∃ kk, kk = nmBA x.key := ⟨_, rfl⟩
  obtain ⟨tt, htt⟩ : ∃ tt, tt = nmBA x.to := ⟨_, rfl⟩
  rw [← hkk] at NK
  have NTA := Lib.hid (fun W => made_name x.to HZ.out.tto W)
  rw [← htt] at NTA
  have HKN := Lib.hid (And.intro hkk htt)
  clear hkk htt
  go_upto_region 7 with (go_at_call 38; refine NK.out.mono ?_; rintro e w5 ⟨rfl, hb⟩; have ba := (Below.refl w5.heap.size w5).alloc (Nat.le_refl _) (.cells #[.string kk, .string ⟨#[]⟩] 28); have I5 := Lib.hid ((I4.out.keep hb).keep ba); have E5 := Lib.hid ((E4.out.keep hb).keep ba); have S5 := Lib.hid (Whole.new w5 28 #[.string kk, .string ⟨#[]⟩]); have HCS := Lib.hid (And.intro (I4.out.keep hb).co.lt (E4.out.keep hb).lt); clear hb ba NK)
  clear x2 I4 E4
  generalize w5.alloc (.cells #[.string kk, .string ⟨#[]⟩] 28) = w6 at I5 E5 S5 ⊢
  generalize w5.heap.size = S at S5 HCS ⊢
  have x3 : w6.cell? ⟨w.heap.size, 3, none⟩ = some (.int .u8 (x.to : Int)) := I5.out.nm.cell 3
  have NT := Lib.hid (NTA.out w6)
  clear NTA
  go_upto_region 8 with (go_at_call 38; refine NT.out.mono ?_; rintro e w7 ⟨rfl, hb⟩; have I7 := Lib.hid (I5.out.keep hb); have E7 := Lib.hid (E5.out.keep hb); have S7 := Lib.hid (S5.out.keep hb); clear hb NT)
  clear x3 I5 E5 S5
  have y0 : w7.cell? ⟨S, 0, none⟩ = some (.string kk) := S7.out.cell 0
  have y1 : w7.cell? ⟨S, 1, none⟩ = some (.string ⟨#[]⟩) := S7.out.cell 1
  have f0 := S7.out.fr 0
  have f1 := S7.out.fr 1
  go_upto_if 51 with fail
  go_cut [] from 51 to 53 (fun wx => Hid (MdI w x C (zeroC 1) none 0 0 wx ∧ Whole wx E 26 #[.int .i64 (1 + s1), .int .i64 s2, .int .i64 (1 + s3)] ∧ Whole wx S 28 #[.string kk, .string (toN x)]))
  case first =>
    have hq := gt_iff kk tt
    generalize (!Op.bytesLess tt.toList kk.toList && !(tt.toList == kk.toList)) = q at hq ⊢
    cases q with
    | true =>
      have ht : toN x = tt := by unfold toN; rw [← HKN.out.1, ← HKN.out.2, ← hq]; rfl
      have g := grown_set (World.grownBy.refl w7 (some S)) 1 (.string tt)
      have R8 : Hid (MdI w x C (zeroC 1) none 0 0 (w7.setCell ⟨S, 1, none⟩ (.string tt)) ∧ Whole (w7.setCell ⟨S, 1, none⟩ (.string tt)) E 26 #[.int .i64 (1 + s1), .int .i64 s2, .int .i64 (1 + s3)] ∧ Whole (w7.setCell ⟨S, 1, none⟩ (.string tt)) S 28 #[.string kk, .string (toN x)]) := Lib.hid ⟨I7.out.other g HCS.out.1 rfl, E7.out.grown g (fun e => Nat.ne_of_lt HCS.out.2 (Option.some.inj e)), by rw [ht]; exact S7.out.put 1 (.string tt)⟩
      clear hq ht g I7 E7 S7
      go_wp2_with fail
      go_meet
      case rel => exact R8
    | false =>
      have ht : toN x = ⟨#[]⟩ := by unfold toN; rw [← HKN.out.1, ← HKN.out.2, ← hq]; rfl
      have R8 : Hid (MdI w x C (zeroC 1) none 0 0 w7 ∧ Whole w7 E 26 #[.int .i64 (1 + s1), .int .i64 s2, .int .i64 (1 + s3)] ∧ Whole w7 S 28 #[.string kk, .string (toN x)]) := Lib.hid ⟨I7.out, E7.out, by rw [ht]; exact S7.out⟩
      clear hq ht I7 E7 S7
      go_wp2_with fail
      go_meet
      case rel => exact R8
  case rest =>
  clear y0 y1 f0 f1 I7 E7 S7
  generalize wc = w8 at hcut ⊢
  have I9 := hcut
  clear hcut
  have z3 : w8.cell? ⟨w.heap.size, 3, none⟩ = some (.int .u8 (x.to : Int)) := I9.out.1.nm.cell 3
  have y0 : w8.cell? ⟨S, 0, none⟩ = some (.string kk) := I9.out.2.2.cell 0
  have f0 := I9.out.2.2.fr 0
  go_upto_if 57 with fail
  go_cut [] from 57 to 58 (fun wx => Hid (MdI w x C (zeroC 1) none 0 0 wx ∧ Whole wx E 26 #[.int .i64 (1 + s1), .int .i64 s2, .int .i64 (1 + s3)] ∧ Whole wx S 28 #[.string (frN x), .string (toN x)]))
  case first =>
    by_cases hq : x.to % 5 = 0
    · have ht : frN x = ⟨#[]⟩ := by unfold frN; rw [if_pos hq]
      have e0 : ((x.to : Int) % 5 == 0) = true := by rw [beq_iff_eq]; omega
      have g := grown_set (World.grownBy.refl w8 (some S)) 0 (.string ⟨#[]⟩)
      have R8 : Hid (MdI w x C (zeroC 1) none 0 0 (w8.setCell ⟨S, 0, none⟩ (.string ⟨#[]⟩)) ∧ Whole (w8.setCell ⟨S, 0, none⟩ (.string ⟨#[]⟩)) E 26 #[.int .i64 (1 + s1), .int .i64 s2, .int .i64 (1 + s3)] ∧ Whole (w8.setCell ⟨S, 0, none⟩ (.string ⟨#[]⟩)) S 28 #[.string (frN x), .string (toN x)]) := Lib.hid ⟨I9.out.1.other g HCS.out.1 rfl, I9.out.2.1.grown g (fun e => Nat.ne_of_lt HCS.out.2 (Option.some.inj e)), by rw [ht]; exact I9.out.2.2.put 0 (.string ⟨#[]⟩)⟩
      clear hq ht g I9
      go_wp2_with fail
      go_meet
      case rel => exact R8
    · have ht : frN x = kk := by unfold frN; rw [if_neg hq, HKN.out.1]
      have e0 : ((x.to : Int) % 5 == 0) = false := by rw [beq_eq_false_iff_ne]; omega
      have R8 : Hid (MdI w x C (zeroC 1) none 0 0 w8 ∧ Whole w8 E 26 #[.int .i64 (1 + s1), .int .i64 s2, .int .i64 (1 + s3)] ∧ Whole w8 S 28 #[.string (frN x), .string (toN x)]) := Lib.hid ⟨I9.out.1, I9.out.2.1, by rw [ht]; exact I9.out.2.2⟩
      clear hq ht I9
      go_wp2_with fail
      go_meet
      case rel => exact R8
  case rest =>
  clear z3 y0 f0 I9
  generalize wc = w9 at hcut ⊢
  have I10 := hcut
  clear hcut
  obtain ⟨dz, hdz⟩ : ∃ z : Nat, x.data % 300 = z := ⟨_, rfl⟩
  have hz5 := HZ.out.data
  have hw5 : IntKind.i64.wrap (x.data : Int) = (x.data : Int) := IntWalk.i64_in _ (by omega)
  have ht5 : (x.data : Int).tmod 300 = (dz : Int) := by rw [Int.tmod_eq_emod_of_nonneg (by omega)]; omega
  have x5 : w9.cell? ⟨w.heap.size, 5, none⟩ = some (.int .u16 (x.data : Int)) := I10.out.1.nm.cell 5
  have RD := Lib.hid (made_data x w9 dz hdz)
  obtain ⟨dd, hdd⟩ : ∃ dd, dd = dtN x := ⟨_, rfl⟩
  rw [← hdd] at RD
  have HDD := Lib.hid hdd
  clear hdz hz5 hdd
  go_upto_region 13 with (go_at_call 39; refine RD.out.mono ?_; rintro e wd ⟨rfl, hb⟩; have I11 := Lib.hid (And.intro (I10.out.1.keep hb) (And.intro (I10.out.2.1.keep hb) (I10.out.2.2.keep hb))); clear hb RD)
  clear x5 hw5 ht5 I10
  have c0 : wd.cell? ⟨C, 0, none⟩ = some (.int .i64 1) := I11.out.1.co.w.cell 0
  have HNC : Hid (w.heap.size ≠ C ∧ E ≠ C ∧ S ≠ C) := Lib.hid ⟨by have := I11.out.1.o1; omega, Nat.ne_of_gt HCE.out, Nat.ne_of_gt HCS.out.1⟩
  obtain ⟨ff, hff⟩ : ∃ ff, ff = frN x := ⟨_, rfl⟩
  obtain ⟨tn, htn⟩ : ∃ tn, tn = toN x := ⟨_, rfl⟩
  obtain ⟨dl, hdl⟩ : ∃ dl, dl = dlN x := ⟨_, rfl⟩
  rw [← hff, ← htn] at I11
  rw [← hdl]
  have HFN := Lib.hid (And.intro hff (And.intro htn hdl))
  clear hff htn hdl
  have l0 := I11.out.2.1.cell 0
  have l1 := I11.out.2.1.cell 1
  have l2 := I11.out.2.1.cell 2
  have l3 := I11.out.1.nm.cell 2
  have SA : Hid (wd.drew.cell? ⟨E, 0, none⟩ = some (.int .i64 (1 + s1)) ∧ wd.drew.cell? ⟨E, 1, none⟩ = some (.int .i64 s2) ∧ wd.drew.cell? ⟨E, 2, none⟩ = some (.int .i64 (1 + s3)) ∧ wd.drew.cell? ⟨w.heap.size, 2, none⟩ = some (.int .u8 (x.key : Int)) ∧ True) := Lib.hid ⟨l0, l1, l2, l3, trivial⟩
  have Id : Hid (MdI w x C (zeroC 1) none 0 0 wd.drew) := Lib.hid (I11.out.1.keep (Below.refl _ _).drew)
  clear l0 l1 l2 l3
  have NC : Hid (∀ W : World, Calls Tryz.prog 38 #[.int .u8 (x.key : Int)] W fun e w' => e = .returned (.string kk) ∧ Below W.heap.size W w') := Lib.hid (fun W => by rw [HKN.out.1]; exact made_name x.key HZ.out.key W)
  go_upto_region 15 with fail
  clear c0 I11
  refine wp_region_held_drew (S := fun wx => wx.cell? ⟨E, 0, none⟩ = some (.int .i64 (1 + s1)) ∧ wx.cell? ⟨E, 1, none⟩ = some (.int .i64 s2) ∧ wx.cell? ⟨E, 2, none⟩ = some (.int .i64 (1 + s3)) ∧ wx.cell? ⟨w.heap.size, 2, none⟩ = some (.int .u8 (x.key : Int)) ∧ True) (by kernel_rfl) SA.out (fun hHeld => ?_)
  clear SA
  generalize wd.drew = wz at hHeld Id ⊢
  refine wpAnyH_take (i := 0) (v := ?_) rfl (by kernel_rfl) (by kernel_rfl) (by kernel_rfl) (fun _ _ _ h => h) (Or.inl ⟨by rfl, ?_⟩) (by assumption) ?_
  rotate_left
  · intro w hSw
    go_simp
    try with_reducible rfl
  simp only [Act.put, List.getElem_toArray, List.getElem_cons_zero, List.setIfInBounds_toArray, List.set_cons_zero, List.set_cons_succ]
  refine wpAnyH_take (i := 1) (v := ?_) rfl (by kernel_rfl) (by kernel_rfl) (by kernel_rfl) (fun _ _ _ h => h) (Or.inl ⟨by rfl, ?_⟩) (by assumption) ?_
  rotate_left
  · intro w hSw
    go_simp
    try with_reducible rfl
  simp only [Act.put, List.getElem_toArray, List.getElem_cons_succ, List.getElem_cons_zero, List.setIfInBounds_toArray, List.set_cons_zero, List.set_cons_succ]
  refine wpAnyH_take (i := 2) (v := ?_) rfl (by kernel_rfl) (by kernel_rfl) (by kernel_rfl) (fun _ _ _ h => h) (Or.inl ⟨by rfl, ?_⟩) (by assumption) ?_
  rotate_left
  · intro w hSw
    go_simp
    try with_reducible rfl
  simp only [Act.put, List.getElem_toArray, List.getElem_cons_succ, List.getElem_cons_zero, List.setIfInBounds_toArray, List.set_cons_zero, List.set_cons_succ]
  refine wpAnyH_take (i := 4) (v := ?_) rfl (by kernel_rfl) (by kernel_rfl) (by kernel_rfl) (fun _ _ _ h => h) (Or.inl ⟨by rfl, ?_⟩) (by assumption) ?_
  rotate_left
  · intro w hSw
    go_simp
    try with_reducible rfl
  simp only [Act.put, List.getElem_toArray, List.getElem_cons_succ, List.getElem_cons_zero, List.setIfInBounds_toArray, List.set_cons_zero, List.set_cons_succ]
  refine wpAnyH_take (i := 5) (v := ?_) rfl (by kernel_rfl) (by kernel_rfl) (by kernel_rfl) (fun _ _ _ h => h) (Or.inl ⟨by rfl, ?_⟩) (by assumption) ?_
  rotate_left
  · intro w hSw
    go_simp
    try with_reducible rfl
  simp only [Act.put, List.getElem_toArray, List.getElem_cons_succ, List.getElem_cons_zero, List.setIfInBounds_toArray, List.set_cons_zero, List.set_cons_succ]
  refine wpAnyH_ready (rs := [3]) (by kernel_rfl) (by simp) ?_
  refine AllReadyH.cons rfl (fun K hK => ?_) AllReadyH.nil
  go_simp
  refine (NC.out _).mono ?_
  rintro e wa ⟨rfl, hb⟩
  try go_simp
  have Ia := Lib.hid (Id.out.keep hb)
  refine hK.out _ _ ?_ (fun hHeld' => ?_)
  · exact ⟨bcell hHeld.1 hb, bcell hHeld.2.1 hb, bcell hHeld.2.2.1 hb, bcell hHeld.2.2.2.1 hb, trivial⟩
  clear hK K hHeld
  have hHeld := hHeld'
  clear hHeld'
  try simp only [Act.put, List.getElem_toArray, List.getElem_cons_succ, List.getElem_cons_zero, List.setIfInBounds_toArray, List.set_cons_zero, List.set_cons_succ]
  clear hb Id NC
  refine wpAnyH_ready (rs := [6]) (by kernel_rfl) (by simp) ?_
  refine AllReadyH.cons rfl (fun K hK => ?_) AllReadyH.nil
  have y3 := Ia.out.co.w.cell 3
  have f3 := Ia.out.co.w.fr 3
  have y4 := Ia.out.co.w.cell 4
  have f4 := Ia.out.co.w.fr 4
  have y5 := Ia.out.co.w.cell 5
  have f5 := Ia.out.co.w.fr 5
  obtain ⟨o3, ho3⟩ : ∃ o3, (cA (zeroC 1) none 0 0)[3]? = some o3 := ⟨_, rfl⟩
  rw [ho3] at y3
  obtain ⟨o4, ho4⟩ : ∃ o4, (cA (zeroC 1) none 0 0)[4]? = some o4 := ⟨_, rfl⟩
  rw [ho4] at y4
  obtain ⟨o5, ho5⟩ : ∃ o5, (cA (zeroC 1) none 0 0)[5]? = some o5 := ⟨_, rfl⟩
  rw [ho5] at y5
  clear ho3 ho4 ho5
  go_simp
  have P0_0 := MdI.put (cc' := { (zeroC 1) with ea := 1 + s1 }) (Ia.out) 3 (.int .i64 (1 + s1)) rfl rfl { Ia.out.co.i.z with ea := (show In64 (1 + s1) from by have h9 := HS.out; exact in64_i (by omega) (by omega)) }
  have P0_1 := MdI.put (cc' := { ({ (zeroC 1) with ea := 1 + s1 }) with eb := s2 }) (P0_0) 4 (.int .i64 s2) rfl rfl { P0_0.co.i.z with eb := (show In64 (s2) from by have h9 := HS.out; exact in64_i (by omega) (by omega)) }
  have P0_2 := MdI.put (cc' := { ({ ({ (zeroC 1) with ea := 1 + s1 }) with eb := s2 }) with ec := 1 + s3 }) (P0_1) 5 (.int .i64 (1 + s3)) rfl rfl { P0_1.co.i.z with ec := (show In64 (1 + s3) from by have h9 := HS.out; exact in64_i (by omega) (by omega)) }
  refine hK.out _ _ ?_ (fun hHeld' => ?_)
  · exact ⟨gcell hHeld.1 (grown_set (grown_set (grown_set (World.grownBy.refl _ (some C)) 3 _) 4 _) 5 _) (fun e => HNC.out.2.1 (Option.some.inj e)), gcell hHeld.2.1 (grown_set (grown_set (grown_set (World.grownBy.refl _ (some C)) 3 _) 4 _) 5 _) (fun e => HNC.out.2.1 (Option.some.inj e)), gcell hHeld.2.2.1 (grown_set (grown_set (grown_set (World.grownBy.refl _ (some C)) 3 _) 4 _) 5 _) (fun e => HNC.out.2.1 (Option.some.inj e)), gcell hHeld.2.2.2.1 (grown_set (grown_set (grown_set (World.grownBy.refl _ (some C)) 3 _) 4 _) 5 _) (fun e => HNC.out.1 (Option.some.inj e)), trivial⟩
  clear hK K hHeld
  have hHeld := hHeld'
  clear hHeld'
  try simp only [Act.put, List.getElem_toArray, List.getElem_cons_succ, List.getElem_cons_zero]
  have I_0 := Lib.hid P0_2
  clear P0_0 P0_1 P0_2 y3 f3 y4 f4 y5 f5 Ia
  generalize (((wa.setCell ⟨C, 3, none⟩ (.int .i64 (1 + s1))).setCell ⟨C, 4, none⟩ (.int .i64 s2)).setCell ⟨C, 5, none⟩ (.int .i64 (1 + s3))) = wq0 at hHeld I_0 ⊢
  refine wpAnyH_take (i := 7) (v := ?_) rfl (by kernel_rfl) (by kernel_rfl) (by kernel_rfl) (fun _ _ _ h => h) (Or.inl ⟨by rfl, ?_⟩) (by assumption) ?_
  rotate_left
  · intro w hSw
    go_simp
    try with_reducible rfl
  simp only [Act.put, List.getElem_toArray, List.getElem_cons_succ, List.getElem_cons_zero, List.setIfInBounds_toArray, List.set_cons_zero, List.set_cons_succ]
  refine wpAnyH_ready (rs := [8]) (by kernel_rfl) (by simp) ?_
  refine AllReadyH.cons rfl (fun K hK => ?_) AllReadyH.nil
  have y6 := I_0.out.co.w.cell 6
  have f6 := I_0.out.co.w.fr 6
  obtain ⟨o6, ho6⟩ : ∃ o6, (cA ({ ({ ({ (zeroC 1) with ea := 1 + s1 }) with eb := s2 }) with ec := 1 + s3 }) none 0 0)[6]? = some o6 := ⟨_, rfl⟩
  rw [ho6] at y6
  clear ho6
  go_simp
  have P1_0 := MdI.put (cc' := { ({ ({ ({ (zeroC 1) with ea := 1 + s1 }) with eb := s2 }) with ec := 1 + s3 }) with key := kk }) (I_0.out) 6 (.string kk) rfl rfl { I_0.out.co.i.z with key := (show (kk).size ≤ 9223372036854775807 from by rw [HKN.out.1]; exact nm_z _) }
  refine hK.out _ _ ?_ (fun hHeld' => ?_)
  · exact ⟨gcell hHeld.1 (grown_set (World.grownBy.refl _ (some C)) 6 _) (fun e => HNC.out.2.1 (Option.some.inj e)), gcell hHeld.2.1 (grown_set (World.grownBy.refl _ (some C)) 6 _) (fun e => HNC.out.2.1 (Option.some.inj e)), gcell hHeld.2.2.1 (grown_set (World.grownBy.refl _ (some C)) 6 _) (fun e => HNC.out.2.1 (Option.some.inj e)), gcell hHeld.2.2.2.1 (grown_set (World.grownBy.refl _ (some C)) 6 _) (fun e => HNC.out.1 (Option.some.inj e)), trivial⟩
  clear hK K hHeld
  have hHeld := hHeld'
  clear hHeld'
  try simp only [Act.put, List.getElem_toArray, List.getElem_cons_succ, List.getElem_cons_zero]
  have I_1 := Lib.hid P1_0
  clear P1_0 y6 f6 I_0
  generalize (wq0.setCell ⟨C, 6, none⟩ (.string kk)) = wq1 at hHeld I_1 ⊢
  refine wpAnyH_take (i := 9) (v := ?_) rfl (by kernel_rfl) (by kernel_rfl) (by kernel_rfl) (fun _ _ _ h => h) (Or.inl ⟨by rfl, ?_⟩) (by assumption) ?_
  rotate_left
  · intro w hSw
    go_simp
    try with_reducible rfl
  simp only [Act.put, List.getElem_toArray, List.getElem_cons_succ, List.getElem_cons_zero, List.setIfInBounds_toArray, List.set_cons_zero, List.set_cons_succ]
  refine wpAnyH_ready (rs := [10]) (by kernel_rfl) (by simp) ?_
  refine AllReadyH.cons rfl (fun K hK => ?_) AllReadyH.nil
  have y7 := I_1.out.co.w.cell 7
  have f7 := I_1.out.co.w.fr 7
  obtain ⟨o7, ho7⟩ : ∃ o7, (cA ({ ({ ({ ({ (zeroC 1) with ea := 1 + s1 }) with eb := s2 }) with ec := 1 + s3 }) with key := kk }) none 0 0)[7]? = some o7 := ⟨_, rfl⟩
  rw [ho7] at y7
  clear ho7
  go_simp
  have P2_0 := MdI.put (cc' := { ({ ({ ({ ({ (zeroC 1) with ea := 1 + s1 }) with eb := s2 }) with ec := 1 + s3 }) with key := kk }) with dl := dl }) (I_1.out) 7 (.int .i64 dl) rfl rfl { I_1.out.co.i.z with dl := (show In64 (dl) from by have h9 := dlN_ok x; rw [← HFN.out.2.2] at h9; exact in64_i (by omega) (by omega)) }
  refine hK.out _ _ ?_ (fun hHeld' => ?_)
  · exact ⟨gcell hHeld.1 (grown_set (World.grownBy.refl _ (some C)) 7 _) (fun e => HNC.out.2.1 (Option.some.inj e)), gcell hHeld.2.1 (grown_set (World.grownBy.refl _ (some C)) 7 _) (fun e => HNC.out.2.1 (Option.some.inj e)), gcell hHeld.2.2.1 (grown_set (World.grownBy.refl _ (some C)) 7 _) (fun e => HNC.out.2.1 (Option.some.inj e)), gcell hHeld.2.2.2.1 (grown_set (World.grownBy.refl _ (some C)) 7 _) (fun e => HNC.out.1 (Option.some.inj e)), trivial⟩
  clear hK K hHeld
  have hHeld := hHeld'
  clear hHeld'
  try simp only [Act.put, List.getElem_toArray, List.getElem_cons_succ, List.getElem_cons_zero]
  have I_2 := Lib.hid P2_0
  clear P2_0 y7 f7 I_1
  generalize (wq1.setCell ⟨C, 7, none⟩ (.int .i64 dl)) = wq2 at hHeld I_2 ⊢
  refine wpAnyH_done (by kernel_rfl) ?_ _
  clear hHeld
  have HMC : Hid (madeC x = ({ ({ ({ ({ ({ (zeroC 1) with ea := 1 + s1 }) with eb := s2 }) with ec := 1 + s3 }) with key := kk }) with dl := dl })) := Lib.hid (by rw [HKN.out.1, HS.out.1, HS.out.2.1, HS.out.2.2, HFN.out.2.2]; show setA ((fieldsK (kN x)).getD []) (fullN x) (zeroC (kN x)) = _; rw [show kN x = 1 from by unfold kN; rw [HKK.out]; rfl]; rfl)
  obtain ⟨cc, hcc⟩ : ∃ cc : Cv, cc = ({ ({ ({ ({ ({ (zeroC 1) with ea := 1 + s1 }) with eb := s2 }) with ec := 1 + s3 }) with key := kk }) with dl := dl }) := ⟨_, rfl⟩
  rw [← hcc] at HMC I_2
  clear hcc
  go_upto_region 39 with fail
  clear HZ HKK HS HKN HDD HFN HNC HCE HCS
  go_wp2_with (first
    | (refine wpList_load_row (by rfl) 36 (.tmp 3) (by rfl) C (by rfl) 36 (cA cc none 0 0) (0, 0) _ I_2.out.co.w Tryz.underlying36 (by rfl) (info24 cc none 0 0) ?_)
    | (refine wpList_store_row (by rfl) 36 (.tmp 2) (.tmp 213) (by rfl) (w.heap.size + 1) (cA cc none 0 0) (by rfl) (by rfl) 36 (cA (zeroC 0) none 0 0) I_2.out.rs (info24 cc none 0 0) (by rfl) (all24 cc none 0 0) ?_))
  refine bodyPost_ret (results_cell_row (by rfl) _ _ (w.heap.size + 1) 36 (cA cc none 0 0) (0, 0) _ (by rfl) (setRow_heap _ _ _ _ _ _ I_2.out.rs) Tryz.underlying36 (by rfl) (info24 cc none 0 0)) (by rfl) ?_
  refine ⟨⟨none, 0, 0, by rw [HMC.out], ?_⟩, below_row I_2.out.bl (Nat.le_succ _) _⟩
  rw [HMC.out]
  exact ⟨I_2.out.co.i.d.grown (setRow_grown _ _ _) (fun a ha => by cases ha), I_2.out.co.i.z⟩

end Go.Proofs.YtgjnmfmbheejoaaGreatDoor
