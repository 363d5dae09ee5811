/- The command that numbers make. Condition: the table of kinds lies in memory. -/
import Derived.Test.YtgjnmfmbheejoaaGreatDoorCmMdT
namespace Go.Proofs.YtgjnmfmbheejoaaGreatDoor
open Go.RowKit Go.Shelf

set_option maxRecDepth 100000 in
set_option maxHeartbeats 8000000 in
theorem made_5 (x : Nv) (hz : NvZ x) (hk : x.kind % 10 = 5) (w : World) (hK : KndE w) :
    Calls Tryz.prog 36 #[.agg (nA x)] w fun e w' => MadeR x w w' e := by
  have H1 := made_start w x
  obtain ⟨b, o, cp, k0, k1⟩ := hK.keep H1.1
  have k2 := k1 5 (by decide)
  rw [show (kindsL[5]?).getD 0 = 11 from rfl] at k2
  have hzk := hz.kind
  have hwk : IntKind.i64.wrap (x.kind : Int) = (x.kind : Int) := IntWalk.i64_in _ (by omega)
  have htk : (x.kind : Int).tmod 10 = 5 := by rw [Int.tmod_eq_emod_of_nonneg (by omega)]; omega
  have hz1 := hz.step
  have hz4 := hz.saga
  obtain ⟨s1, hs1⟩ : ∃ s : Int, s = (x.saga : Int) % 9999 := ⟨_, rfl⟩
  obtain ⟨s2, hs2⟩ : ∃ s : Int, s = (x.step : Int) % 8 := ⟨_, rfl⟩
  obtain ⟨s3, hs3⟩ : ∃ s : Int, s = (x.step : Int) / 8 % 3 := ⟨_, rfl⟩
  have hw4 : IntKind.i64.wrap (x.saga : Int) = (x.saga : Int) := IntWalk.i64_in _ (by omega)
  have hw1s : IntKind.i64.wrap (x.step : Int) = (x.step : Int) := IntWalk.i64_in _ (by omega)
  have hw18 : IntKind.i64.wrap ((x.step : Int) / 8) = (x.step : Int) / 8 := IntWalk.i64_in _ (by omega)
  have ht4 : (x.saga : Int).tmod 9999 = s1 := by rw [Int.tmod_eq_emod_of_nonneg (by omega)]; exact hs1.symm
  have ht1 : (x.step : Int).tmod 8 = s2 := by rw [Int.tmod_eq_emod_of_nonneg (by omega)]; exact hs2.symm
  have ht13 : ((x.step : Int) / 8).tmod 3 = s3 := by rw [Int.tmod_eq_emod_of_nonneg (by omega)]; exact hs3.symm
  have hws1 : IntKind.i64.wrap (1 + s1) = 1 + s1 := IntWalk.i64_in _ (by omega)
  have hws3 : IntKind.i64.wrap (1 + s3) = 1 + s3 := IntWalk.i64_in _ (by omega)
  have HS := Lib.hid (And.intro hs1 (And.intro hs2 hs3))
  clear hz1 hz4 hs1 hs2 hs3
  have HZ := Lib.hid hz
  have HKK := Lib.hid hk
  have x0 := H1.2.1.cell 0
  have H1 := Lib.hid H1
  clear hz hk hK k1 hzk
  go_enter Tryz.func36, Tryz.ntmps36
  go_upto_region 1 with fail
  rw [← zero24 0]
  generalize ((w.alloc (.cells (nA x) 62)).alloc (.cells (cA (zeroC 0) none 0 0) 36)) = w1 at H1 k0 k2 x0 ⊢
  have SA : Hid (w1.drew.cell? ⟨0, 0, none⟩ = some (.slice (some ⟨b, o, none⟩) 10 cp) ∧ w1.drew.cell? ⟨b, o + 5, none⟩ = some (.int .i64 11) ∧ w1.drew.cell? ⟨w.heap.size, 0, none⟩ = some (.int .u8 (x.kind : Int)) ∧ Below w1.heap.size w1 w1.drew) := Lib.hid ⟨k0, k2, x0, (Below.refl _ _).drew⟩
  have HL : Hid (0 < w1.heap.size ∧ b < w1.heap.size ∧ w.heap.size < w1.heap.size) := Lib.hid ⟨lt_cell k0, lt_cell k2, lt_cell x0⟩
  clear x0 k0 k2
  refine wp_region_held_drew (S := fun wx => wx.cell? ⟨0, 0, none⟩ = some (.slice (some ⟨b, o, none⟩) 10 cp) ∧ wx.cell? ⟨b, o + 5, none⟩ = some (.int .i64 11) ∧ wx.cell? ⟨w.heap.size, 0, none⟩ = some (.int .u8 (x.kind : Int)) ∧ Below w1.heap.size w1 wx) (by kernel_rfl) SA.out (fun hHeld => ?_)
  refine wpAnyH_take (i := 0) (v := ?_) rfl (by kernel_rfl) (by kernel_rfl) (by kernel_rfl) (fun _ _ _ h => h) (Or.inl ⟨by rfl, ?_⟩) (by assumption) ?_
  rotate_left
  · intro w hSw
    go_simp
    try with_reducible rfl
  simp only [Act.put, List.getElem_toArray, List.getElem_cons_zero, List.setIfInBounds_toArray, List.set_cons_zero, List.set_cons_succ]
  refine wpAnyH_take (i := 1) (v := ?_) rfl (by kernel_rfl) (by kernel_rfl) (by kernel_rfl) (fun _ _ _ h => h) (Or.inl ⟨by rfl, ?_⟩) (by assumption) ?_
  rotate_left
  · intro w hSw
    go_simp
    try with_reducible rfl
  simp only [Act.put, List.getElem_toArray, List.getElem_cons_succ, List.getElem_cons_zero, List.setIfInBounds_toArray, List.set_cons_zero, List.set_cons_succ]
  refine wpAnyH_take (i := 2) (v := ?_) rfl (by kernel_rfl) (by kernel_rfl) (by kernel_rfl) (fun _ _ _ h => h) (Or.inl ⟨by rfl, ?_⟩) (by assumption) ?_
  rotate_left
  · intro w hSw
    go_simp
    try with_reducible rfl
  simp only [Act.put, List.getElem_toArray, List.getElem_cons_succ, List.getElem_cons_zero, List.setIfInBounds_toArray, List.set_cons_zero, List.set_cons_succ]
  refine wpAnyH_take (i := 3) (v := ?_) rfl (by kernel_rfl) (by kernel_rfl) (by kernel_rfl) (fun _ _ _ h => h) (Or.inl ⟨by rfl, ?_⟩) (by assumption) ?_
  rotate_left
  · intro w hSw
    go_simp
    try with_reducible rfl
  simp only [Act.put, List.getElem_toArray, List.getElem_cons_succ, List.getElem_cons_zero, List.setIfInBounds_toArray, List.set_cons_zero, List.set_cons_succ]
  refine wpAnyH_take (i := 4) (v := ?_) rfl (by kernel_rfl) (by kernel_rfl) (by kernel_rfl) (fun _ _ _ h => h) (Or.inl ⟨by rfl, ?_⟩) (by assumption) ?_
  rotate_left
  · intro w hSw
    go_simp
    try with_reducible rfl
  simp only [Act.put, List.getElem_toArray, List.getElem_cons_succ, List.getElem_cons_zero, List.setIfInBounds_toArray, List.set_cons_zero, List.set_cons_succ]
  refine wpAnyH_take (i := 5) (v := ?_) rfl (by kernel_rfl) (by kernel_rfl) (by kernel_rfl) (fun _ _ _ h => h) (Or.inl ⟨by rfl, ?_⟩) (by assumption) ?_
  rotate_left
  · intro w hSw
    go_simp
    try with_reducible rfl
  simp only [Act.put, List.getElem_toArray, List.getElem_cons_succ, List.getElem_cons_zero, List.setIfInBounds_toArray, List.set_cons_zero, List.set_cons_succ]
  refine wpAnyH_take (i := 6) (v := ?_) rfl (by kernel_rfl) (by kernel_rfl) (by kernel_rfl) (fun _ _ _ h => h) (Or.inl ⟨by rfl, ?_⟩) (by assumption) ?_
  rotate_left
  · intro w hSw
    go_simp
    try with_reducible rfl
  simp only [Act.put, List.getElem_toArray, List.getElem_cons_succ, List.getElem_cons_zero, List.setIfInBounds_toArray, List.set_cons_zero, List.set_cons_succ]
  refine wpAnyH_take (i := 7) (v := ?_) rfl (by kernel_rfl) (by kernel_rfl) (by kernel_rfl) (fun _ _ _ h => h) (Or.inl ⟨by rfl, ?_⟩) (by assumption) ?_
  rotate_left
  · intro w hSw
    go_simp
    try with_reducible rfl
  simp only [Act.put, List.getElem_toArray, List.getElem_cons_succ, List.getElem_cons_zero, List.setIfInBounds_toArray, List.set_cons_zero, List.set_cons_succ]
  refine wpAnyH_take (i := 8) (v := ?_) rfl (by kernel_rfl) (by kernel_rfl) (by kernel_rfl) (fun _ _ _ h => h) (Or.inl ⟨by rfl, ?_⟩) (by assumption) ?_
  rotate_left
  · intro w hSw
    go_simp
    try with_reducible rfl
  simp only [Act.put, List.getElem_toArray, List.getElem_cons_succ, List.getElem_cons_zero, List.setIfInBounds_toArray, List.set_cons_zero, List.set_cons_succ]
  refine wpAnyH_take (i := 9) (v := ?_) rfl (by kernel_rfl) (by kernel_rfl) (by kernel_rfl) (fun _ _ _ h => h) (Or.inl ⟨by rfl, ?_⟩) (by assumption) ?_
  rotate_left
  · intro w hSw
    go_simp
    try with_reducible rfl
  simp only [Act.put, List.getElem_toArray, List.getElem_cons_succ, List.getElem_cons_zero, List.setIfInBounds_toArray, List.set_cons_zero, List.set_cons_succ]
  refine wpAnyH_ready (rs := [10]) (by kernel_rfl) (by simp) ?_
  refine AllReadyH.cons rfl (fun K hK => ?_) AllReadyH.nil
  go_simp
  rw [← zero24 0]
  have N2 : Whole (w1.drew.alloc (.cells (cA (zeroC 0) none 0 0) 36)) w1.heap.size 36 (cA (zeroC 0) none 0 0) := Whole.new w1.drew _ _
  refine hK.out _ _ ?_ (fun hHeld' => ?_)
  · exact ⟨acell _ hHeld.1, acell _ hHeld.2.1, acell _ hHeld.2.2.1, hHeld.2.2.2.alloc hHeld.2.2.2.size _⟩
  clear hK K hHeld
  have hHeld := hHeld'
  clear hHeld'
  try simp only [Act.put, List.getElem_toArray, List.getElem_cons_succ, List.getElem_cons_zero, List.setIfInBounds_toArray, List.set_cons_zero, List.set_cons_succ]
  have hN : Hid (Whole ((w1.alloc (.cells (cA (zeroC 0) none 0 0) 36)).drew) w1.heap.size 36 (cA (zeroC 0) none 0 0)) := Lib.hid N2
  clear N2
  generalize (w1.alloc (.cells (cA (zeroC 0) none 0 0) 36)).drew = w2 at hHeld hN ⊢
  refine wpAnyH_ready (rs := [11]) (by kernel_rfl) (by simp) ?_
  refine AllReadyH.cons rfl (fun K hK => ?_) AllReadyH.nil
  rw [if_pos (by rfl)]
  refine wp_store_row 36 (.tmp 3) (.tmp 19) rfl w1.heap.size (cA (zeroC 11) none 0 0) rfl rfl 36 (cA (zeroC 0) none 0 0) hN.out (info24 _ _ _ _) rfl (all24 _ _ _ _) ?_
  have I3 := Lib.hid (MdI.new H1.out hHeld.2.2.2 hN.out 11 ⟨by decide, by decide⟩)
  refine hK.out _ _ ?_ (fun hHeld' => ?_)
  · exact ⟨gcell hHeld.1 (setRow_grown _ _ _) (fun e => Nat.ne_of_lt HL.out.1 (Option.some.inj e)), gcell hHeld.2.1 (setRow_grown _ _ _) (fun e => Nat.ne_of_lt HL.out.2.1 (Option.some.inj e)), gcell hHeld.2.2.1 (setRow_grown _ _ _) (fun e => Nat.ne_of_lt HL.out.2.2 (Option.some.inj e)), hHeld.2.2.2.grown (setRow_grown _ _ _) hHeld.2.2.2.size (fun k e => by cases e; exact Nat.le_refl _)⟩
  clear hK K hHeld
  have hHeld := hHeld'
  clear hHeld'
  try simp only [Act.put, List.getElem_toArray, List.getElem_cons_succ, List.getElem_cons_zero]
  refine wpAnyH_done (by kernel_rfl) ?_ _
  clear hHeld hN SA HL H1
  generalize w2.setRow w1.heap.size (cA (zeroC 11) none 0 0) = w3 at I3 ⊢
  generalize w1.heap.size = C at I3 ⊢
  have x1 : w3.cell? ⟨w.heap.size, 1, none⟩ = some (.int .u8 (x.step : Int)) := I3.out.nm.cell 1
  have x4 : w3.cell? ⟨w.heap.size, 4, none⟩ = some (.int .u16 (x.saga : Int)) := I3.out.nm.cell 4
  go_upto_region 3 with fail
  clear x1 x4 hw4 ht4 hw1s hw18 ht1 ht13 hws1 hws3 hwk htk
  have I4 : Hid (MdI w x C (zeroC 11) none 0 0 (w3.alloc (.cells #[.int .i64 (1 + s1), .int .i64 s2, .int .i64 (1 + s3)] 26))) := Lib.hid (I3.out.keep ((Below.refl _ _).alloc (Nat.le_refl _) _))
  have E4 := Lib.hid (Whole.new w3 26 #[.int .i64 (1 + s1), .int .i64 s2, .int .i64 (1 + s3)])
  have HCE : Hid (C < w3.heap.size) := Lib.hid I3.out.co.lt
  clear I3
  generalize w3.alloc (.cells #[.int .i64 (1 + s1), .int .i64 s2, .int .i64 (1 + s3)] 26) = w4 at I4 E4 ⊢
  generalize w3.heap.size = E at E4 HCE ⊢
  have x7 : w4.cell? ⟨w.heap.size, 7, none⟩ = some (.int .i64 x.delta) := I4.out.nm.cell 7
  obtain ⟨v, hv⟩ : ∃ v, x.delta.tmod 1152921504606846977 = v := ⟨_, rfl⟩
  have HV := Lib.hid hv
  go_upto_if 40 with fail
  go_cut [5] from 41 to 41 (fun s5 wx => s5 = .int .i64 (dlN x) ∧ w4 = wx)
  case first =>
    by_cases hv0 : v = 0
    · have hd : dlN x = 1 := by unfold dlN; rw [hv, if_pos hv0]
      have e0 : (v == 0) = true := by rw [hv0]; rfl
      have HD := Lib.hid hd
      clear hv hd hv0
      go_wp2_with fail
      go_meet
      case rel => exact ⟨by rw [HD.out], rfl⟩
    · have hd : dlN x = v := by unfold dlN; rw [hv, if_neg hv0]
      have e0 : (v == 0) = false := beq_eq_false_iff_ne.2 hv0
      have HD := Lib.hid hd
      clear hv hd hv0
      go_wp2_with fail
      go_meet
      case rel => exact ⟨by rw [HD.out], rfl⟩
  case rest =>
  obtain ⟨rfl, rfl⟩ := hcut
  clear x7 hv HV
  have x2 : w4.cell? ⟨w.heap.size, 2, none⟩ = some (.int .u8 (x.key : Int)) := I4.out.nm.cell 2
  have NK := Lib.hid (made_name x.key HZ.out.key w4)
  obtain ⟨kk, hkk⟩ : ∃ kk, kk = nmBA x.key := ⟨_, rfl⟩
  obtain ⟨tt, htt⟩ : ∃ tt, tt = nmBA x.to := ⟨_, rfl⟩
  rw [← hkk] at NK
  have NTA := Lib.hid (fun W => made_name x.to HZ.out.tto W)
  rw [← htt] at NTA
  have HKN := Lib.hid (And.intro hkk htt)
  clear hkk htt
  go_upto_region 7 with (go_at_call 38; refine NK.out.mono ?_; rintro e w5 ⟨rfl, hb⟩; have ba := (Below.refl w5.heap.size w5).alloc (Nat.le_refl _) (.cells #[.string kk, .string ⟨#[]⟩] 28); have I5 := Lib.hid ((I4.out.keep hb).keep ba); have E5 := Lib.hid ((E4.out.keep hb).keep ba); have S5 := Lib.hid (Whole.new w5 28 #[.string kk, .string ⟨#[]⟩]); have HCS := Lib.hid (And.intro (I4.out.keep hb).co.lt (E4.out.keep hb).lt); clear hb ba NK)
  clear x2 I4 E4
  generalize w5.alloc (.cells #[.string kk, .string ⟨#[]⟩] 28) = w6 at I5 E5 S5 ⊢
  generalize w5.heap.size = S at S5 HCS ⊢
  have x3 : w6.cell? ⟨w.heap.size, 3, none⟩ = some (.int .u8 (x.to : Int)) := I5.out.nm.cell 3
  have NT := Lib.hid (NTA.out w6)
  clear NTA
  go_upto_region 8 with (go_at_call 38; refine NT.out.mono ?_; rintro e w7 ⟨rfl, hb⟩; have I7 := Lib.hid (I5.out.keep hb); have E7 := Lib.hid (E5.out.keep hb); have S7 := Lib.hid (S5.out.keep hb); clear hb NT)
  clear x3 I5 E5 S5
  have y0 : w7.cell? ⟨S, 0, none⟩ = some (.string kk) := S7.out.cell 0
  have y1 : w7.cell? ⟨S, 1, none⟩ = some (.string ⟨#[]⟩) := S7.out.cell 1
  have f0 := S7.out.fr 0
  have f1 := S7.out.fr 1
  go_upto_if 51 with fail
  go_cut [] from 51 to 53 (fun wx => Hid (MdI w x C (zeroC 11) none 0 0 wx ∧ Whole wx E 26 #[.int .i64 (1 + s1), .int .i64 s2, .int .i64 (1 + s3)] ∧ Whole wx S 28 #[.string kk, .string (toN x)]))
  case first =>
    have hq := gt_iff kk tt
    generalize (!Op.bytesLess tt.toList kk.toList && !(tt.toList == kk.toList)) = q at hq ⊢
    cases q with
    | true =>
      have ht : toN x = tt := by unfold toN; rw [← HKN.out.1, ← HKN.out.2, ← hq]; rfl
      have g := grown_set (World.grownBy.refl w7 (some S)) 1 (.string tt)
      have R8 : Hid (MdI w x C (zeroC 11) none 0 0 (w7.setCell ⟨S, 1, none⟩ (.string tt)) ∧ Whole (w7.setCell ⟨S, 1, none⟩ (.string tt)) E 26 #[.int .i64 (1 + s1), .int .i64 s2, .int .i64 (1 + s3)] ∧ Whole (w7.setCell ⟨S, 1, none⟩ (.string tt)) S 28 #[.string kk, .string (toN x)]) := Lib.hid ⟨I7.out.other g HCS.out.1 rfl, E7.out.grown g (fun e => Nat.ne_of_lt HCS.out.2 (Option.some.inj e)), by rw [ht]; exact S7.out.put 1 (.string tt)⟩
      clear hq ht g I7 E7 S7
      go_wp2_with fail
      go_meet
      case rel => exact R8
    | false =>
      have ht : toN x = ⟨#[]⟩ := by unfold toN; rw [← HKN.out.1, ← HKN.out.2, ← hq]; rfl
      have R8 : Hid (MdI w x C (zeroC 11) none 0 0 w7 ∧ Whole w7 E 26 #[.int .i64 (1 + s1), .int .i64 s2, .int .i64 (1 + s3)] ∧ Whole w7 S 28 #[.string kk, .string (toN x)]) := Lib.hid ⟨I7.out, E7.out, by rw [ht]; exact S7.out⟩
      clear hq ht I7 E7 S7
      go_wp2_with fail
      go_meet
      case rel => exact R8
  case rest =>
  clear y0 y1 f0 f1 I7 E7 S7
  generalize wc = w8 at hcut ⊢
  have I9 := hcut
  clear hcut
  have z3 : w8.cell? ⟨w.heap.size, 3, none⟩ = some (.int .u8 (x.to : Int)) := I9.out.1.nm.cell 3
  have y0 : w8.cell? ⟨S, 0, none⟩ = some (.string kk) := I9.out.2.2.cell 0
  have f0 := I9.out.2.2.fr 0
  go_upto_if 57 with fail
  go_cut [] from 57 to 58 (fun wx => Hid (MdI w x C (zeroC 11) none 0 0 wx ∧ Whole wx E 26 #[.int .i64 (1 + s1), .int .i64 s2, .int .i64 (1 + s3)] ∧ Whole wx S 28 #[.string (frN x), .string (toN x)]))
  case first =>
    by_cases hq : x.to % 5 = 0
    · have ht : frN x = ⟨#[]⟩ := by unfold frN; rw [if_pos hq]
      have e0 : ((x.to : Int) % 5 == 0) = true := by rw [beq_iff_eq]; omega
      have g := grown_set (World.grownBy.refl w8 (some S)) 0 (.string ⟨#[]⟩)
      have R8 : Hid (MdI w x C (zeroC 11) none 0 0 (w8.setCell ⟨S, 0, none⟩ (.string ⟨#[]⟩)) ∧ Whole (w8.setCell ⟨S, 0, none⟩ (.string ⟨#[]⟩)) E 26 #[.int .i64 (1 + s1), .int .i64 s2, .int .i64 (1 + s3)] ∧ Whole (w8.setCell ⟨S, 0, none⟩ (.string ⟨#[]⟩)) S 28 #[.string (frN x), .string (toN x)]) := Lib.hid ⟨I9.out.1.other g HCS.out.1 rfl, I9.out.2.1.grown g (fun e => Nat.ne_of_lt HCS.out.2 (Option.some.inj e)), by rw [ht]; exact I9.out.2.2.put 0 (.string ⟨#[]⟩)⟩
      clear hq ht g I9
      go_wp2_with fail
      go_meet
      case rel => exact R8
    · have ht : frN x = kk := by unfold frN; rw [if_neg hq, HKN.out.1]
      have e0 : ((x.to : Int) % 5 == 0) = false := by rw [beq_eq_false_iff_ne]; omega
      have R8 : Hid (MdI w x C (zeroC 11) none 0 0 w8 ∧ Whole w8 E 26 #[.int .i64 (1 + s1), .int .i64 s2, .int .i64 (1 + s3)] ∧ Whole w8 S 28 #[.string (frN x), .string (toN x)]) := Lib.hid ⟨I9.out.1, I9.out.2.1, by rw [ht]; exact I9.out.2.2⟩
      clear hq ht I9
      go_wp2_with fail
      go_meet
      case rel => exact R8
  case rest =>
  clear z3 y0 f0 I9
  generalize wc = w9 at hcut ⊢
  have I10 := hcut
  clear hcut
  obtain ⟨dz, hdz⟩ : ∃ z : Nat, x.data % 300 = z := ⟨_, rfl⟩
  have hz5 := HZ.out.data
  have hw5 : IntKind.i64.wrap (x.data : Int) = (x.data : Int) := IntWalk.i64_in _ (by omega)
  have ht5 : (x.data : Int).tmod 300 = (dz : Int) := by rw [Int.tmod_eq_emod_of_nonneg (by omega)]; omega
  have x5 : w9.cell? ⟨w.heap.size, 5, none⟩ = some (.int .u16 (x.data : Int)) := I10.out.1.nm.cell 5
  have RD := Lib.hid (made_data x w9 dz hdz)
  obtain ⟨dd, hdd⟩ : ∃ dd, dd = dtN x := ⟨_, rfl⟩
  rw [← hdd] at RD
  have HDD := Lib.hid hdd
  clear hdz hz5 hdd
  go_upto_region 13 with (go_at_call 39; refine RD.out.mono ?_; rintro e wd ⟨rfl, hb⟩; have I11 := Lib.hid (And.intro (I10.out.1.keep hb) (And.intro (I10.out.2.1.keep hb) (I10.out.2.2.keep hb))); clear hb RD)
  clear x5 hw5 ht5 I10
  have c0 : wd.cell? ⟨C, 0, none⟩ = some (.int .i64 11) := I11.out.1.co.w.cell 0
  have HNC : Hid (w.heap.size ≠ C ∧ E ≠ C ∧ S ≠ C) := Lib.hid ⟨by have := I11.out.1.o1; omega, Nat.ne_of_gt HCE.out, Nat.ne_of_gt HCS.out.1⟩
  obtain ⟨ff, hff⟩ : ∃ ff, ff = frN x := ⟨_, rfl⟩
  obtain ⟨tn, htn⟩ : ∃ tn, tn = toN x := ⟨_, rfl⟩
  obtain ⟨dl, hdl⟩ : ∃ dl, dl = dlN x := ⟨_, rfl⟩
  rw [← hff, ← htn] at I11
  rw [← hdl]
  have HFN := Lib.hid (And.intro hff (And.intro htn hdl))
  clear hff htn hdl
  have hz6 := HZ.out.call
  obtain ⟨cl, hcl⟩ : ∃ s : Int, s = (x.call : Int) % 2147483649 := ⟨_, rfl⟩
  have hw6 : IntKind.i64.wrap (x.call : Int) = (x.call : Int) := IntWalk.i64_in _ (by omega)
  have ht6 : (x.call : Int).tmod 2147483649 = cl := by rw [Int.tmod_eq_emod_of_nonneg (by omega)]; exact hcl.symm
  have hb6 : 0 ≤ cl ∧ cl ≤ 2147483648 := by omega
  have HCL := Lib.hid hcl
  clear hz6 hcl
  have l0 := I11.out.1.nm.cell 6
  have l1 := I11.out.2.1.cell 0
  have SA : Hid (wd.drew.cell? ⟨w.heap.size, 6, none⟩ = some (.int .u32 (x.call : Int)) ∧ wd.drew.cell? ⟨E, 0, none⟩ = some (.int .i64 (1 + s1)) ∧ True) := Lib.hid ⟨l0, l1, trivial⟩
  have Id : Hid (MdI w x C (zeroC 11) none 0 0 wd.drew) := Lib.hid (I11.out.1.keep (Below.refl _ _).drew)
  clear l0 l1
  go_upto_region 25 with fail
  clear c0 I11
  refine wp_region_held_drew (S := fun wx => wx.cell? ⟨w.heap.size, 6, none⟩ = some (.int .u32 (x.call : Int)) ∧ wx.cell? ⟨E, 0, none⟩ = some (.int .i64 (1 + s1)) ∧ True) (by kernel_rfl) SA.out (fun hHeld => ?_)
  clear SA
  generalize wd.drew = wz at hHeld Id ⊢
  refine wpAnyH_take (i := 0) (v := ?_) rfl (by kernel_rfl) (by kernel_rfl) (by kernel_rfl) (fun _ _ _ h => h) (Or.inl ⟨by rfl, ?_⟩) (by assumption) ?_
  rotate_left
  · intro w hSw
    go_simp
    try with_reducible rfl
  simp only [Act.put, List.getElem_toArray, List.getElem_cons_zero, List.setIfInBounds_toArray, List.set_cons_zero, List.set_cons_succ]
  refine wpAnyH_take (i := 1) (v := ?_) rfl (by kernel_rfl) (by kernel_rfl) (by kernel_rfl) (fun _ _ _ h => h) (Or.inl ⟨by rfl, ?_⟩) (by assumption) ?_
  rotate_left
  · intro w hSw
    go_simp
    try with_reducible rfl
  simp only [Act.put, List.getElem_toArray, List.getElem_cons_succ, List.getElem_cons_zero, List.setIfInBounds_toArray, List.set_cons_zero, List.set_cons_succ]
  refine wpAnyH_take (i := 2) (v := ?_) rfl (by kernel_rfl) (by kernel_rfl) (by kernel_rfl) (fun _ _ _ h => h) (Or.inl ⟨by rfl, ?_⟩) (by assumption) ?_
  rotate_left
  · intro w hSw
    go_simp
    try with_reducible rfl
  simp only [Act.put, List.getElem_toArray, List.getElem_cons_succ, List.getElem_cons_zero, List.setIfInBounds_toArray, List.set_cons_zero, List.set_cons_succ]
  refine wpAnyH_take (i := 3) (v := ?_) rfl (by kernel_rfl) (by kernel_rfl) (by kernel_rfl) (fun _ _ _ h => h) (Or.inl ⟨by rfl, ?_⟩) (by assumption) ?_
  rotate_left
  · intro w hSw
    go_simp
    try with_reducible rfl
  simp only [Act.put, List.getElem_toArray, List.getElem_cons_succ, List.getElem_cons_zero, List.setIfInBounds_toArray, List.set_cons_zero, List.set_cons_succ]
  refine wpAnyH_take (i := 4) (v := ?_) rfl (by kernel_rfl) (by kernel_rfl) (by kernel_rfl) (fun _ _ _ h => h) (Or.inl ⟨by rfl, ?_⟩) (by assumption) ?_
  rotate_left
  · intro w hSw
    go_simp
    try with_reducible rfl
  simp only [Act.put, List.getElem_toArray, List.getElem_cons_succ, List.getElem_cons_zero, List.setIfInBounds_toArray, List.set_cons_zero, List.set_cons_succ]
  refine wpAnyH_take (i := 5) (v := ?_) rfl (by kernel_rfl) (by kernel_rfl) (by kernel_rfl) (fun _ _ _ h => h) (Or.inl ⟨by rfl, ?_⟩) (by assumption) ?_
  rotate_left
  · intro w hSw
    go_simp
    try with_reducible rfl
  simp only [Act.put, List.getElem_toArray, List.getElem_cons_succ, List.getElem_cons_zero, List.setIfInBounds_toArray, List.set_cons_zero, List.set_cons_succ]
  refine wpAnyH_take (i := 6) (v := ?_) rfl (by kernel_rfl) (by kernel_rfl) (by kernel_rfl) (fun _ _ _ h => h) (Or.inl ⟨by rfl, ?_⟩) (by assumption) ?_
  rotate_left
  · intro w hSw
    go_simp
    try with_reducible rfl
  simp only [Act.put, List.getElem_toArray, List.getElem_cons_succ, List.getElem_cons_zero, List.setIfInBounds_toArray, List.set_cons_zero, List.set_cons_succ]
  refine wpAnyH_ready (rs := [7]) (by kernel_rfl) (by simp) ?_
  refine AllReadyH.cons rfl (fun K hK => ?_) AllReadyH.nil
  have y1 := Id.out.co.w.cell 1
  have f1 := Id.out.co.w.fr 1
  obtain ⟨o1, ho1⟩ : ∃ o1, (cA (zeroC 11) none 0 0)[1]? = some o1 := ⟨_, rfl⟩
  rw [ho1] at y1
  clear ho1
  go_simp
  have P0_0 := MdI.put (cc' := { (zeroC 11) with call := cl }) (Id.out) 1 (.int .i64 cl) rfl rfl { Id.out.co.i.z with call := (show In64 (cl) from by exact in64_i (by omega) (by omega)) }
  refine hK.out _ _ ?_ (fun hHeld' => ?_)
  · exact ⟨gcell hHeld.1 (grown_set (World.grownBy.refl _ (some C)) 1 _) (fun e => HNC.out.1 (Option.some.inj e)), gcell hHeld.2.1 (grown_set (World.grownBy.refl _ (some C)) 1 _) (fun e => HNC.out.2.1 (Option.some.inj e)), trivial⟩
  clear hK K hHeld
  have hHeld := hHeld'
  clear hHeld'
  try simp only [Act.put, List.getElem_toArray, List.getElem_cons_succ, List.getElem_cons_zero]
  have I_0 := Lib.hid P0_0
  clear P0_0 y1 f1 Id
  generalize (wz.setCell ⟨C, 1, none⟩ (.int .i64 cl)) = wq0 at hHeld I_0 ⊢
  refine wpAnyH_take (i := 8) (v := ?_) rfl (by kernel_rfl) (by kernel_rfl) (by kernel_rfl) (fun _ _ _ h => h) (Or.inl ⟨by rfl, ?_⟩) (by assumption) ?_
  rotate_left
  · intro w hSw
    go_simp
    try with_reducible rfl
  simp only [Act.put, List.getElem_toArray, List.getElem_cons_succ, List.getElem_cons_zero, List.setIfInBounds_toArray, List.set_cons_zero, List.set_cons_succ]
  refine wpAnyH_ready (rs := [9]) (by kernel_rfl) (by simp) ?_
  refine AllReadyH.cons rfl (fun K hK => ?_) AllReadyH.nil
  have y2 := I_0.out.co.w.cell 2
  have f2 := I_0.out.co.w.fr 2
  obtain ⟨o2, ho2⟩ : ∃ o2, (cA ({ (zeroC 11) with call := cl }) none 0 0)[2]? = some o2 := ⟨_, rfl⟩
  rw [ho2] at y2
  clear ho2
  go_simp
  have P1_0 := MdI.put (cc' := { ({ (zeroC 11) with call := cl }) with saga := 1 + s1 }) (I_0.out) 2 (.int .i64 (1 + s1)) rfl rfl { I_0.out.co.i.z with saga := (show In64 (1 + s1) from by have h9 := HS.out; exact in64_i (by omega) (by omega)) }
  refine hK.out _ _ ?_ (fun hHeld' => ?_)
  · exact ⟨gcell hHeld.1 (grown_set (World.grownBy.refl _ (some C)) 2 _) (fun e => HNC.out.1 (Option.some.inj e)), gcell hHeld.2.1 (grown_set (World.grownBy.refl _ (some C)) 2 _) (fun e => HNC.out.2.1 (Option.some.inj e)), trivial⟩
  clear hK K hHeld
  have hHeld := hHeld'
  clear hHeld'
  try simp only [Act.put, List.getElem_toArray, List.getElem_cons_succ, List.getElem_cons_zero]
  have I_1 := Lib.hid P1_0
  clear P1_0 y2 f2 I_0
  generalize (wq0.setCell ⟨C, 2, none⟩ (.int .i64 (1 + s1))) = wq1 at hHeld I_1 ⊢
  refine wpAnyH_done (by kernel_rfl) ?_ _
  clear hHeld
  obtain ⟨c1, hc1⟩ : ∃ c1 : Cv, c1 = ({ ({ (zeroC 11) with call := cl }) with saga := 1 + s1 }) := ⟨_, rfl⟩
  rw [← hc1] at I_1
  have HC1 := Lib.hid hc1
  clear hc1
  have cz : wq1.cell? ⟨C, 0, none⟩ = some (.int .i64 11) := by have := I_1.out.co.w.cell 0; rw [HC1.out] at this; exact this
  have hz3 := HZ.out.tto
  have hz5 := HZ.out.data
  obtain ⟨r21, hr21⟩ : ∃ s : Int, s = (x.to : Int) % 21 := ⟨_, rfl⟩
  have hw3 : IntKind.i64.wrap (x.to : Int) = (x.to : Int) := IntWalk.i64_in _ (by omega)
  have ht3 : (x.to : Int).tmod 21 = r21 := by rw [Int.tmod_eq_emod_of_nonneg (by omega)]; exact hr21.symm
  have hw5 : IntKind.i64.wrap (x.data : Int) = (x.data : Int) := IntWalk.i64_in _ (by omega)
  have HR21 := Lib.hid hr21
  have hbr : 0 ≤ r21 ∧ r21 ≤ 20 := by omega
  have HBR := Lib.hid hbr
  clear hz3 hz5 hr21 hbr
  have NC : Hid (∀ W : World, Calls Tryz.prog 38 #[.int .u8 (x.key : Int)] W fun e w' => e = .returned (.string kk) ∧ Below W.heap.size W w') := Lib.hid (fun W => by rw [HKN.out.1]; exact made_name x.key HZ.out.key W)
  have l0 := I_1.out.nm.cell 2
  have l1 := I_1.out.nm.cell 3
  have l2 := I_1.out.nm.cell 5
  have SA : Hid (wq1.drew.cell? ⟨w.heap.size, 2, none⟩ = some (.int .u8 (x.key : Int)) ∧ wq1.drew.cell? ⟨w.heap.size, 3, none⟩ = some (.int .u8 (x.to : Int)) ∧ wq1.drew.cell? ⟨w.heap.size, 5, none⟩ = some (.int .u16 (x.data : Int)) ∧ True) := Lib.hid ⟨l0, l1, l2, trivial⟩
  have Id : Hid (MdI w x C c1 none 0 0 wq1.drew) := Lib.hid (I_1.out.keep (Below.refl _ _).drew)
  clear l0 l1 l2
  obtain ⟨B0, hB0⟩ : ∃ B0, B0 = wq1.heap.size := ⟨_, rfl⟩
  have HCB : Hid (C < B0) := Lib.hid (by rw [hB0]; exact I_1.out.co.lt)
  have HB0 : Hid (B0 ≤ wq1.drew.heap.size) := Lib.hid (by rw [hB0]; exact (Below.refl wq1.heap.size wq1).drew.size)
  clear hB0
  go_upto_region 27 with fail
  clear I_1 cz
  obtain ⟨d0, hd0⟩ : ∃ d0 : Dv, d0 = ⟨kk, r21, (x.data : Int), []⟩ := ⟨_, rfl⟩
  have HD0 := Lib.hid hd0
  clear hd0
  go_cut [] from 124 (fun wx => Hid (∃ X, MdJ w x C B0 c1 d0 0 (some ⟨X, 0, none⟩) 1 1 wx))
  case first =>
    refine wp_region_held_drew (S := fun wx => wx.cell? ⟨w.heap.size, 2, none⟩ = some (.int .u8 (x.key : Int)) ∧ wx.cell? ⟨w.heap.size, 3, none⟩ = some (.int .u8 (x.to : Int)) ∧ wx.cell? ⟨w.heap.size, 5, none⟩ = some (.int .u16 (x.data : Int)) ∧ True) (by kernel_rfl) SA.out (fun hHeld => ?_)
    clear SA
    generalize wq1.drew = wz at hHeld Id HB0 ⊢
    refine wpAnyH_take (i := 0) (v := ?_) rfl (by kernel_rfl) (by kernel_rfl) (by kernel_rfl) (fun _ _ _ h => h) (Or.inl ⟨by rfl, ?_⟩) (by assumption) ?_
    rotate_left
    · intro w hSw
      go_simp
      try with_reducible rfl
    simp only [Act.put, List.getElem_toArray, List.getElem_cons_zero, List.setIfInBounds_toArray, List.set_cons_zero, List.set_cons_succ]
    refine wpAnyH_take (i := 1) (v := ?_) rfl (by kernel_rfl) (by kernel_rfl) (by kernel_rfl) (fun _ _ _ h => h) (Or.inl ⟨by rfl, ?_⟩) (by assumption) ?_
    rotate_left
    · intro w hSw
      go_simp
      try with_reducible rfl
    simp only [Act.put, List.getElem_toArray, List.getElem_cons_succ, List.getElem_cons_zero, List.setIfInBounds_toArray, List.set_cons_zero, List.set_cons_succ]
    refine wpAnyH_take (i := 3) (v := ?_) rfl (by kernel_rfl) (by kernel_rfl) (by kernel_rfl) (fun _ _ _ h => h) (Or.inl ⟨by rfl, ?_⟩) (by assumption) ?_
    rotate_left
    · intro w hSw
      go_simp
      try with_reducible rfl
    simp only [Act.put, List.getElem_toArray, List.getElem_cons_succ, List.getElem_cons_zero, List.setIfInBounds_toArray, List.set_cons_zero, List.set_cons_succ]
    refine wpAnyH_take (i := 4) (v := ?_) rfl (by kernel_rfl) (by kernel_rfl) (by kernel_rfl) (fun _ _ _ h => h) (Or.inl ⟨by rfl, ?_⟩) (by assumption) ?_
    rotate_left
    · intro w hSw
      go_simp
      try with_reducible rfl
    simp only [Act.put, List.getElem_toArray, List.getElem_cons_succ, List.getElem_cons_zero, List.setIfInBounds_toArray, List.set_cons_zero, List.set_cons_succ]
    refine wpAnyH_take (i := 5) (v := ?_) rfl (by kernel_rfl) (by kernel_rfl) (by kernel_rfl) (fun _ _ _ h => h) (Or.inl ⟨by rfl, ?_⟩) (by assumption) ?_
    rotate_left
    · intro w hSw
      go_simp
      try with_reducible rfl
    simp only [Act.put, List.getElem_toArray, List.getElem_cons_succ, List.getElem_cons_zero, List.setIfInBounds_toArray, List.set_cons_zero, List.set_cons_succ]
    refine wpAnyH_take (i := 6) (v := ?_) rfl (by kernel_rfl) (by kernel_rfl) (by kernel_rfl) (fun _ _ _ h => h) (Or.inl ⟨by rfl, ?_⟩) (by assumption) ?_
    rotate_left
    · intro w hSw
      go_simp
      try with_reducible rfl
    simp only [Act.put, List.getElem_toArray, List.getElem_cons_succ, List.getElem_cons_zero, List.setIfInBounds_toArray, List.set_cons_zero, List.set_cons_succ]
    refine wpAnyH_take (i := 7) (v := ?_) rfl (by kernel_rfl) (by kernel_rfl) (by kernel_rfl) (fun _ _ _ h => h) (Or.inl ⟨by rfl, ?_⟩) (by assumption) ?_
    rotate_left
    · intro w hSw
      go_simp
      try with_reducible rfl
    simp only [Act.put, List.getElem_toArray, List.getElem_cons_succ, List.getElem_cons_zero, List.setIfInBounds_toArray, List.set_cons_zero, List.set_cons_succ]
    refine wpAnyH_take (i := 8) (v := ?_) rfl (by kernel_rfl) (by kernel_rfl) (by kernel_rfl) (fun _ _ _ h => h) (Or.inl ⟨by rfl, ?_⟩) (by assumption) ?_
    rotate_left
    · intro w hSw
      go_simp
      try with_reducible rfl
    simp only [Act.put, List.getElem_toArray, List.getElem_cons_succ, List.getElem_cons_zero, List.setIfInBounds_toArray, List.set_cons_zero, List.set_cons_succ]
    refine wpAnyH_take (i := 9) (v := ?_) rfl (by kernel_rfl) (by kernel_rfl) (by kernel_rfl) (fun _ _ _ h => h) (Or.inl ⟨by rfl, ?_⟩) (by assumption) ?_
    rotate_left
    · intro w hSw
      go_simp
      try with_reducible rfl
    simp only [Act.put, List.getElem_toArray, List.getElem_cons_succ, List.getElem_cons_zero, List.setIfInBounds_toArray, List.set_cons_zero, List.set_cons_succ]
    refine wpAnyH_take (i := 10) (v := ?_) rfl (by kernel_rfl) (by kernel_rfl) (by kernel_rfl) (fun _ _ _ h => h) (Or.inl ⟨by rfl, ?_⟩) (by assumption) ?_
    rotate_left
    · intro w hSw
      go_simp
      try with_reducible rfl
    simp only [Act.put, List.getElem_toArray, List.getElem_cons_succ, List.getElem_cons_zero, List.setIfInBounds_toArray, List.set_cons_zero, List.set_cons_succ]
    refine wpAnyH_take (i := 11) (v := ?_) rfl (by kernel_rfl) (by kernel_rfl) (by kernel_rfl) (fun _ _ _ h => h) (Or.inl ⟨by rfl, ?_⟩) (by assumption) ?_
    rotate_left
    · intro w hSw
      go_simp
      try with_reducible rfl
    simp only [Act.put, List.getElem_toArray, List.getElem_cons_succ, List.getElem_cons_zero, List.setIfInBounds_toArray, List.set_cons_zero, List.set_cons_succ]
    refine wpAnyH_ready (rs := [2, 12]) (by kernel_rfl) (by simp) ?_
    refine AllReadyH.cons rfl (fun K hK => ?_) (AllReadyH.cons rfl (fun K hK => ?_) AllReadyH.nil)
    · go_simp
      refine (NC.out _).mono ?_
      rintro e wa ⟨rfl, hb⟩
      try go_simp
      have Ia := Lib.hid (Id.out.keep hb)
      have HBa := Lib.hid (Nat.le_trans HB0.out hb.size)
      refine hK.out _ _ ?_ (fun hHeld' => ?_)
      · exact ⟨bcell hHeld.1 hb, bcell hHeld.2.1 hb, bcell hHeld.2.2.1 hb, trivial⟩
      clear hK K hHeld
      have hHeld := hHeld'
      clear hHeld'
      try simp only [Act.put, List.getElem_toArray, List.getElem_cons_succ, List.getElem_cons_zero, List.setIfInBounds_toArray, List.set_cons_zero, List.set_cons_succ]
      clear hb Id HB0 NC
      refine wpAnyH_ready (rs := [12]) (by kernel_rfl) (by simp) ?_
      refine AllReadyH.cons rfl (fun K hK => ?_) AllReadyH.nil
      go_simp
      have ba := (Below.refl wa.heap.size wa).alloc (Nat.le_refl _) (.cells #[.string ⟨#[107, 48]⟩, .int .i64 dl] 53)
      have JI := Lib.hid (Ia.out.keep ba)
      have JX : Hid (Whole (wa.alloc (.cells #[.string ⟨#[107, 48]⟩, .int .i64 dl] 53)) wa.heap.size 53 #[.string ⟨#[107, 48]⟩, .int .i64 (dlN x)]) := Lib.hid (by rw [← HFN.out.2.2]; exact Whole.new wa _ _)
      have JB := HBa
      refine hK.out _ _ ?_ (fun hHeld' => ?_)
      · exact ⟨bcell hHeld.1 ba, bcell hHeld.2.1 ba, bcell hHeld.2.2.1 ba, trivial⟩
      clear hK K hHeld
      have hHeld := hHeld'
      clear hHeld'
      try simp only [Act.put, List.getElem_toArray, List.getElem_cons_succ, List.getElem_cons_zero, List.setIfInBounds_toArray, List.set_cons_zero, List.set_cons_succ]
      clear ba Ia HBa
      generalize wa.alloc (.cells #[.string ⟨#[107, 48]⟩, .int .i64 dl] 53) = wb at hHeld JI JX ⊢
      generalize wa.heap.size = X at JX JB ⊢
      refine wpAnyH_take (i := 13) (v := ?_) rfl (by kernel_rfl) (by kernel_rfl) (by kernel_rfl) (fun _ _ _ h => h) (Or.inl ⟨by rfl, ?_⟩) (by assumption) ?_
      rotate_left
      · intro w hSw
        go_simp
        try with_reducible rfl
      simp only [Act.put, List.getElem_toArray, List.getElem_cons_succ, List.getElem_cons_zero, List.setIfInBounds_toArray, List.set_cons_zero, List.set_cons_succ]
      refine wpAnyH_take (i := 14) (v := ?_) rfl (by kernel_rfl) (by kernel_rfl) (by kernel_rfl) (fun _ _ _ h => h) (Or.inl ⟨by rfl, ?_⟩) (by assumption) ?_
      rotate_left
      · intro w hSw
        go_simp
        try with_reducible rfl
      simp only [Act.put, List.getElem_toArray, List.getElem_cons_succ, List.getElem_cons_zero, List.setIfInBounds_toArray, List.set_cons_zero, List.set_cons_succ]
      have y12 := JI.out.co.w.cell 12
      have f12 := JI.out.co.w.fr 12
      have y13 := JI.out.co.w.cell 13
      have f13 := JI.out.co.w.fr 13
      have y14 := JI.out.co.w.cell 14
      have f14 := JI.out.co.w.fr 14
      have y15 := JI.out.co.w.cell 15
      have f15 := JI.out.co.w.fr 15
      obtain ⟨o12, ho12⟩ : ∃ o, (cA c1 none 0 0)[12]? = some o := ⟨_, rfl⟩
      obtain ⟨o13, ho13⟩ : ∃ o, (cA c1 none 0 0)[13]? = some o := ⟨_, rfl⟩
      obtain ⟨o14, ho14⟩ : ∃ o, (cA c1 none 0 0)[14]? = some o := ⟨_, rfl⟩
      obtain ⟨o15, ho15⟩ : ∃ o, (cA c1 none 0 0)[15]? = some o := ⟨_, rfl⟩
      rw [ho12] at y12
      rw [ho13] at y13
      rw [ho14] at y14
      rw [ho15] at y15
      clear ho12 ho13 ho14 ho15
      refine wpAnyH_ready (rs := [15]) (by kernel_rfl) (by simp) ?_
      refine AllReadyH.cons rfl (fun K hK => ?_) AllReadyH.nil
      go_simp
      have JN := MdJ.new d0 JI.out JX.out HCB.out JB.out
      rw [HD0.out] at JN
      refine hK.out _ _ ?_ (fun hHeld' => ?_)
      · exact ⟨gcell hHeld.1 JN.2 (fun e => HNC.out.1 (Option.some.inj e)), gcell hHeld.2.1 JN.2 (fun e => HNC.out.1 (Option.some.inj e)), gcell hHeld.2.2.1 JN.2 (fun e => HNC.out.1 (Option.some.inj e)), trivial⟩
      clear hK K hHeld
      have hHeld := hHeld'
      clear hHeld'
      try simp only [Act.put, List.getElem_toArray, List.getElem_cons_succ, List.getElem_cons_zero]
      refine wpAnyH_done (by kernel_rfl) ?_ _
      have JF := Lib.hid JN.1
      clear JN hHeld JI JX JB y12 y13 y14 y15 f12 f13 f14 f15
      go_wp2_with fail
      go_meet
      case rel => exact Lib.hid ⟨_, by rw [HD0.out]; exact JF.out⟩
    · go_simp
      have ba := (Below.refl wz.heap.size wz).alloc (Nat.le_refl _) (.cells #[.string ⟨#[107, 48]⟩, .int .i64 dl] 53)
      have Ia := Lib.hid (Id.out.keep ba)
      have Xa : Hid (Whole (wz.alloc (.cells #[.string ⟨#[107, 48]⟩, .int .i64 dl] 53)) wz.heap.size 53 #[.string ⟨#[107, 48]⟩, .int .i64 (dlN x)]) := Lib.hid (by rw [← HFN.out.2.2]; exact Whole.new wz _ _)
      have JB := HB0
      refine hK.out _ _ ?_ (fun hHeld' => ?_)
      · exact ⟨bcell hHeld.1 ba, bcell hHeld.2.1 ba, bcell hHeld.2.2.1 ba, trivial⟩
      clear hK K hHeld
      have hHeld := hHeld'
      clear hHeld'
      try simp only [Act.put, List.getElem_toArray, List.getElem_cons_succ, List.getElem_cons_zero, List.setIfInBounds_toArray, List.set_cons_zero, List.set_cons_succ]
      clear ba Id HB0
      generalize wz.alloc (.cells #[.string ⟨#[107, 48]⟩, .int .i64 dl] 53) = wb at hHeld Ia Xa ⊢
      generalize wz.heap.size = X at Xa JB ⊢
      refine wpAnyH_ready (rs := [2]) (by kernel_rfl) (by simp) ?_
      refine AllReadyH.cons rfl (fun K hK => ?_) AllReadyH.nil
      go_simp
      refine (NC.out _).mono ?_
      rintro e wa ⟨rfl, hb⟩
      try go_simp
      have JI := Lib.hid (Ia.out.keep hb)
      have JX := Lib.hid (Xa.out.keep hb)
      refine hK.out _ _ ?_ (fun hHeld' => ?_)
      · exact ⟨bcell hHeld.1 hb, bcell hHeld.2.1 hb, bcell hHeld.2.2.1 hb, trivial⟩
      clear hK K hHeld
      have hHeld := hHeld'
      clear hHeld'
      try simp only [Act.put, List.getElem_toArray, List.getElem_cons_succ, List.getElem_cons_zero, List.setIfInBounds_toArray, List.set_cons_zero, List.set_cons_succ]
      clear hb Ia Xa NC
      refine wpAnyH_take (i := 13) (v := ?_) rfl (by kernel_rfl) (by kernel_rfl) (by kernel_rfl) (fun _ _ _ h => h) (Or.inl ⟨by rfl, ?_⟩) (by assumption) ?_
      rotate_left
      · intro w hSw
        go_simp
        try with_reducible rfl
      simp only [Act.put, List.getElem_toArray, List.getElem_cons_succ, List.getElem_cons_zero, List.setIfInBounds_toArray, List.set_cons_zero, List.set_cons_succ]
      refine wpAnyH_take (i := 14) (v := ?_) rfl (by kernel_rfl) (by kernel_rfl) (by kernel_rfl) (fun _ _ _ h => h) (Or.inl ⟨by rfl, ?_⟩) (by assumption) ?_
      rotate_left
      · intro w hSw
        go_simp
        try with_reducible rfl
      simp only [Act.put, List.getElem_toArray, List.getElem_cons_succ, List.getElem_cons_zero, List.setIfInBounds_toArray, List.set_cons_zero, List.set_cons_succ]
      have y12 := JI.out.co.w.cell 12
      have f12 := JI.out.co.w.fr 12
      have y13 := JI.out.co.w.cell 13
      have f13 := JI.out.co.w.fr 13
      have y14 := JI.out.co.w.cell 14
      have f14 := JI.out.co.w.fr 14
      have y15 := JI.out.co.w.cell 15
      have f15 := JI.out.co.w.fr 15
      obtain ⟨o12, ho12⟩ : ∃ o, (cA c1 none 0 0)[12]? = some o := ⟨_, rfl⟩
      obtain ⟨o13, ho13⟩ : ∃ o, (cA c1 none 0 0)[13]? = some o := ⟨_, rfl⟩
      obtain ⟨o14, ho14⟩ : ∃ o, (cA c1 none 0 0)[14]? = some o := ⟨_, rfl⟩
      obtain ⟨o15, ho15⟩ : ∃ o, (cA c1 none 0 0)[15]? = some o := ⟨_, rfl⟩
      rw [ho12] at y12
      rw [ho13] at y13
      rw [ho14] at y14
      rw [ho15] at y15
      clear ho12 ho13 ho14 ho15
      refine wpAnyH_ready (rs := [15]) (by kernel_rfl) (by simp) ?_
      refine AllReadyH.cons rfl (fun K hK => ?_) AllReadyH.nil
      go_simp
      have JN := MdJ.new d0 JI.out JX.out HCB.out JB.out
      rw [HD0.out] at JN
      refine hK.out _ _ ?_ (fun hHeld' => ?_)
      · exact ⟨gcell hHeld.1 JN.2 (fun e => HNC.out.1 (Option.some.inj e)), gcell hHeld.2.1 JN.2 (fun e => HNC.out.1 (Option.some.inj e)), gcell hHeld.2.2.1 JN.2 (fun e => HNC.out.1 (Option.some.inj e)), trivial⟩
      clear hK K hHeld
      have hHeld := hHeld'
      clear hHeld'
      try simp only [Act.put, List.getElem_toArray, List.getElem_cons_succ, List.getElem_cons_zero]
      refine wpAnyH_done (by kernel_rfl) ?_ _
      have JF := Lib.hid JN.1
      clear JN hHeld JI JX JB y12 y13 y14 y15 f12 f13 f14 f15
      go_wp2_with fail
      go_meet
      case rel => exact Lib.hid ⟨_, by rw [HD0.out]; exact JF.out⟩
  case rest =>
  generalize wc = w20 at hcut ⊢
  obtain ⟨X, hJ⟩ := hcut.out
  have J0 := Lib.hid hJ
  clear hJ hcut SA Id NC HB0
  have hz1 := HZ.out.step
  obtain ⟨M, hM⟩ : ∃ M : Nat, x.step % 8 = M := ⟨_, rfl⟩
  have hw1 : IntKind.i64.wrap (x.step : Int) = (x.step : Int) := IntWalk.i64_in _ (by omega)
  have ht1 : (x.step : Int).tmod 8 = (M : Int) := by rw [Int.tmod_eq_emod_of_nonneg (by omega)]; omega
  have hM8 : M < 8 := by omega
  have HM := Lib.hid hM
  have x1 : w20.cell? ⟨w.heap.size, 1, none⟩ = some (.int .u8 (x.step : Int)) := J0.out.nm.cell 1
  clear hz1 hM
  go_wp2_with fail
  clear x1
  go_loopw [143] (fun i wr => ∃ (j : Nat), j ≤ M ∧ i = .int .i64 j ∧ Hid (∃ A n m, MdJ w x C B0 c1 d0 j A n m wr)) (fun i _ => M - (intOf i).toNat)
  case atStart => exact ⟨0, by omega, rfl, Lib.hid ⟨_, _, _, J0.out⟩⟩
  case round =>
    clear J0
    obtain ⟨j, hj, rfl, HI⟩ := hrel
    by_cases hjM : j < M
    · obtain ⟨A, n, m, hJ⟩ := HI.out
      have J1 := Lib.hid hJ
      clear HI hJ
      have hj0 : (j : Int) < (M : Int) := by omega
      have hwj : IntKind.i64.wrap ((j : Int) + 1) = (j : Int) + 1 := IntWalk.i64_in _ (by omega)
      have hw9 : IntKind.i64.wrap ((j : Int) - 9) = (j : Int) - 9 := IntWalk.i64_in _ (by omega)
      have hwu : IntKind.u8.wrap (j : Int) = (j : Int) := by rw [IntKind.wrap_u8]; omega
      have hwv : IntKind.u8.wrap (49 + (j : Int)) = 49 + (j : Int) := by rw [IntKind.wrap_u8]; omega
      obtain ⟨ky, hky⟩ : ∃ ky : ByteArray, ky = ⟨#[107, (49 + j).toUInt8]⟩ := ⟨_, rfl⟩
      have hc := conv_bytes (slB_lit wr [(49 + j).toUInt8] 1 rfl #[.int .u8 (49 + (j : Int))] (by show _ = #[Value.int .u8 (((49 + j).toUInt8).toNat : Int)]; rw [u8_lt (by omega)]; rfl)) 1
      obtain ⟨t2, e2, _, hadd⟩ := add_ba ⟨#[107]⟩ ⟨[(49 + j).toUInt8].toArray⟩ (by show 1 + 1 ≤ _; decide)
      have e3 : t2 = ky := by rw [hky, ← ba_eta t2, e2.out]; rfl
      rw [e3] at hadd
      clear e2 e3
      obtain ⟨z15, A', m', w8, HR, q15, g15, HJ⟩ := J1.out.round (by omega) ky hky (.cells #[.int .u8 (49 + (j : Int))] 5)
      have y15 : (wr.alloc (.cells #[.int .u8 (49 + (j : Int))] 5)).cell? ⟨C, 15, none⟩ = some (.slice A n m) := acell _ z15
      clear hky J1
      generalize (⟨[(49 + j).toUInt8].toArray⟩ : ByteArray) = s1c at hc hadd
      go_wp2_with (at_builtin; refine wpList_append_run rfl (.tmp 148) (.tmp 158) 29 29 rfl rfl rfl HR.out ?_)
      go_roundw
      case rel => exact ⟨j + 1, by omega, by go_num, Lib.hid ⟨_, _, _, HJ.out⟩⟩
      case measure => simp [intOf]; omega
    · obtain rfl : j = M := by omega
      obtain ⟨A, n, m, hJ⟩ := HI.out
      have J1 := Lib.hid (show MdJ w x C B0 c1 d0 (x.step % 8) A n m wr from by rw [HM.out]; exact hJ)
      clear HI hJ
      have hnj : ¬ ((j : Int) < (j : Int)) := by omega
      have HMC : Hid (madeC x = { c1 with d := { d0 with s := stepsN x } }) := Lib.hid (by rw [HC1.out, HD0.out, HCL.out, HS.out.1, HR21.out, HKN.out.1]; show setA ((fieldsK (kN x)).getD []) (fullN x) (zeroC (kN x)) = _; rw [show kN x = 11 from by unfold kN; rw [HKK.out]; rfl]; rfl)
      have HCI := Lib.hid (J1.out.done (by rw [HC1.out]; have hz8 := hcmdz x cl s1 hb6 HS.out.1; exact hz8) (by rw [HD0.out, HKN.out.1]; exact nm_z _) (by rw [HD0.out]; have := HBR.out; exact in64_i (by show _ ≤ r21; omega) (by show r21 ≤ _; omega)) (by rw [HD0.out]; have := HZ.out.data; exact in64_i (by show _ ≤ (x.data : Int); omega) (by show (x.data : Int) ≤ _; omega)))
      have HCA : Hid (cA { c1 with d := d0 } A n m = cA (madeC x) A n m) := Lib.hid (by rw [HMC.out]; rfl)
      have HCW := Lib.hid J1.out.cw
      rw [HCA.out] at HCW
      have HRS := Lib.hid J1.out.rs
      have HBL := Lib.hid J1.out.bl
      rw [HCA.out, ← HMC.out] at HCI
      obtain ⟨cc, hcc⟩ : ∃ cc, cc = madeC x := ⟨_, rfl⟩
      rw [← hcc] at HCI HCW
      have HEC := Lib.hid hcc
      clear hcc
      clear J1 HCA HMC HC1 HD0 HKN HZ HS HR21 HM HBR HCB HFN HDD HNC HCE HCS
      go_upto_region 39 with fail
      go_wp2_with (first
        | (refine wpList_load_row (by rfl) 36 (.tmp 3) (by rfl) C (by rfl) 36 (cA cc A n m) (0, 0) _ HCW.out Tryz.underlying36 (by rfl) (info24 cc A n m) ?_)
        | (refine wpList_store_row (by rfl) 36 (.tmp 2) (.tmp 213) (by rfl) (w.heap.size + 1) (cA cc A n m) (by rfl) (by rfl) 36 (cA (zeroC 0) none 0 0) HRS.out (info24 cc A n m) (by rfl) (all24 cc A n m) ?_))
      refine bodyPost_ret (results_cell_row (by rfl) _ _ (w.heap.size + 1) 36 (cA cc A n m) (0, 0) _ (by rfl) (setRow_heap _ _ _ _ _ _ HRS.out) Tryz.underlying36 (by rfl) (info24 cc A n m)) (by rfl) ?_
      rw [HEC.out]
      exact ⟨⟨A, n, m, rfl, by have := HCI.out; rw [HEC.out] at this; exact this⟩, below_row HBL.out (Nat.le_succ _) _⟩

end Go.Proofs.YtgjnmfmbheejoaaGreatDoor
