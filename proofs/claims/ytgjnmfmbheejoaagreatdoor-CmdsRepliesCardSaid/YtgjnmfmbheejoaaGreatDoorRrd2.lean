/- The reference's readers of bytes: numbers, texts, and the end. Condition: the bytes are no longer than a machine's integer can say. -/
import Derived.Test.YtgjnmfmbheejoaaGreatDoorRrd
namespace Go.Proofs.YtgjnmfmbheejoaaGreatDoor
open Go.RowKit Go.Shelf

theorem wU_hit {l : List UInt8} {v k : Nat} (h : uvR l = some (v, k)) : wU (some l) = (v, some (l.drop k)) := by unfold wU; simp only [h]
theorem wU_miss {l : List UInt8} (h : uvR l = none) : wU (some l) = (0, none) := by unfold wU; simp only [h]
theorem neq_str {a b : List UInt8} (h : a ≠ b) : ((⟨a.toArray⟩ : ByteArray).toList == (⟨b.toArray⟩ : ByteArray).toList) = false := by
  rw [ByteArray.toList_mk, ByteArray.toList_mk, beq_eq_false_iff_ne]; exact h
set_option maxRecDepth 100000 in
set_option maxHeartbeats 8000000 in
theorem quint_any (C : Nat) (st : WS) (w : World) (h : RdQ w C st) :
    Calls Tryz.prog 114 #[.pointer (some ⟨C, 0, none⟩)] w fun e w' => e = .returned (.int .u64 ((wU st).1 : Int)) ∧ RdQ w' C (wU st).2 ∧ w.grownBy w' (some C) := by
  have mixed : Tryz.prog.follows Departure.mixedOrders = true := by kernel_rfl
  have H := Lib.hid h
  obtain ⟨A, n, c, h1, h2, h3, h4, h5⟩ := id h
  have V := Lib.hid (rvalid_any C _ _ w h1)
  have c1 := h1.cell 1
  have c2 := h1.cell 2
  simp only [List.getElem?_toArray, List.getElem?_cons_succ, List.getElem?_cons_zero] at c1 c2
  cases st with
  | none =>
    simp only [Option.isNone_none] at c2
    clear h1 h2 h3 h4 h5 h
    go_enter Tryz.func114, Tryz.ntmps114
    go_wp2_with (go_at_call 115; refine V.out.mono ?_; rintro e w1 ⟨rfl, rfl⟩)
    go_ret
    exact ⟨rfl, H.out, World.grownBy.refl _ _⟩
  | some l =>
    simp only [Option.isNone_some] at c2 h1
    have HS := Lib.hid (h5 l rfl)
    have HW := Lib.hid h1
    have HL : Hid (l.length = n) := Lib.hid HS.out.1
    have F := Lib.hid (fun W (hW : RdQ W C (some l)) => qfail_any C (some l) W hW)
    have HBK := Lib.hid h4.2
    clear h1 h4 h5 h
    go_enter Tryz.func114, Tryz.ntmps114
    go_wp2_with (go_at_call 115; refine V.out.mono ?_; rintro e w1 ⟨rfl, rfl⟩)
    go_loop [3, 4] (fun a i => ∃ k acc : Nat, k ≤ n ∧ k ≤ 10 ∧ i = .int .i64 k ∧ a = .int .u64 acc ∧ Hid (acc = valR (l.take k) % 2 ^ 64 ∧ ∀ (j : Nat) x, j < k → l[j]? = some x → 128 ≤ x.toNat)) (fun _ i => 10 - (intOf i).toNat)
    case atStart => exact ⟨0, 0, Nat.zero_le _, by omega, rfl, rfl, Lib.hid ⟨by simp [valR], fun j x hj => absurd hj (Nat.not_lt_zero _)⟩⟩
    case round =>
      obtain ⟨k, acc, hk, hk10, rfl, rfl, HU⟩ := hrel
      by_cases hgo : k < n ∧ k < 10
      · obtain ⟨hlt, hlt10⟩ := hgo
        obtain ⟨b, hb⟩ : ∃ b, l[k]? = some b := ⟨_, List.getElem?_eq_getElem (show k < l.length by rw [HL.out]; exact hlt)⟩
        obtain ⟨g, o, rfl, hcell⟩ := HS.out.2 k b hb
        unfold u8V at hcell
        have hcl := b.toNat_lt
        have HBk := Lib.hid hb
        obtain ⟨d, hd⟩ : ∃ d : Nat, d = b.toNat % 128 := ⟨_, rfl⟩
        obtain ⟨ac, hac⟩ : ∃ ac : Nat, ac = (valR (l.take k) + b.toNat % 128 * 128 ^ k) % 2 ^ 64 := ⟨_, rfl⟩
        have e40 := add_mod (k := k) HU.out.1 hd
        rw [← hac] at e40
        have e35 : (b.toNat : Int) % 128 = (d : Int) := by omega
        have hw : IntKind.i64.wrap ((k : Int) + 1) = (k : Int) + 1 := IntWalk.i64_in _ (by omega)
        have HAC : Hid (ac = valR (l.take (k + 1)) % 2 ^ 64) := Lib.hid (by rw [valR_take hb]; exact hac)
        clear hb hac hd
        by_cases h128 : b.toNat < 128
        · have HIT := Lib.hid (ref_hit HU.out.2 HBk.out h128 HAC.out)
          generalize b.toNat = x at hcell hcl e35 h128
          obtain ⟨A', hA', hB'⟩ := sliced_B (lo := 0) (hi := k + 1) HS.out (by omega) (by omega) h2 rfl
          rw [Nat.sub_zero, Nat.sub_zero] at hA'
          rw [Nat.sub_zero, List.drop_zero] at hB'
          have hcut := fun W => cut_to (some ⟨g, o, none⟩) n c (k + 1) (by omega) W
          rw [hA'] at hcut
          have hcut2 := fun W => cut_bytes (some ⟨g, o, none⟩) n c (k + 1) (by omega) W
          obtain ⟨A2, hA2, hB2⟩ := sliced_B (lo := k + 1) (hi := n) HS.out (by omega) (Nat.le_refl _) h2 rfl
          rw [hA2] at hcut2
          have HBA := Lib.hid (sliced_blk hA2 HBK.out)
          rw [List.take_of_length_le (by rw [HL.out]; exact Nat.le_refl _)] at hB2
          have hcast : ((k + 1 : Nat) : Int) = (k : Int) + 1 := by omega
          simp only [hcast] at hcut hcut2
          have hacl : ac < 18446744073709551616 := by have := HAC.out; have := Nat.mod_lt (valR (l.take (k + 1))) (show 0 < 2 ^ 64 by decide); omega
          have NB := Lib.hid (fun W => rnumber_any ac W hacl)
          have HC1 := Lib.hid c1
          have HB2 := Lib.hid hB2
          have HB1 := Lib.hid hB'
          have HN1 := Lib.hid (show n - (k + 1) ≤ c - (k + 1) ∧ n - (k + 1) ≤ n by omega)
          clear hA' hA2 hB2 hB' hcast hacl HU HAC HBk
          obtain ⟨s1, hs1⟩ : ∃ s1 : ByteArray, s1 = ⟨(uvB ac).toArray⟩ := ⟨_, rfl⟩
          obtain ⟨s2, hs2⟩ : ∃ s2 : ByteArray, s2 = ⟨(l.take (k + 1)).toArray⟩ := ⟨_, rfl⟩
          have HS1 := Lib.hid hs1
          have HS2 := Lib.hid hs2
          clear hs1 hs2
          go_upto_region 9 with fail
          refine wp_region_held_drew (S := fun wx => wx.cell? ⟨C, 1, none⟩ = some (.slice (some ⟨g, o, none⟩) n c) ∧ (convert 22 9 (.slice A' (k + 1) c)).run Tryz.prog wx = .ok (.string s2) wx) (by kernel_rfl) ⟨HC1.out, by rw [HS2.out]; exact conv_bytes (HB1.out.keep (Below.refl _ _).drew) c⟩ (fun hHeld => ?_)
          refine wpAnyH_take (i := 0) (v := ?_) rfl (by kernel_rfl) (by kernel_rfl) (by kernel_rfl) (fun _ _ _ h => h) (Or.inl ⟨by rfl, ?_⟩) (by assumption) ?_
          rotate_left
          · intro w hSw
            go_simp
            try with_reducible rfl
          simp only [Act.put, List.getElem_toArray, List.getElem_cons_zero, List.setIfInBounds_toArray, List.set_cons_zero, List.set_cons_succ]
          refine wpAnyH_take (i := 3) (v := ?_) rfl (by kernel_rfl) (by kernel_rfl) (by kernel_rfl) (fun _ _ _ h => h) (Or.inl ⟨by rfl, ?_⟩) (by assumption) ?_
          rotate_left
          · intro w hSw
            go_simp
            try with_reducible rfl
          simp only [Act.put, List.getElem_toArray, List.getElem_cons_succ, List.getElem_cons_zero, List.setIfInBounds_toArray, List.set_cons_zero, List.set_cons_succ]
          refine wpAnyH_take (i := 4) (v := ?_) rfl (by kernel_rfl) (by kernel_rfl) (by kernel_rfl) (fun _ _ _ h => h) (Or.inl ⟨by rfl, ?_⟩) (by assumption) ?_
          rotate_left
          · intro w hSw
            go_simp
            try with_reducible rfl
          simp only [Act.put, List.getElem_toArray, List.getElem_cons_succ, List.getElem_cons_zero, List.setIfInBounds_toArray, List.set_cons_zero, List.set_cons_succ]
          refine wpAnyH_take (i := 5) (v := ?_) rfl (by kernel_rfl) (by kernel_rfl) (by kernel_rfl) (fun _ _ _ h => h) (Or.inl ⟨by rfl, ?_⟩) (by assumption) ?_
          rotate_left
          · intro w hSw
            go_simp
            try with_reducible rfl
          simp only [Act.put, List.getElem_toArray, List.getElem_cons_succ, List.getElem_cons_zero, List.setIfInBounds_toArray, List.set_cons_zero, List.set_cons_succ]
          refine wpAnyH_take (i := 6) (v := ?_) rfl (by kernel_rfl) (by kernel_rfl) (by kernel_rfl) (fun _ _ _ h => h) (Or.inl ⟨by rfl, ?_⟩) (by assumption) ?_
          rotate_left
          · intro w hSw
            go_simp
            try with_reducible rfl
          simp only [Act.put, List.getElem_toArray, List.getElem_cons_succ, List.getElem_cons_zero, List.setIfInBounds_toArray, List.set_cons_zero, List.set_cons_succ]
          refine wpAnyH_take (i := 7) (v := ?_) rfl (by kernel_rfl) (by kernel_rfl) (by kernel_rfl) (fun _ _ _ h => h) (Or.inl ⟨by rfl, ?_⟩) (by assumption) ?_
          rotate_left
          · intro w hSw
            go_simp
            try with_reducible rfl
          simp only [Act.put, List.getElem_toArray, List.getElem_cons_succ, List.getElem_cons_zero, List.setIfInBounds_toArray, List.set_cons_zero, List.set_cons_succ]
          refine wpAnyH_take (i := 8) (v := ?_) rfl (by kernel_rfl) (by kernel_rfl) (by kernel_rfl) (fun _ _ _ h => h) (Or.inl ⟨by rfl, ?_⟩) (by assumption) ?_
          rotate_left
          · intro w hSw
            go_simp
            try with_reducible rfl
          simp only [Act.put, List.getElem_toArray, List.getElem_cons_succ, List.getElem_cons_zero, List.setIfInBounds_toArray, List.set_cons_zero, List.set_cons_succ]
          refine wpAnyH_take (i := 9) (v := ?_) rfl (by kernel_rfl) (by kernel_rfl) (by kernel_rfl) (fun _ _ _ h => h) (Or.inl ⟨by rfl, ?_⟩) (by assumption) ?_
          rotate_left
          · intro w hSw
            go_simp
            try with_reducible rfl
          simp only [Act.put, List.getElem_toArray, List.getElem_cons_succ, List.getElem_cons_zero, List.setIfInBounds_toArray, List.set_cons_zero, List.set_cons_succ]
          refine wpAnyH_take (i := 10) (v := ?_) rfl (by kernel_rfl) (by kernel_rfl) (by kernel_rfl) (fun _ _ _ h => h) (Or.inl ⟨by rfl, ?_⟩) (by assumption) ?_
          rotate_left
          · intro w hSw
            go_simp
            try with_reducible rfl
          simp only [Act.put, List.getElem_toArray, List.getElem_cons_succ, List.getElem_cons_zero, List.setIfInBounds_toArray, List.set_cons_zero, List.set_cons_succ]
          refine wpAnyH_ready (rs := [1]) (by kernel_rfl) (by simp) ?_
          refine AllReadyH.cons rfl (fun K hK => ?_) AllReadyH.nil
          go_simp
          refine (NB.out _).mono ?_
          rintro e w1 ⟨⟨v1, rfl, ho1⟩, hB⟩
          obtain ⟨A1, cc1, rfl, hcc1⟩ := own_slice ho1
          have hcv1 := conv_bytes (SlB.of_own ho1) cc1
          rw [← HS1.out] at hcv1
          have HB1w : Hid (Below w.heap.size w w1) := Lib.hid (((Below.refl _ w).drew).trans hB)
          have SB : Hid (w1.cell? ⟨C, 1, none⟩ = some (.slice (some ⟨g, o, none⟩) n c) ∧ (convert 22 9 (.slice A' (k + 1) c)).run Tryz.prog w1 = .ok (.string s2) w1) := Lib.hid ⟨bcell HC1.out HB1w.out, by rw [HS2.out]; exact conv_bytes (HB1.out.keep HB1w.out) c⟩
          clear ho1 hB hcc1
          refine hK.out _ _ ?_ (fun hHeld' => ?_)
          · exact SB.out
          clear hK K hHeld
          have hHeld := hHeld'
          clear hHeld'
          try simp only [Act.put, List.getElem_toArray, List.getElem_cons_succ, List.getElem_cons_zero, List.setIfInBounds_toArray, List.set_cons_zero, List.set_cons_succ]
          refine wpAnyH_ready (rs := [2]) (by kernel_rfl) (by simp) ?_
          refine AllReadyH.cons rfl (fun K hK => ?_) AllReadyH.nil
          go_simp
          refine hK.out _ _ ?_ (fun hHeld' => ?_)
          · exact SB.out
          clear hK K hHeld
          have hHeld := hHeld'
          clear hHeld'
          try simp only [Act.put, List.getElem_toArray, List.getElem_cons_succ, List.getElem_cons_zero, List.setIfInBounds_toArray, List.set_cons_zero, List.set_cons_succ]
          refine wpAnyH_ready (rs := [11]) (by kernel_rfl) (by simp) ?_
          refine AllReadyH.cons rfl (fun K hK => ?_) AllReadyH.nil
          go_simp
          refine hK.out _ _ ?_ (fun hHeld' => ?_)
          · exact SB.out
          clear hK K hHeld
          have hHeld := hHeld'
          clear hHeld'
          try simp only [Act.put, List.getElem_toArray, List.getElem_cons_succ, List.getElem_cons_zero, List.setIfInBounds_toArray, List.set_cons_zero, List.set_cons_succ]
          refine wpAnyH_done (by kernel_rfl) ?_ _
          have c1' := SB.out.1
          have RQ := Lib.hid (H.out.keep HB1w.out)
          have F2 := Lib.hid (F.out w1 RQ.out)
          clear hHeld SB hcv1 hcut HB1 NB
          by_cases he : uvB ac = l.take (k + 1)
          · have HU2 : Hid (wU (some l) = (ac, some (l.drop (k + 1)))) := Lib.hid (wU_hit (HIT.out.1 he))
            have st := RdQ.step (A' := A2) (n' := n - (k + 1)) (c' := c - (k + 1)) (HW.out.keep HB1w.out) h3 HN1.out.1 HN1.out.2 (HB2.out.keep HB1w.out) HBA.out
            have HST := Lib.hid (And.intro st.1 ((gbelow HB1w.out)))
            have fr := (HW.out.keep HB1w.out).fr 1
            have HG := Lib.hid st.2
            clear HIT F2 st
            have heq0 : (s1.toList == s2.toList) = true := by rw [HS1.out, HS2.out, he]; simp
            have heq1 : (s1.toList = s2.toList) = True := by rw [beq_iff_eq] at heq0; simp [heq0]
            have heq : (!(s1.toList == s2.toList)) = false := by rw [heq0]; rfl
            rw [heq]
            clear heq heq0 heq1
            go_wp2
            go_ret
            exact ⟨by rw [HU2.out]; rfl, by rw [HU2.out]; exact HST.out.1, below_grown HB1w.out HG.out⟩
          · have HM : Hid (wU (some l) = (0, none)) := Lib.hid (wU_miss (HIT.out.2 he))
            have hne0 : (s1.toList == s2.toList) = false := by rw [HS1.out, HS2.out]; exact neq_str he
            have hne1 : (s1.toList = s2.toList) = False := by rw [beq_eq_false_iff_ne] at hne0; simp [hne0]
            have hne : (!(s1.toList == s2.toList)) = true := by rw [hne0]; rfl
            rw [hne]
            clear hne hne0 hne1
            clear HIT he
            go_wp2_with (go_at_call 52; refine F2.out.mono ?_; rintro e w2 ⟨rfl, hP, hg⟩)
            go_ret
            exact ⟨by rw [HM.out]; rfl, by rw [HM.out]; exact hP, below_grown HB1w.out hg⟩
        · have HN : Hid (ac = valR (l.take (k + 1)) % 2 ^ 64 ∧ ∀ (j : Nat) x, j < k + 1 → l[j]? = some x → 128 ≤ x.toNat) := Lib.hid ⟨HAC.out, fun j x hj hx => by
            by_cases e : j = k
            · subst e; rw [HBk.out] at hx; cases hx; omega
            · exact HU.out.2 j x (by omega) hx⟩
          clear HU HAC HBk
          generalize b.toNat = x at hcell hcl e35 h128
          go_wp2
          go_round
          case rel => exact ⟨k + 1, ac, by omega, by omega, by go_num, rfl, HN⟩
          case measure => simp [intOf]; omega
      · have HM : Hid (wU (some l) = (0, none)) := Lib.hid (wU_miss (ref_miss HU.out.2 (by rw [HL.out]; omega)))
        clear HU
        by_cases hkn : k < n
        · have h10 : (10 : Int) ≤ (k : Int) := by omega
          have F2 := Lib.hid (F.out w H.out)
          clear hgo
          go_wp2_with (go_at_call 52; refine F2.out.mono ?_; rintro e w1 ⟨rfl, hP, hg⟩)
          go_ret
          exact ⟨by rw [HM.out]; rfl, by rw [HM.out]; exact hP, hg⟩
        · have F2 := Lib.hid (F.out w H.out)
          clear hgo
          go_wp2_with (go_at_call 52; refine F2.out.mono ?_; rintro e w1 ⟨rfl, hP, hg⟩)
          go_ret
          exact ⟨by rw [HM.out]; rfl, by rw [HM.out]; exact hP, hg⟩
end Go.Proofs.YtgjnmfmbheejoaaGreatDoor
