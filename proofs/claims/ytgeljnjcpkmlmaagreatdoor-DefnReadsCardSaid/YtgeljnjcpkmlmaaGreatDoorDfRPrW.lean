/- A definition read from its text, by the reference: the walk. Condition: the text is no longer than a million bytes. -/
import Derived.Test.YtgeljnjcpkmlmaaGreatDoorDfRPrs
namespace Go.Proofs.YtgeljnjcpkmlmaaGreatDoor
open Go.RowKit Go.Shelf

set_option maxRecDepth 100000 in
set_option maxHeartbeats 4000000 in
theorem refParse_any (s : ByteArray) (w : World) (hs : s.size ≤ 1000000) :
    Calls Tryz.prog 30 #[.string s] w fun e w' => ParseR s.data.toList w w' e := by
  have mixed : Tryz.prog.follows Departure.mixedOrders = true := by kernel_rfl
  have R1 := Lib.hid (Whole.new w 24 #[.string ⟨#[]⟩, .int .i64 0, .int .i64 0, .slice none 0 0])
  have b1 := Lib.hid ((Below.refl w.heap.size w).alloc (Nat.le_refl _) (.cells #[.string ⟨#[]⟩, .int .i64 0, .int .i64 0, .slice none 0 0] 24))
  have WD := Lib.hid (words_any s (w.alloc (.cells #[.string ⟨#[]⟩, .int .i64 0, .int .i64 0, .slice none 0 0] 24)) hs)
  have HSS := Lib.hid hs
  unfold WdsR at WD
  clear hs
  go_enter Tryz.func30, Tryz.ntmps30
  go_upto_region 2 with (go_at_call 71; refine WD.out.mono ?_; rintro e w1 ⟨⟨v, ws, rfl, hw, h20, hown⟩, hb1⟩)
  obtain ⟨A, c, rfl, hmc⟩ := own_slice2 hown
  obtain ⟨m, hm⟩ : ∃ m, m = ws.length := ⟨_, rfl⟩
  have HWM := Lib.hid hm
  rw [← hm] at hown h20 hmc ⊢
  have R2 := Lib.hid (R1.out.keep hb1)
  have BW1 := Lib.hid (b1.out.trans (hb1.mono b1.out.size))
  have HW := Lib.hid hw
  have HO := Lib.hid hown
  have HZ : Hid (∀ x ∈ ws, x.size ≤ 1000000) := Lib.hid (fun x hx => by
    have h1 : x.data.toList ∈ wlB ws := List.mem_map_of_mem hx
    rw [hw] at h1
    have h2 := wordsR_le _ _ h1
    have := HSS.out
    rw [Lib.size_eq] at this ⊢
    omega)
  clear R1 b1 WD hb1 hw hown hm
  by_cases hlen : m < 4
  case pos =>
    have HB := Lib.hid (rp_short HW.out (by rw [← HWM.out]; exact hlen))
    have hlen' : (m : Int) < 4 := by omega
    obtain ⟨⟨r0, r1', r2, r3⟩, s0, s1, s2, s3⟩ := whole4 R2.out
    have hRlt := R2.out.lt
    clear hlen
    go_wp2_with fail
    refine bodyPost_ret (v := .tuple #[.agg #[.string ⟨#[]⟩, .int .i64 0, .int .i64 0, .slice none 0 0], .int .i64 10]) ?_ rfl ?_
    · simp [results, Tryz.results30, go_sem, r0, r1', r2, r3]
    · exact parse_zero HB.out (((((BW1.out).setCell (p := ⟨w.heap.size, 0, none⟩) (Nat.le_refl _) _).setCell (p := ⟨w.heap.size, 1, none⟩) (Nat.le_refl _) _).setCell (p := ⟨w.heap.size, 2, none⟩) (Nat.le_refl _) _).setCell (p := ⟨w.heap.size, 3, none⟩) (Nat.le_refl _) _)
  have hlen' : ¬ ((m : Int) < 4) := by omega
  have h4 : 4 ≤ m := by omega
  obtain ⟨G, rfl⟩ : ∃ G, A = some ⟨G, 0, none⟩ := by
    rcases HO.out.2 with ⟨_, h2⟩ | ⟨g, cap, cur, h1, _, _⟩
    · omega
    · cases h1; exact ⟨g, rfl⟩
  have HC : Hid (∀ (k : Nat) x, ws[k]? = some x → w1.cell? ⟨G, k, none⟩ = some (.string x)) := Lib.hid (fun k x hx => by
    have hk := (List.getElem?_eq_some_iff.1 hx).1
    have := HO.out.cellAt k (by rw [← HWM.out] at hk; omega)
    rw [this, List.getElem?_map, hx]; rfl)
  obtain ⟨x0, hx0⟩ : ∃ x, ws[0]? = some x := ⟨_, List.getElem?_eq_getElem (by rw [← HWM.out]; omega)⟩
  obtain ⟨x1, hx1⟩ : ∃ x, ws[1]? = some x := ⟨_, List.getElem?_eq_getElem (by rw [← HWM.out]; omega)⟩
  obtain ⟨x2, hx2⟩ : ∃ x, ws[2]? = some x := ⟨_, List.getElem?_eq_getElem (by rw [← HWM.out]; omega)⟩
  have HX := Lib.hid (And.intro hx0 (And.intro hx1 hx2))
  have SA : Hid (w1.drew.cell? ⟨G, 0, none⟩ = some (.string x0) ∧ w1.drew.cell? ⟨G, 1, none⟩ = some (.string x1) ∧ w1.drew.cell? ⟨G, 2, none⟩ = some (.string x2) ∧ Below w1.heap.size w1 w1.drew) := Lib.hid ⟨HC.out 0 x0 hx0, HC.out 1 x1 hx1, HC.out 2 x2 hx2, (Below.refl _ _).drew⟩
  have N1 := Lib.hid (fun W => (number_ref x1 W (HZ.out x1 (List.mem_of_getElem? hx1))).mono (R' := fun e w' => e = .returned (.int .i64 ((numR x1.data.toList : Nat) : Int)) ∧ Below W.heap.size W w') (fun e w' ⟨h, hw⟩ => ⟨h, by rw [hw]; exact Below.refl _ _⟩))
  have N2 := Lib.hid (fun W => (number_ref x2 W (HZ.out x2 (List.mem_of_getElem? hx2))).mono (R' := fun e w' => e = .returned (.int .i64 ((numR x2.data.toList : Nat) : Int)) ∧ Below W.heap.size W w') (fun e w' ⟨h, hw⟩ => ⟨h, by rw [hw]; exact Below.refl _ _⟩))
  have b01 := numR_le x1.data.toList
  have b02 := numR_le x2.data.toList
  obtain ⟨r1, hr1⟩ : ∃ r1, small (numR x1.data.toList) = r1 := ⟨_, rfl⟩
  obtain ⟨t1, ht1⟩ : ∃ t1, small (numR x2.data.toList) = t1 := ⟨_, rfl⟩
  have HRT : Hid ((∀ d0, defOk d0 → textD d0 = s.data.toList → (⟨x0, (r1 : Nat), (t1 : Nat), (ws.drop 3).map rS⟩ : Dv) = d0) ∧ r1 ≤ 1000000 ∧ t1 ≤ 1000000) := Lib.hid ⟨fun d0 h0 h1 => by rw [← hr1, ← ht1]; exact rp_eq HW.out hx0 hx1 hx2 h0 h1, by rw [← hr1]; exact small_le _, by rw [← ht1]; exact small_le _⟩
  have S1 := Lib.hid (fun W => (small_any (numR x1.data.toList) W (by omega)).mono (R' := fun e w' => e = .returned (.int .i64 ((small (numR x1.data.toList) : Nat) : Int)) ∧ Below W.heap.size W w') (fun e w' ⟨h, hw⟩ => ⟨h, by rw [← hw]; exact Below.refl _ _⟩))
  have S2 := Lib.hid (fun W => (small_any (numR x2.data.toList) W (by omega)).mono (R' := fun e w' => e = .returned (.int .i64 ((small (numR x2.data.toList) : Nat) : Int)) ∧ Below W.heap.size W w') (fun e w' ⟨h, hw⟩ => ⟨h, by rw [← hw]; exact Below.refl _ _⟩))
  rw [hr1] at S1
  rw [ht1] at S2
  generalize numR x1.data.toList = n1 at N1 S1 b01
  generalize numR x2.data.toList = n2 at N2 S2 b02
  have hwu1 : IntKind.u64.wrap (n1 : Int) = (n1 : Int) := by rw [IntKind.wrap_u64]; omega
  have hwu2 : IntKind.u64.wrap (n2 : Int) = (n2 : Int) := by rw [IntKind.wrap_u64]; omega
  clear hx0 hx1 hx2 hr1 ht1 b01 b02 hlen
  go_upto_region 4 with fail
  go_cut [5] from 33 (fun s5 wx => ∃ D, s5 = .pointer (some ⟨D, 0, none⟩) ∧ Hid (Whole wx D 24 #[.string x0, .int .i64 (r1 : Int), .int .i64 (t1 : Int), .slice none 0 0] ∧ Below w1.heap.size w1 wx ∧ w1.heap.size ≤ D))
  case first =>
    have hGl : G < w1.heap.size := lt_cell SA.out.1
    have h0n : 0 < m := by omega
    have h0m : (0 : Int) < (m : Int) := by omega
    have h1n : 1 < m := by omega
    have h2n : 2 < m := by omega
    have h1m : (1 : Int) < (m : Int) := by omega
    have h2m : (2 : Int) < (m : Int) := by omega
    refine wp_region_held_drew (S := fun wx => wx.cell? ⟨G, 0, none⟩ = some (.string x0) ∧ wx.cell? ⟨G, 1, none⟩ = some (.string x1) ∧ wx.cell? ⟨G, 2, none⟩ = some (.string x2) ∧ Below w1.heap.size w1 wx) (by kernel_rfl) SA.out (fun hHeld => ?_)
    refine wpAnyH_take (i := 0) (v := ?_) rfl (by kernel_rfl) (by kernel_rfl) (by kernel_rfl) (fun _ _ _ h => h) (Or.inl ⟨by rfl, ?_⟩) (by assumption) ?_
    rotate_left
    · intro w hSw
      go_simp
      try with_reducible rfl
    simp only [Act.put, List.getElem_toArray, List.getElem_cons_zero, List.setIfInBounds_toArray, List.set_cons_zero, List.set_cons_succ]
    refine wpAnyH_take (i := 1) (v := ?_) rfl (by kernel_rfl) (by kernel_rfl) (by kernel_rfl) (fun _ _ _ h => h) (Or.inl ⟨by rfl, ?_⟩) (by assumption) ?_
    rotate_left
    · intro w hSw
      go_simp
      try with_reducible rfl
    simp only [Act.put, List.getElem_toArray, List.getElem_cons_succ, List.getElem_cons_zero, List.setIfInBounds_toArray, List.set_cons_zero, List.set_cons_succ]
    refine wpAnyH_take (i := 2) (v := ?_) rfl (by kernel_rfl) (by kernel_rfl) (by kernel_rfl) (fun _ _ _ h => h) (Or.inl ⟨by rfl, ?_⟩) (by assumption) ?_
    rotate_left
    · intro w hSw
      go_simp
      try with_reducible rfl
    simp only [Act.put, List.getElem_toArray, List.getElem_cons_succ, List.getElem_cons_zero, List.setIfInBounds_toArray, List.set_cons_zero, List.set_cons_succ]
    refine wpAnyH_take (i := 3) (v := ?_) rfl (by kernel_rfl) (by kernel_rfl) (by kernel_rfl) (fun _ _ _ h => h) (Or.inl ⟨by rfl, ?_⟩) (by assumption) ?_
    rotate_left
    · intro w hSw
      go_simp
      try with_reducible rfl
    simp only [Act.put, List.getElem_toArray, List.getElem_cons_succ, List.getElem_cons_zero, List.setIfInBounds_toArray, List.set_cons_zero, List.set_cons_succ]
    refine wpAnyH_take (i := 4) (v := ?_) rfl (by kernel_rfl) (by kernel_rfl) (by kernel_rfl) (fun _ _ _ h => h) (Or.inl ⟨by rfl, ?_⟩) (by assumption) ?_
    rotate_left
    · intro w hSw
      go_simp
      try with_reducible rfl
    simp only [Act.put, List.getElem_toArray, List.getElem_cons_succ, List.getElem_cons_zero, List.setIfInBounds_toArray, List.set_cons_zero, List.set_cons_succ]
    refine wpAnyH_take (i := 5) (v := ?_) rfl (by kernel_rfl) (by kernel_rfl) (by kernel_rfl) (fun _ _ _ h => h) (Or.inl ⟨by rfl, ?_⟩) (by assumption) ?_
    rotate_left
    · intro w hSw
      go_simp
      try with_reducible rfl
    simp only [Act.put, List.getElem_toArray, List.getElem_cons_succ, List.getElem_cons_zero, List.setIfInBounds_toArray, List.set_cons_zero, List.set_cons_succ]
    refine wpAnyH_take (i := 9) (v := ?_) rfl (by kernel_rfl) (by kernel_rfl) (by kernel_rfl) (fun _ _ _ h => h) (Or.inl ⟨by rfl, ?_⟩) (by assumption) ?_
    rotate_left
    · intro w hSw
      go_simp
      try with_reducible rfl
    simp only [Act.put, List.getElem_toArray, List.getElem_cons_succ, List.getElem_cons_zero, List.setIfInBounds_toArray, List.set_cons_zero, List.set_cons_succ]
    refine wpAnyH_take (i := 10) (v := ?_) rfl (by kernel_rfl) (by kernel_rfl) (by kernel_rfl) (fun _ _ _ h => h) (Or.inl ⟨by rfl, ?_⟩) (by assumption) ?_
    rotate_left
    · intro w hSw
      go_simp
      try with_reducible rfl
    simp only [Act.put, List.getElem_toArray, List.getElem_cons_succ, List.getElem_cons_zero, List.setIfInBounds_toArray, List.set_cons_zero, List.set_cons_succ]
    refine wpAnyH_take (i := 11) (v := ?_) rfl (by kernel_rfl) (by kernel_rfl) (by kernel_rfl) (fun _ _ _ h => h) (Or.inl ⟨by rfl, ?_⟩) (by assumption) ?_
    rotate_left
    · intro w hSw
      go_simp
      try with_reducible rfl
    simp only [Act.put, List.getElem_toArray, List.getElem_cons_succ, List.getElem_cons_zero, List.setIfInBounds_toArray, List.set_cons_zero, List.set_cons_succ]
    refine wpAnyH_ready (rs := [6, 16]) (by kernel_rfl) (by simp) ?_
    refine AllReadyH.cons rfl (fun K hK => ?_) (AllReadyH.cons rfl (fun K hK => ?_) AllReadyH.nil)
    · go_simp
      refine (N1.out _).mono ?_
      rintro e wa ⟨rfl, hb⟩
      try go_simp
      refine hK.out _ _ ?_ (fun hHeld' => ?_)
      · exact ⟨bcell hHeld.1 hb, bcell hHeld.2.1 hb, bcell hHeld.2.2.1 hb, hHeld.2.2.2.trans (hb.mono hHeld.2.2.2.size)⟩
      clear hK K hHeld
      have hHeld := hHeld'
      clear hHeld'
      try simp only [Act.put, List.getElem_toArray, List.getElem_cons_succ, List.getElem_cons_zero, List.setIfInBounds_toArray, List.set_cons_zero, List.set_cons_succ]
      clear hb
      refine wpAnyH_take (i := 7) (v := ?_) rfl (by kernel_rfl) (by kernel_rfl) (by kernel_rfl) (fun _ _ _ h => h) (Or.inl ⟨by rfl, ?_⟩) (by assumption) ?_
      rotate_left
      · intro w hSw
        go_simp
        try with_reducible rfl
      simp only [Act.put, List.getElem_toArray, List.getElem_cons_succ, List.getElem_cons_zero, List.setIfInBounds_toArray, List.set_cons_zero, List.set_cons_succ]
      refine wpAnyH_ready (rs := [8, 16]) (by kernel_rfl) (by simp) ?_
      refine AllReadyH.cons rfl (fun K hK => ?_) (AllReadyH.cons rfl (fun K hK => ?_) AllReadyH.nil)
      · go_simp
        refine (S1.out _).mono ?_
        rintro e wb ⟨rfl, hb⟩
        try go_simp
        refine hK.out _ _ ?_ (fun hHeld' => ?_)
        · exact ⟨bcell hHeld.1 hb, bcell hHeld.2.1 hb, bcell hHeld.2.2.1 hb, hHeld.2.2.2.trans (hb.mono hHeld.2.2.2.size)⟩
        clear hK K hHeld
        have hHeld := hHeld'
        clear hHeld'
        try simp only [Act.put, List.getElem_toArray, List.getElem_cons_succ, List.getElem_cons_zero, List.setIfInBounds_toArray, List.set_cons_zero, List.set_cons_succ]
        clear hb
        refine wpAnyH_ready (rs := [12, 16]) (by kernel_rfl) (by simp) ?_
        refine AllReadyH.cons rfl (fun K hK => ?_) (AllReadyH.cons rfl (fun K hK => ?_) AllReadyH.nil)
        · go_simp
          refine (N2.out _).mono ?_
          rintro e wc ⟨rfl, hb⟩
          try go_simp
          refine hK.out _ _ ?_ (fun hHeld' => ?_)
          · exact ⟨bcell hHeld.1 hb, bcell hHeld.2.1 hb, bcell hHeld.2.2.1 hb, hHeld.2.2.2.trans (hb.mono hHeld.2.2.2.size)⟩
          clear hK K hHeld
          have hHeld := hHeld'
          clear hHeld'
          try simp only [Act.put, List.getElem_toArray, List.getElem_cons_succ, List.getElem_cons_zero, List.setIfInBounds_toArray, List.set_cons_zero, List.set_cons_succ]
          clear hb
          refine wpAnyH_take (i := 13) (v := ?_) rfl (by kernel_rfl) (by kernel_rfl) (by kernel_rfl) (fun _ _ _ h => h) (Or.inl ⟨by rfl, ?_⟩) (by assumption) ?_
          rotate_left
          · intro w hSw
            go_simp
            try with_reducible rfl
          simp only [Act.put, List.getElem_toArray, List.getElem_cons_succ, List.getElem_cons_zero, List.setIfInBounds_toArray, List.set_cons_zero, List.set_cons_succ]
          refine wpAnyH_ready (rs := [14, 16]) (by kernel_rfl) (by simp) ?_
          refine AllReadyH.cons rfl (fun K hK => ?_) (AllReadyH.cons rfl (fun K hK => ?_) AllReadyH.nil)
          · go_simp
            refine (S2.out _).mono ?_
            rintro e wd ⟨rfl, hb⟩
            try go_simp
            refine hK.out _ _ ?_ (fun hHeld' => ?_)
            · exact ⟨bcell hHeld.1 hb, bcell hHeld.2.1 hb, bcell hHeld.2.2.1 hb, hHeld.2.2.2.trans (hb.mono hHeld.2.2.2.size)⟩
            clear hK K hHeld
            have hHeld := hHeld'
            clear hHeld'
            try simp only [Act.put, List.getElem_toArray, List.getElem_cons_succ, List.getElem_cons_zero, List.setIfInBounds_toArray, List.set_cons_zero, List.set_cons_succ]
            clear hb
            refine wpAnyH_take (i := 15) (v := ?_) rfl (by kernel_rfl) (by kernel_rfl) (by kernel_rfl) (fun _ _ _ h => h) (Or.inl ⟨by rfl, ?_⟩) (by assumption) ?_
            rotate_left
            · intro w hSw
              go_simp
              try with_reducible rfl
            simp only [Act.put, List.getElem_toArray, List.getElem_cons_succ, List.getElem_cons_zero, List.setIfInBounds_toArray, List.set_cons_zero, List.set_cons_succ]
            have h7 := Lib.hid hHeld
            have h3 := hHeld.2.2.2.size
            refine wpAnyH_ready (rs := [16]) (by kernel_rfl) (by simp) ?_
            refine AllReadyH.cons rfl (fun K hK => ?_) AllReadyH.nil
            go_simp
            refine hK.out _ _ ?_ (fun hHeld' => ?_)
            · exact ⟨acell _ hHeld.1, acell _ hHeld.2.1, acell _ hHeld.2.2.1, hHeld.2.2.2.alloc hHeld.2.2.2.size _⟩
            clear hK K hHeld
            have hHeld := hHeld'
            clear hHeld'
            try simp only [Act.put, List.getElem_toArray, List.getElem_cons_succ, List.getElem_cons_zero, List.setIfInBounds_toArray, List.set_cons_zero, List.set_cons_succ]
            refine wpAnyH_ready (rs := [17]) (by kernel_rfl) (by simp) ?_
            refine AllReadyH.cons rfl (fun K hK => ?_) AllReadyH.nil
            go_simp
            refine hK.out _ _ ?_ (fun hHeld' => ?_)
            · exact ⟨acell _ h7.out.1, acell _ h7.out.2.1, acell _ h7.out.2.2.1, h7.out.2.2.2.alloc h7.out.2.2.2.size _⟩
            clear hK K hHeld
            have hHeld := hHeld'
            clear hHeld'
            try simp only [Act.put, List.getElem_toArray, List.getElem_cons_succ, List.getElem_cons_zero, List.setIfInBounds_toArray, List.set_cons_zero, List.set_cons_succ]
            refine wpAnyH_done (by kernel_rfl) ?_ _
            have HF := Lib.hid (And.intro (Whole.new wd 24 #[.string x0, .int .i64 (r1 : Int), .int .i64 (t1 : Int), .slice none 0 0]) (And.intro (h7.out.2.2.2.alloc h7.out.2.2.2.size (.cells #[.string x0, .int .i64 (r1 : Int), .int .i64 (t1 : Int), .slice none 0 0] 24)) h3))
            clear hHeld SA h7
            go_wp2_with fail
            go_meet
            case rel => exact ⟨_, rfl, HF⟩
          · have hN := Whole.new wc 24 #[.string ⟨#[]⟩, .int .i64 0, .int .i64 0, .slice none 0 0]
            have h3 := hHeld.2.2.2.size
            go_simp
            refine hK.out _ _ ?_ (fun hHeld' => ?_)
            · exact ⟨acell _ hHeld.1, acell _ hHeld.2.1, acell _ hHeld.2.2.1, hHeld.2.2.2.alloc hHeld.2.2.2.size _⟩
            clear hK K hHeld
            have hHeld := hHeld'
            clear hHeld'
            try simp only [Act.put, List.getElem_toArray, List.getElem_cons_succ, List.getElem_cons_zero, List.setIfInBounds_toArray, List.set_cons_zero, List.set_cons_succ]
            refine wpAnyH_ready (rs := [14]) (by kernel_rfl) (by simp) ?_
            refine AllReadyH.cons rfl (fun K hK => ?_) AllReadyH.nil
            go_simp
            refine (S2.out _).mono ?_
            rintro e wd ⟨rfl, hb⟩
            try go_simp
            refine hK.out _ _ ?_ (fun hHeld' => ?_)
            · exact ⟨bcell hHeld.1 hb, bcell hHeld.2.1 hb, bcell hHeld.2.2.1 hb, hHeld.2.2.2.trans (hb.mono hHeld.2.2.2.size)⟩
            clear hK K hHeld
            have hHeld := hHeld'
            clear hHeld'
            try simp only [Act.put, List.getElem_toArray, List.getElem_cons_succ, List.getElem_cons_zero, List.setIfInBounds_toArray, List.set_cons_zero, List.set_cons_succ]
            have hN := hN.keep hb
            clear hb
            refine wpAnyH_take (i := 15) (v := ?_) rfl (by kernel_rfl) (by kernel_rfl) (by kernel_rfl) (fun _ _ _ h => h) (Or.inl ⟨by rfl, ?_⟩) (by assumption) ?_
            rotate_left
            · intro w hSw
              go_simp
              try with_reducible rfl
            simp only [Act.put, List.getElem_toArray, List.getElem_cons_succ, List.getElem_cons_zero, List.setIfInBounds_toArray, List.set_cons_zero, List.set_cons_succ]
            obtain ⟨⟨n0, n1', n2', n3⟩, g0, g1, g2, g3⟩ := whole4 hN
            have h7 := Lib.hid hHeld
            refine wpAnyH_ready (rs := [17]) (by kernel_rfl) (by simp) ?_
            refine AllReadyH.cons rfl (fun K hK => ?_) AllReadyH.nil
            go_simp
            refine hK.out _ _ ?_ (fun hHeld' => ?_)
            · exact ⟨gcell hHeld.1 (put4_grown _ _ _ _ _ _) (by simp; omega), gcell hHeld.2.1 (put4_grown _ _ _ _ _ _) (by simp; omega), gcell hHeld.2.2.1 (put4_grown _ _ _ _ _ _) (by simp; omega), hHeld.2.2.2.grown (put4_grown _ _ _ _ _ _) hHeld.2.2.2.size (fun k e => by cases e; omega)⟩
            clear hK K hHeld
            have hHeld := hHeld'
            clear hHeld'
            try simp only [Act.put, List.getElem_toArray, List.getElem_cons_succ, List.getElem_cons_zero, List.setIfInBounds_toArray, List.set_cons_zero, List.set_cons_succ]
            refine wpAnyH_done (by kernel_rfl) ?_ _
            have HF := Lib.hid (And.intro (whole_put4 hN (.string x0) (.int .i64 (r1 : Int)) (.int .i64 (t1 : Int)) (.slice none 0 0)) (And.intro hHeld.2.2.2 h3))
            clear hHeld SA h7
            go_wp2_with fail
            go_meet
            case rel => exact ⟨_, rfl, HF⟩
        · have hN := Whole.new wb 24 #[.string ⟨#[]⟩, .int .i64 0, .int .i64 0, .slice none 0 0]
          have h3 := hHeld.2.2.2.size
          go_simp
          refine hK.out _ _ ?_ (fun hHeld' => ?_)
          · exact ⟨acell _ hHeld.1, acell _ hHeld.2.1, acell _ hHeld.2.2.1, hHeld.2.2.2.alloc hHeld.2.2.2.size _⟩
          clear hK K hHeld
          have hHeld := hHeld'
          clear hHeld'
          try simp only [Act.put, List.getElem_toArray, List.getElem_cons_succ, List.getElem_cons_zero, List.setIfInBounds_toArray, List.set_cons_zero, List.set_cons_succ]
          refine wpAnyH_ready (rs := [12]) (by kernel_rfl) (by simp) ?_
          refine AllReadyH.cons rfl (fun K hK => ?_) AllReadyH.nil
          go_simp
          refine (N2.out _).mono ?_
          rintro e wc ⟨rfl, hb⟩
          try go_simp
          refine hK.out _ _ ?_ (fun hHeld' => ?_)
          · exact ⟨bcell hHeld.1 hb, bcell hHeld.2.1 hb, bcell hHeld.2.2.1 hb, hHeld.2.2.2.trans (hb.mono hHeld.2.2.2.size)⟩
          clear hK K hHeld
          have hHeld := hHeld'
          clear hHeld'
          try simp only [Act.put, List.getElem_toArray, List.getElem_cons_succ, List.getElem_cons_zero, List.setIfInBounds_toArray, List.set_cons_zero, List.set_cons_succ]
          have hN := hN.keep hb
          clear hb
          refine wpAnyH_take (i := 13) (v := ?_) rfl (by kernel_rfl) (by kernel_rfl) (by kernel_rfl) (fun _ _ _ h => h) (Or.inl ⟨by rfl, ?_⟩) (by assumption) ?_
          rotate_left
          · intro w hSw
            go_simp
            try with_reducible rfl
          simp only [Act.put, List.getElem_toArray, List.getElem_cons_succ, List.getElem_cons_zero, List.setIfInBounds_toArray, List.set_cons_zero, List.set_cons_succ]
          refine wpAnyH_ready (rs := [14]) (by kernel_rfl) (by simp) ?_
          refine AllReadyH.cons rfl (fun K hK => ?_) AllReadyH.nil
          go_simp
          refine (S2.out _).mono ?_
          rintro e wd ⟨rfl, hb⟩
          try go_simp
          refine hK.out _ _ ?_ (fun hHeld' => ?_)
          · exact ⟨bcell hHeld.1 hb, bcell hHeld.2.1 hb, bcell hHeld.2.2.1 hb, hHeld.2.2.2.trans (hb.mono hHeld.2.2.2.size)⟩
          clear hK K hHeld
          have hHeld := hHeld'
          clear hHeld'
          try simp only [Act.put, List.getElem_toArray, List.getElem_cons_succ, List.getElem_cons_zero, List.setIfInBounds_toArray, List.set_cons_zero, List.set_cons_succ]
          have hN := hN.keep hb
          clear hb
          refine wpAnyH_take (i := 15) (v := ?_) rfl (by kernel_rfl) (by kernel_rfl) (by kernel_rfl) (fun _ _ _ h => h) (Or.inl ⟨by rfl, ?_⟩) (by assumption) ?_
          rotate_left
          · intro w hSw
            go_simp
            try with_reducible rfl
          simp only [Act.put, List.getElem_toArray, List.getElem_cons_succ, List.getElem_cons_zero, List.setIfInBounds_toArray, List.set_cons_zero, List.set_cons_succ]
          obtain ⟨⟨n0, n1', n2', n3⟩, g0, g1, g2, g3⟩ := whole4 hN
          have h7 := Lib.hid hHeld
          refine wpAnyH_ready (rs := [17]) (by kernel_rfl) (by simp) ?_
          refine AllReadyH.cons rfl (fun K hK => ?_) AllReadyH.nil
          go_simp
          refine hK.out _ _ ?_ (fun hHeld' => ?_)
          · exact ⟨gcell hHeld.1 (put4_grown _ _ _ _ _ _) (by simp; omega), gcell hHeld.2.1 (put4_grown _ _ _ _ _ _) (by simp; omega), gcell hHeld.2.2.1 (put4_grown _ _ _ _ _ _) (by simp; omega), hHeld.2.2.2.grown (put4_grown _ _ _ _ _ _) hHeld.2.2.2.size (fun k e => by cases e; omega)⟩
          clear hK K hHeld
          have hHeld := hHeld'
          clear hHeld'
          try simp only [Act.put, List.getElem_toArray, List.getElem_cons_succ, List.getElem_cons_zero, List.setIfInBounds_toArray, List.set_cons_zero, List.set_cons_succ]
          refine wpAnyH_done (by kernel_rfl) ?_ _
          have HF := Lib.hid (And.intro (whole_put4 hN (.string x0) (.int .i64 (r1 : Int)) (.int .i64 (t1 : Int)) (.slice none 0 0)) (And.intro hHeld.2.2.2 h3))
          clear hHeld SA h7
          go_wp2_with fail
          go_meet
          case rel => exact ⟨_, rfl, HF⟩
      · have hN := Whole.new wa 24 #[.string ⟨#[]⟩, .int .i64 0, .int .i64 0, .slice none 0 0]
        have h3 := hHeld.2.2.2.size
        go_simp
        refine hK.out _ _ ?_ (fun hHeld' => ?_)
        · exact ⟨acell _ hHeld.1, acell _ hHeld.2.1, acell _ hHeld.2.2.1, hHeld.2.2.2.alloc hHeld.2.2.2.size _⟩
        clear hK K hHeld
        have hHeld := hHeld'
        clear hHeld'
        try simp only [Act.put, List.getElem_toArray, List.getElem_cons_succ, List.getElem_cons_zero, List.setIfInBounds_toArray, List.set_cons_zero, List.set_cons_succ]
        refine wpAnyH_ready (rs := [8]) (by kernel_rfl) (by simp) ?_
        refine AllReadyH.cons rfl (fun K hK => ?_) AllReadyH.nil
        go_simp
        refine (S1.out _).mono ?_
        rintro e wb ⟨rfl, hb⟩
        try go_simp
        refine hK.out _ _ ?_ (fun hHeld' => ?_)
        · exact ⟨bcell hHeld.1 hb, bcell hHeld.2.1 hb, bcell hHeld.2.2.1 hb, hHeld.2.2.2.trans (hb.mono hHeld.2.2.2.size)⟩
        clear hK K hHeld
        have hHeld := hHeld'
        clear hHeld'
        try simp only [Act.put, List.getElem_toArray, List.getElem_cons_succ, List.getElem_cons_zero, List.setIfInBounds_toArray, List.set_cons_zero, List.set_cons_succ]
        have hN := hN.keep hb
        clear hb
        refine wpAnyH_ready (rs := [12]) (by kernel_rfl) (by simp) ?_
        refine AllReadyH.cons rfl (fun K hK => ?_) AllReadyH.nil
        go_simp
        refine (N2.out _).mono ?_
        rintro e wc ⟨rfl, hb⟩
        try go_simp
        refine hK.out _ _ ?_ (fun hHeld' => ?_)
        · exact ⟨bcell hHeld.1 hb, bcell hHeld.2.1 hb, bcell hHeld.2.2.1 hb, hHeld.2.2.2.trans (hb.mono hHeld.2.2.2.size)⟩
        clear hK K hHeld
        have hHeld := hHeld'
        clear hHeld'
        try simp only [Act.put, List.getElem_toArray, List.getElem_cons_succ, List.getElem_cons_zero, List.setIfInBounds_toArray, List.set_cons_zero, List.set_cons_succ]
        have hN := hN.keep hb
        clear hb
        refine wpAnyH_take (i := 13) (v := ?_) rfl (by kernel_rfl) (by kernel_rfl) (by kernel_rfl) (fun _ _ _ h => h) (Or.inl ⟨by rfl, ?_⟩) (by assumption) ?_
        rotate_left
        · intro w hSw
          go_simp
          try with_reducible rfl
        simp only [Act.put, List.getElem_toArray, List.getElem_cons_succ, List.getElem_cons_zero, List.setIfInBounds_toArray, List.set_cons_zero, List.set_cons_succ]
        refine wpAnyH_ready (rs := [14]) (by kernel_rfl) (by simp) ?_
        refine AllReadyH.cons rfl (fun K hK => ?_) AllReadyH.nil
        go_simp
        refine (S2.out _).mono ?_
        rintro e wd ⟨rfl, hb⟩
        try go_simp
        refine hK.out _ _ ?_ (fun hHeld' => ?_)
        · exact ⟨bcell hHeld.1 hb, bcell hHeld.2.1 hb, bcell hHeld.2.2.1 hb, hHeld.2.2.2.trans (hb.mono hHeld.2.2.2.size)⟩
        clear hK K hHeld
        have hHeld := hHeld'
        clear hHeld'
        try simp only [Act.put, List.getElem_toArray, List.getElem_cons_succ, List.getElem_cons_zero, List.setIfInBounds_toArray, List.set_cons_zero, List.set_cons_succ]
        have hN := hN.keep hb
        clear hb
        refine wpAnyH_take (i := 15) (v := ?_) rfl (by kernel_rfl) (by kernel_rfl) (by kernel_rfl) (fun _ _ _ h => h) (Or.inl ⟨by rfl, ?_⟩) (by assumption) ?_
        rotate_left
        · intro w hSw
          go_simp
          try with_reducible rfl
        simp only [Act.put, List.getElem_toArray, List.getElem_cons_succ, List.getElem_cons_zero, List.setIfInBounds_toArray, List.set_cons_zero, List.set_cons_succ]
        obtain ⟨⟨n0, n1', n2', n3⟩, g0, g1, g2, g3⟩ := whole4 hN
        have h7 := Lib.hid hHeld
        refine wpAnyH_ready (rs := [17]) (by kernel_rfl) (by simp) ?_
        refine AllReadyH.cons rfl (fun K hK => ?_) AllReadyH.nil
        go_simp
        refine hK.out _ _ ?_ (fun hHeld' => ?_)
        · exact ⟨gcell hHeld.1 (put4_grown _ _ _ _ _ _) (by simp; omega), gcell hHeld.2.1 (put4_grown _ _ _ _ _ _) (by simp; omega), gcell hHeld.2.2.1 (put4_grown _ _ _ _ _ _) (by simp; omega), hHeld.2.2.2.grown (put4_grown _ _ _ _ _ _) hHeld.2.2.2.size (fun k e => by cases e; omega)⟩
        clear hK K hHeld
        have hHeld := hHeld'
        clear hHeld'
        try simp only [Act.put, List.getElem_toArray, List.getElem_cons_succ, List.getElem_cons_zero, List.setIfInBounds_toArray, List.set_cons_zero, List.set_cons_succ]
        refine wpAnyH_done (by kernel_rfl) ?_ _
        have HF := Lib.hid (And.intro (whole_put4 hN (.string x0) (.int .i64 (r1 : Int)) (.int .i64 (t1 : Int)) (.slice none 0 0)) (And.intro hHeld.2.2.2 h3))
        clear hHeld SA h7
        go_wp2_with fail
        go_meet
        case rel => exact ⟨_, rfl, HF⟩
    · have hN : Whole (w1.drew.alloc (.cells #[.string ⟨#[]⟩, .int .i64 0, .int .i64 0, .slice none 0 0] 24)) w1.heap.size 24 #[.string ⟨#[]⟩, .int .i64 0, .int .i64 0, .slice none 0 0] := Whole.new w1.drew _ _
      have h3 : w1.heap.size ≤ w1.heap.size := Nat.le_refl _
      go_simp
      refine hK.out _ _ ?_ (fun hHeld' => ?_)
      · exact ⟨acell _ hHeld.1, acell _ hHeld.2.1, acell _ hHeld.2.2.1, hHeld.2.2.2.alloc hHeld.2.2.2.size _⟩
      clear hK K hHeld
      have hHeld := hHeld'
      clear hHeld'
      try simp only [Act.put, List.getElem_toArray, List.getElem_cons_succ, List.getElem_cons_zero, List.setIfInBounds_toArray, List.set_cons_zero, List.set_cons_succ]
      refine wpAnyH_ready (rs := [6]) (by kernel_rfl) (by simp) ?_
      refine AllReadyH.cons rfl (fun K hK => ?_) AllReadyH.nil
      go_simp
      refine (N1.out _).mono ?_
      rintro e wa ⟨rfl, hb⟩
      try go_simp
      refine hK.out _ _ ?_ (fun hHeld' => ?_)
      · exact ⟨bcell hHeld.1 hb, bcell hHeld.2.1 hb, bcell hHeld.2.2.1 hb, hHeld.2.2.2.trans (hb.mono hHeld.2.2.2.size)⟩
      clear hK K hHeld
      have hHeld := hHeld'
      clear hHeld'
      try simp only [Act.put, List.getElem_toArray, List.getElem_cons_succ, List.getElem_cons_zero, List.setIfInBounds_toArray, List.set_cons_zero, List.set_cons_succ]
      have hN := hN.keep hb
      clear hb
      refine wpAnyH_take (i := 7) (v := ?_) rfl (by kernel_rfl) (by kernel_rfl) (by kernel_rfl) (fun _ _ _ h => h) (Or.inl ⟨by rfl, ?_⟩) (by assumption) ?_
      rotate_left
      · intro w hSw
        go_simp
        try with_reducible rfl
      simp only [Act.put, List.getElem_toArray, List.getElem_cons_succ, List.getElem_cons_zero, List.setIfInBounds_toArray, List.set_cons_zero, List.set_cons_succ]
      refine wpAnyH_ready (rs := [8]) (by kernel_rfl) (by simp) ?_
      refine AllReadyH.cons rfl (fun K hK => ?_) AllReadyH.nil
      go_simp
      refine (S1.out _).mono ?_
      rintro e wb ⟨rfl, hb⟩
      try go_simp
      refine hK.out _ _ ?_ (fun hHeld' => ?_)
      · exact ⟨bcell hHeld.1 hb, bcell hHeld.2.1 hb, bcell hHeld.2.2.1 hb, hHeld.2.2.2.trans (hb.mono hHeld.2.2.2.size)⟩
      clear hK K hHeld
      have hHeld := hHeld'
      clear hHeld'
      try simp only [Act.put, List.getElem_toArray, List.getElem_cons_succ, List.getElem_cons_zero, List.setIfInBounds_toArray, List.set_cons_zero, List.set_cons_succ]
      have hN := hN.keep hb
      clear hb
      refine wpAnyH_ready (rs := [12]) (by kernel_rfl) (by simp) ?_
      refine AllReadyH.cons rfl (fun K hK => ?_) AllReadyH.nil
      go_simp
      refine (N2.out _).mono ?_
      rintro e wc ⟨rfl, hb⟩
      try go_simp
      refine hK.out _ _ ?_ (fun hHeld' => ?_)
      · exact ⟨bcell hHeld.1 hb, bcell hHeld.2.1 hb, bcell hHeld.2.2.1 hb, hHeld.2.2.2.trans (hb.mono hHeld.2.2.2.size)⟩
      clear hK K hHeld
      have hHeld := hHeld'
      clear hHeld'
      try simp only [Act.put, List.getElem_toArray, List.getElem_cons_succ, List.getElem_cons_zero, List.setIfInBounds_toArray, List.set_cons_zero, List.set_cons_succ]
      have hN := hN.keep hb
      clear hb
      refine wpAnyH_take (i := 13) (v := ?_) rfl (by kernel_rfl) (by kernel_rfl) (by kernel_rfl) (fun _ _ _ h => h) (Or.inl ⟨by rfl, ?_⟩) (by assumption) ?_
      rotate_left
      · intro w hSw
        go_simp
        try with_reducible rfl
      simp only [Act.put, List.getElem_toArray, List.getElem_cons_succ, List.getElem_cons_zero, List.setIfInBounds_toArray, List.set_cons_zero, List.set_cons_succ]
      refine wpAnyH_ready (rs := [14]) (by kernel_rfl) (by simp) ?_
      refine AllReadyH.cons rfl (fun K hK => ?_) AllReadyH.nil
      go_simp
      refine (S2.out _).mono ?_
      rintro e wd ⟨rfl, hb⟩
      try go_simp
      refine hK.out _ _ ?_ (fun hHeld' => ?_)
      · exact ⟨bcell hHeld.1 hb, bcell hHeld.2.1 hb, bcell hHeld.2.2.1 hb, hHeld.2.2.2.trans (hb.mono hHeld.2.2.2.size)⟩
      clear hK K hHeld
      have hHeld := hHeld'
      clear hHeld'
      try simp only [Act.put, List.getElem_toArray, List.getElem_cons_succ, List.getElem_cons_zero, List.setIfInBounds_toArray, List.set_cons_zero, List.set_cons_succ]
      have hN := hN.keep hb
      clear hb
      refine wpAnyH_take (i := 15) (v := ?_) rfl (by kernel_rfl) (by kernel_rfl) (by kernel_rfl) (fun _ _ _ h => h) (Or.inl ⟨by rfl, ?_⟩) (by assumption) ?_
      rotate_left
      · intro w hSw
        go_simp
        try with_reducible rfl
      simp only [Act.put, List.getElem_toArray, List.getElem_cons_succ, List.getElem_cons_zero, List.setIfInBounds_toArray, List.set_cons_zero, List.set_cons_succ]
      obtain ⟨⟨n0, n1', n2', n3⟩, g0, g1, g2, g3⟩ := whole4 hN
      have h7 := Lib.hid hHeld
      refine wpAnyH_ready (rs := [17]) (by kernel_rfl) (by simp) ?_
      refine AllReadyH.cons rfl (fun K hK => ?_) AllReadyH.nil
      go_simp
      refine hK.out _ _ ?_ (fun hHeld' => ?_)
      · exact ⟨gcell hHeld.1 (put4_grown _ _ _ _ _ _) (by simp; omega), gcell hHeld.2.1 (put4_grown _ _ _ _ _ _) (by simp; omega), gcell hHeld.2.2.1 (put4_grown _ _ _ _ _ _) (by simp; omega), hHeld.2.2.2.grown (put4_grown _ _ _ _ _ _) hHeld.2.2.2.size (fun k e => by cases e; omega)⟩
      clear hK K hHeld
      have hHeld := hHeld'
      clear hHeld'
      try simp only [Act.put, List.getElem_toArray, List.getElem_cons_succ, List.getElem_cons_zero, List.setIfInBounds_toArray, List.set_cons_zero, List.set_cons_succ]
      refine wpAnyH_done (by kernel_rfl) ?_ _
      have HF := Lib.hid (And.intro (whole_put4 hN (.string x0) (.int .i64 (r1 : Int)) (.int .i64 (t1 : Int)) (.slice none 0 0)) (And.intro hHeld.2.2.2 h3))
      clear hHeld SA h7
      go_wp2_with fail
      go_meet
      case rel => exact ⟨_, rfl, HF⟩
  case rest =>
    obtain ⟨D, rfl, HF⟩ := hcut
    have HG : Hid (G < w1.heap.size) := Lib.hid (lt_cell SA.out.1)
    have M0 : Hid (RpM w wc G D ws #[.string x0, .int .i64 (r1 : Int), .int .i64 (t1 : Int), .slice none 0 0]) := Lib.hid ⟨HF.out.1, R2.out.keep HF.out.2.1, BW1.out.trans (HF.out.2.1.mono BW1.out.size), Nat.lt_of_lt_of_le R2.out.lt HF.out.2.2, fun k x hx => bcell (HC.out k x hx) HF.out.2.1, Nat.lt_of_lt_of_le HG.out HF.out.2.2⟩
    clear SA N1 N2 S1 S2 hwu1 hwu2 HC HO R2 BW1 HF HG
    obtain ⟨B0, hB0⟩ : ∃ B0, B0 = wc.heap.size := ⟨_, rfl⟩
    have HDB : Hid (D < B0) := Lib.hid (by rw [hB0]; exact M0.out.d.lt)
    have J0 : Hid (RpM w wc G D ws #[.string x0, .int .i64 (r1 : Int), .int .i64 (t1 : Int), .slice none 0 0] ∧ wc.ownsRow B0 37 2 (.slice none 0 0) (3 - 3) ((((ws.drop 3).take (3 - 3)).map rS).flatMap stC) ∧ B0 ≤ wc.heap.size) := Lib.hid ⟨M0.out, ⟨rfl, Or.inl ⟨rfl, rfl⟩⟩, by rw [hB0]; exact Nat.le_refl _⟩
    clear M0 hB0
    go_wp2_with fail
    go_loopw [6] (fun iv wr => ∃ (i : Nat) (v : Value), 3 ≤ i ∧ i ≤ m ∧ iv = .int .i64 (i : Int) ∧ Hid (RpM w wr G D ws #[.string x0, .int .i64 (r1 : Int), .int .i64 (t1 : Int), v] ∧ wr.ownsRow B0 37 2 v (i - 3) ((((ws.drop 3).take (i - 3)).map rS).flatMap stC) ∧ B0 ≤ wr.heap.size)) (fun iv _ => m - (intOf iv).toNat)
    case atStart => exact ⟨3, _, by omega, by omega, rfl, J0⟩
    case round =>
      clear J0
      obtain ⟨i, v, h3, hi, rfl, HJ⟩ := hrel
      by_cases him : i < m
      · have hi0 : (0 : Int) ≤ (i : Int) := by omega
        have him' : (i : Int) < (m : Int) := by omega
        have hwi : IntKind.i64.wrap ((i : Int) + 1) = (i : Int) + 1 := IntWalk.i64_in _ (by omega)
        obtain ⟨x, hx⟩ : ∃ x, ws[i]? = some x := ⟨_, List.getElem?_eq_getElem (by rw [← HWM.out]; exact him)⟩
        have HXI := Lib.hid hx
        have hxs := HZ.out x (List.mem_of_getElem? hx)
        have cx := HJ.out.1.g i x hx
        obtain ⟨l, hl⟩ : ∃ l, l = x.data.toList := ⟨_, rfl⟩
        have HL := Lib.hid hl
        have HSL : Hid (x.size = l.length) := Lib.hid (by rw [hl, Lib.size_eq])
        clear hx hl him
        go_wp2_with fail
        go_loopw [7] (fun qv wi => ∃ q : Nat, qv = .int .i64 (q : Int) ∧ q ≤ x.size ∧ wi = wr ∧ Hid (∀ (j : Nat) c, j < q → l[j]? = some c → isSg c = false)) (fun qv _ => x.size - (intOf qv).toNat)
        case atStart => exact ⟨0, rfl, by omega, by first | rfl | trivial, Lib.hid (fun j c hj _ => absurd hj (Nat.not_lt_zero _))⟩
        case round =>
          obtain ⟨q, rfl, hq, rfl, HQ⟩ := hrel
          have hq0 : (0 : Int) ≤ (q : Int) := by omega
          have hwq : IntKind.i64.wrap ((q : Int) + 1) = (q : Int) + 1 := IntWalk.i64_in _ (by omega)
          by_cases hqs : q < x.size
          · have hqs' : (q : Int) < (x.size : Int) := by omega
            obtain ⟨ch, hch⟩ : ∃ ch : UInt8, x[q]'hqs = ch := ⟨_, rfl⟩
            have HCH := Lib.hid (show l[q]? = some ch by rw [← hch, HL.out]; exact Lib.data_getElem? x q hqs)
            by_cases hsg : isSg ch = true
            · have HCT := Lib.hid (cut_at HQ.out (Or.inr ⟨ch, HCH.out, hsg⟩))
              have HRS := Lib.hid (rS_eq (x := x) (q := q) (by rw [← HL.out]; exact HCT.out))
              have b3 := numR_le (x.extract (q + 1) x.size).data.toList
              have hqn : ((q : Int) + 1).toNat = q + 1 := by omega
              have hql : (q : Int) + 1 ≤ (x.size : Int) := by omega
              have hqe : ((q : Int) == (x.size : Int)) = false := by rw [beq_eq_false_iff_ne]; omega
              have N3 := Lib.hid (number_ref (x.extract (q + 1) x.size) wr (by rw [ByteArray.size_extract]; omega))
              rw [← HL.out, HCH.out] at HRS
              obtain ⟨n3, hn3⟩ : ∃ n3, numR (x.extract (q + 1) x.size).data.toList = n3 := ⟨_, rfl⟩
              rw [hn3] at N3 HRS b3
              have hwn : IntKind.i64.wrap (-(n3 : Int)) = -(n3 : Int) := IntWalk.i64_in _ (by omega)
              clear hn3
              by_cases h45 : ch = 45
              · subst h45
                have e43 : ((((45 : UInt8).toNat : Nat) : Int) == 43) = false := by decide
                have e45 : ((((45 : UInt8).toNat : Nat) : Int) == 45) = true := by decide
                have HNX := Lib.hid (rS_next HXI.out h3 (p := ⟨x.extract 0 q, -(n3 : Int)⟩) (by rw [HRS.out]; simp))
                clear hsg HRS
                go_upto_region 16 with (go_at_call 72; refine N3.out.mono ?_; rintro e wn ⟨rfl, rfl⟩)
                have M6 := Lib.hid (And.intro (HJ.out.1.keep (Below.refl _ _).drew) (And.intro HJ.out.2.1.drew HJ.out.2.2))
                have c6 := M6.out.1.d.cell 3
                have cx7 := M6.out.1.g i x HXI.out
                obtain ⟨c8, A', c', w8, R, c9, f9, G8, HZ⟩ := rp_pack M6.out.1 M6.out.2.1 HDB.out M6.out.2.2 (by omega) (x.extract 0 q) (-(n3 : Int))
                clear N3 M6
                refine wp_region_held_drew (S := fun wx => wx.cell? ⟨G, i, none⟩ = some (.string x)) (by kernel_rfl) cx7 (fun hHeld => ?_)
                clear cx7
                generalize wn.drew = wz at c6 c8 R HZ hHeld ⊢
                refine wpAnyH_take (i := 0) (v := ?_) rfl (by kernel_rfl) (by kernel_rfl) (by kernel_rfl) (fun _ _ _ h => h) (Or.inl ⟨by rfl, ?_⟩) (by assumption) ?_
                rotate_left
                · intro w hSw
                  go_simp
                  try with_reducible rfl
                simp only [Act.put, List.getElem_toArray, List.getElem_cons_zero, List.setIfInBounds_toArray, List.set_cons_zero, List.set_cons_succ]
                refine wpAnyH_take (i := 2) (v := ?_) rfl (by kernel_rfl) (by kernel_rfl) (by kernel_rfl) (fun _ _ _ h => h) (Or.inl ⟨by rfl, ?_⟩) (by assumption) ?_
                rotate_left
                · intro w hSw
                  go_simp
                  try with_reducible rfl
                simp only [Act.put, List.getElem_toArray, List.getElem_cons_succ, List.getElem_cons_zero, List.setIfInBounds_toArray, List.set_cons_zero, List.set_cons_succ]
                refine wpAnyH_take (i := 3) (v := ?_) rfl (by kernel_rfl) (by kernel_rfl) (by kernel_rfl) (fun _ _ _ h => h) (Or.inl ⟨by rfl, ?_⟩) (by assumption) ?_
                rotate_left
                · intro w hSw
                  go_simp
                  try with_reducible rfl
                simp only [Act.put, List.getElem_toArray, List.getElem_cons_succ, List.getElem_cons_zero, List.setIfInBounds_toArray, List.set_cons_zero, List.set_cons_succ]
                refine wpAnyH_take (i := 4) (v := ?_) rfl (by kernel_rfl) (by kernel_rfl) (by kernel_rfl) (fun _ _ _ h => h) (Or.inl ⟨by rfl, ?_⟩) (by assumption) ?_
                rotate_left
                · intro w hSw
                  go_simp
                  try with_reducible rfl
                simp only [Act.put, List.getElem_toArray, List.getElem_cons_succ, List.getElem_cons_zero, List.setIfInBounds_toArray, List.set_cons_zero, List.set_cons_succ]
                refine wpAnyH_take (i := 5) (v := ?_) rfl (by kernel_rfl) (by kernel_rfl) (by kernel_rfl) (fun _ _ _ h => h) (Or.inl ⟨by rfl, ?_⟩) (by assumption) ?_
                rotate_left
                · intro w hSw
                  go_simp
                  try with_reducible rfl
                simp only [Act.put, List.getElem_toArray, List.getElem_cons_succ, List.getElem_cons_zero, List.setIfInBounds_toArray, List.set_cons_zero, List.set_cons_succ]
                refine wpAnyH_take (i := 6) (v := ?_) rfl (by kernel_rfl) (by kernel_rfl) (by kernel_rfl) (fun _ _ _ h => h) (Or.inl ⟨by rfl, ?_⟩) (by assumption) ?_
                rotate_left
                · intro w hSw
                  go_simp
                  try with_reducible rfl
                simp only [Act.put, List.getElem_toArray, List.getElem_cons_succ, List.getElem_cons_zero, List.setIfInBounds_toArray, List.set_cons_zero, List.set_cons_succ]
                refine wpAnyH_take (i := 7) (v := ?_) rfl (by kernel_rfl) (by kernel_rfl) (by kernel_rfl) (fun _ _ _ h => h) (Or.inl ⟨by rfl, ?_⟩) (by assumption) ?_
                rotate_left
                · intro w hSw
                  go_simp
                  try with_reducible rfl
                simp only [Act.put, List.getElem_toArray, List.getElem_cons_succ, List.getElem_cons_zero, List.setIfInBounds_toArray, List.set_cons_zero, List.set_cons_succ]
                refine wpAnyH_take (i := 8) (v := ?_) rfl (by kernel_rfl) (by kernel_rfl) (by kernel_rfl) (fun _ _ _ h => h) (Or.inl ⟨by rfl, ?_⟩) (by assumption) ?_
                rotate_left
                · intro w hSw
                  go_simp
                  try with_reducible rfl
                simp only [Act.put, List.getElem_toArray, List.getElem_cons_succ, List.getElem_cons_zero, List.setIfInBounds_toArray, List.set_cons_zero, List.set_cons_succ]
                refine wpAnyH_take (i := 9) (v := ?_) rfl (by kernel_rfl) (by kernel_rfl) (by kernel_rfl) (fun _ _ _ h => h) (Or.inl ⟨by rfl, ?_⟩) (by assumption) ?_
                rotate_left
                · intro w hSw
                  go_simp
                  try with_reducible rfl
                simp only [Act.put, List.getElem_toArray, List.getElem_cons_succ, List.getElem_cons_zero, List.setIfInBounds_toArray, List.set_cons_zero, List.set_cons_succ]
                refine wpAnyH_ready (rs := [1, 10]) (by kernel_rfl) (by simp) ?_
                refine AllReadyH.cons rfl (fun K hK => ?_) (AllReadyH.cons rfl (fun K hK => ?_) AllReadyH.nil)
                · go_simp
                  refine hK.out _ _ ?_ (fun hHeld' => ?_)
                  · exact hHeld
                  clear hK K hHeld
                  have hHeld := hHeld'
                  clear hHeld'
                  try simp only [Act.put, List.getElem_toArray, List.getElem_cons_succ, List.getElem_cons_zero, List.setIfInBounds_toArray, List.set_cons_zero, List.set_cons_succ]
                  refine wpAnyH_ready (rs := [10]) (by kernel_rfl) (by simp) ?_
                  refine AllReadyH.cons rfl (fun K hK => ?_) AllReadyH.nil
                  go_simp
                  refine hK.out _ _ ?_ (fun hHeld' => ?_)
                  · exact acell _ hHeld
                  clear hK K hHeld
                  have hHeld := hHeld'
                  clear hHeld'
                  try simp only [Act.put, List.getElem_toArray, List.getElem_cons_succ, List.getElem_cons_zero, List.setIfInBounds_toArray, List.set_cons_zero, List.set_cons_succ]
                  refine wpAnyH_ready (rs := [11]) (by kernel_rfl) (by simp) ?_
                  refine AllReadyH.cons rfl (fun K hK => ?_) AllReadyH.nil
                  refine step_append_run (by rfl) (.tmp 92) (.tmp 101) 22 22 (by rfl) (by rfl) (by rfl) R.out ?_
                  refine hK.out _ _ ?_ (fun hHeld' => ?_)
                  · exact G8.out i x HXI.out
                  clear hK K hHeld
                  have hHeld := hHeld'
                  clear hHeld'
                  try simp only [Act.put, List.getElem_toArray, List.getElem_cons_succ, List.getElem_cons_zero, List.setIfInBounds_toArray, List.set_cons_zero, List.set_cons_succ]
                  refine wpAnyH_take (i := 12) (v := ?_) rfl (by kernel_rfl) (by kernel_rfl) (by kernel_rfl) (fun _ _ _ h => h) (Or.inl ⟨by rfl, ?_⟩) (by assumption) ?_
                  rotate_left
                  · intro w hSw
                    go_simp
                    try with_reducible rfl
                  simp only [Act.put, List.getElem_toArray, List.getElem_cons_succ, List.getElem_cons_zero, List.setIfInBounds_toArray, List.set_cons_zero, List.set_cons_succ]
                  refine wpAnyH_ready (rs := [13]) (by kernel_rfl) (by simp) ?_
                  refine AllReadyH.cons rfl (fun K hK => ?_) AllReadyH.nil
                  go_simp
                  refine hK.out _ _ ?_ (fun hHeld' => ?_)
                  · exact HZ.out.1.g i x HXI.out
                  clear hK K hHeld
                  have hHeld := hHeld'
                  clear hHeld'
                  try simp only [Act.put, List.getElem_toArray, List.getElem_cons_succ, List.getElem_cons_zero, List.setIfInBounds_toArray, List.set_cons_zero, List.set_cons_succ]
                  refine wpAnyH_done (by kernel_rfl) ?_ _
                  clear hHeld R c6 c8 c9 f9 G8
                  go_wp2_with fail
                  go_roundw
                  case rel => exact ⟨i + 1, _, by omega, by omega, by go_num, Lib.hid ⟨HZ.out.1, by rw [HNX.out, show i + 1 - 3 = i - 3 + 1 by omega, List.flatMap_append]; exact HZ.out.2.1, HZ.out.2.2⟩⟩
                  case measure => simp [intOf]; omega
                · go_simp
                  refine hK.out _ _ ?_ (fun hHeld' => ?_)
                  · exact acell _ hHeld
                  clear hK K hHeld
                  have hHeld := hHeld'
                  clear hHeld'
                  try simp only [Act.put, List.getElem_toArray, List.getElem_cons_succ, List.getElem_cons_zero, List.setIfInBounds_toArray, List.set_cons_zero, List.set_cons_succ]
                  refine wpAnyH_ready (rs := [1]) (by kernel_rfl) (by simp) ?_
                  refine AllReadyH.cons rfl (fun K hK => ?_) AllReadyH.nil
                  go_simp
                  refine hK.out _ _ ?_ (fun hHeld' => ?_)
                  · exact hHeld
                  clear hK K hHeld
                  have hHeld := hHeld'
                  clear hHeld'
                  try simp only [Act.put, List.getElem_toArray, List.getElem_cons_succ, List.getElem_cons_zero, List.setIfInBounds_toArray, List.set_cons_zero, List.set_cons_succ]
                  refine wpAnyH_ready (rs := [11]) (by kernel_rfl) (by simp) ?_
                  refine AllReadyH.cons rfl (fun K hK => ?_) AllReadyH.nil
                  refine step_append_run (by rfl) (.tmp 92) (.tmp 101) 22 22 (by rfl) (by rfl) (by rfl) R.out ?_
                  refine hK.out _ _ ?_ (fun hHeld' => ?_)
                  · exact G8.out i x HXI.out
                  clear hK K hHeld
                  have hHeld := hHeld'
                  clear hHeld'
                  try simp only [Act.put, List.getElem_toArray, List.getElem_cons_succ, List.getElem_cons_zero, List.setIfInBounds_toArray, List.set_cons_zero, List.set_cons_succ]
                  refine wpAnyH_take (i := 12) (v := ?_) rfl (by kernel_rfl) (by kernel_rfl) (by kernel_rfl) (fun _ _ _ h => h) (Or.inl ⟨by rfl, ?_⟩) (by assumption) ?_
                  rotate_left
                  · intro w hSw
                    go_simp
                    try with_reducible rfl
                  simp only [Act.put, List.getElem_toArray, List.getElem_cons_succ, List.getElem_cons_zero, List.setIfInBounds_toArray, List.set_cons_zero, List.set_cons_succ]
                  refine wpAnyH_ready (rs := [13]) (by kernel_rfl) (by simp) ?_
                  refine AllReadyH.cons rfl (fun K hK => ?_) AllReadyH.nil
                  go_simp
                  refine hK.out _ _ ?_ (fun hHeld' => ?_)
                  · exact HZ.out.1.g i x HXI.out
                  clear hK K hHeld
                  have hHeld := hHeld'
                  clear hHeld'
                  try simp only [Act.put, List.getElem_toArray, List.getElem_cons_succ, List.getElem_cons_zero, List.setIfInBounds_toArray, List.set_cons_zero, List.set_cons_succ]
                  refine wpAnyH_done (by kernel_rfl) ?_ _
                  clear hHeld R c6 c8 c9 f9 G8
                  go_wp2_with fail
                  go_roundw
                  case rel => exact ⟨i + 1, _, by omega, by omega, by go_num, Lib.hid ⟨HZ.out.1, by rw [HNX.out, show i + 1 - 3 = i - 3 + 1 by omega, List.flatMap_append]; exact HZ.out.2.1, HZ.out.2.2⟩⟩
                  case measure => simp [intOf]; omega
              · have h43 : ch = 43 := by unfold isSg at hsg; simp at hsg; rcases hsg with h | h; exact h; exact absurd h h45
                subst h43
                have e43 : ((((43 : UInt8).toNat : Nat) : Int) == 43) = true := by decide
                have e45 : ((((43 : UInt8).toNat : Nat) : Int) == 45) = false := by decide
                have HNX := Lib.hid (rS_next HXI.out h3 (p := ⟨x.extract 0 q, (n3 : Int)⟩) (by rw [HRS.out]; simp))
                clear hsg HRS h45
                go_upto_region 16 with (go_at_call 72; refine N3.out.mono ?_; rintro e wn ⟨rfl, rfl⟩)
                have M6 := Lib.hid (And.intro (HJ.out.1.keep (Below.refl _ _).drew) (And.intro HJ.out.2.1.drew HJ.out.2.2))
                have c6 := M6.out.1.d.cell 3
                have cx7 := M6.out.1.g i x HXI.out
                obtain ⟨c8, A', c', w8, R, c9, f9, G8, HZ⟩ := rp_pack M6.out.1 M6.out.2.1 HDB.out M6.out.2.2 (by omega) (x.extract 0 q) (n3 : Int)
                clear N3 M6
                refine wp_region_held_drew (S := fun wx => wx.cell? ⟨G, i, none⟩ = some (.string x)) (by kernel_rfl) cx7 (fun hHeld => ?_)
                clear cx7
                generalize wn.drew = wz at c6 c8 R HZ hHeld ⊢
                refine wpAnyH_take (i := 0) (v := ?_) rfl (by kernel_rfl) (by kernel_rfl) (by kernel_rfl) (fun _ _ _ h => h) (Or.inl ⟨by rfl, ?_⟩) (by assumption) ?_
                rotate_left
                · intro w hSw
                  go_simp
                  try with_reducible rfl
                simp only [Act.put, List.getElem_toArray, List.getElem_cons_zero, List.setIfInBounds_toArray, List.set_cons_zero, List.set_cons_succ]
                refine wpAnyH_take (i := 2) (v := ?_) rfl (by kernel_rfl) (by kernel_rfl) (by kernel_rfl) (fun _ _ _ h => h) (Or.inl ⟨by rfl, ?_⟩) (by assumption) ?_
                rotate_left
                · intro w hSw
                  go_simp
                  try with_reducible rfl
                simp only [Act.put, List.getElem_toArray, List.getElem_cons_succ, List.getElem_cons_zero, List.setIfInBounds_toArray, List.set_cons_zero, List.set_cons_succ]
                refine wpAnyH_take (i := 3) (v := ?_) rfl (by kernel_rfl) (by kernel_rfl) (by kernel_rfl) (fun _ _ _ h => h) (Or.inl ⟨by rfl, ?_⟩) (by assumption) ?_
                rotate_left
                · intro w hSw
                  go_simp
                  try with_reducible rfl
                simp only [Act.put, List.getElem_toArray, List.getElem_cons_succ, List.getElem_cons_zero, List.setIfInBounds_toArray, List.set_cons_zero, List.set_cons_succ]
                refine wpAnyH_take (i := 4) (v := ?_) rfl (by kernel_rfl) (by kernel_rfl) (by kernel_rfl) (fun _ _ _ h => h) (Or.inl ⟨by rfl, ?_⟩) (by assumption) ?_
                rotate_left
                · intro w hSw
                  go_simp
                  try with_reducible rfl
                simp only [Act.put, List.getElem_toArray, List.getElem_cons_succ, List.getElem_cons_zero, List.setIfInBounds_toArray, List.set_cons_zero, List.set_cons_succ]
                refine wpAnyH_take (i := 5) (v := ?_) rfl (by kernel_rfl) (by kernel_rfl) (by kernel_rfl) (fun _ _ _ h => h) (Or.inl ⟨by rfl, ?_⟩) (by assumption) ?_
                rotate_left
                · intro w hSw
                  go_simp
                  try with_reducible rfl
                simp only [Act.put, List.getElem_toArray, List.getElem_cons_succ, List.getElem_cons_zero, List.setIfInBounds_toArray, List.set_cons_zero, List.set_cons_succ]
                refine wpAnyH_take (i := 6) (v := ?_) rfl (by kernel_rfl) (by kernel_rfl) (by kernel_rfl) (fun _ _ _ h => h) (Or.inl ⟨by rfl, ?_⟩) (by assumption) ?_
                rotate_left
                · intro w hSw
                  go_simp
                  try with_reducible rfl
                simp only [Act.put, List.getElem_toArray, List.getElem_cons_succ, List.getElem_cons_zero, List.setIfInBounds_toArray, List.set_cons_zero, List.set_cons_succ]
                refine wpAnyH_take (i := 7) (v := ?_) rfl (by kernel_rfl) (by kernel_rfl) (by kernel_rfl) (fun _ _ _ h => h) (Or.inl ⟨by rfl, ?_⟩) (by assumption) ?_
                rotate_left
                · intro w hSw
                  go_simp
                  try with_reducible rfl
                simp only [Act.put, List.getElem_toArray, List.getElem_cons_succ, List.getElem_cons_zero, List.setIfInBounds_toArray, List.set_cons_zero, List.set_cons_succ]
                refine wpAnyH_take (i := 8) (v := ?_) rfl (by kernel_rfl) (by kernel_rfl) (by kernel_rfl) (fun _ _ _ h => h) (Or.inl ⟨by rfl, ?_⟩) (by assumption) ?_
                rotate_left
                · intro w hSw
                  go_simp
                  try with_reducible rfl
                simp only [Act.put, List.getElem_toArray, List.getElem_cons_succ, List.getElem_cons_zero, List.setIfInBounds_toArray, List.set_cons_zero, List.set_cons_succ]
                refine wpAnyH_take (i := 9) (v := ?_) rfl (by kernel_rfl) (by kernel_rfl) (by kernel_rfl) (fun _ _ _ h => h) (Or.inl ⟨by rfl, ?_⟩) (by assumption) ?_
                rotate_left
                · intro w hSw
                  go_simp
                  try with_reducible rfl
                simp only [Act.put, List.getElem_toArray, List.getElem_cons_succ, List.getElem_cons_zero, List.setIfInBounds_toArray, List.set_cons_zero, List.set_cons_succ]
                refine wpAnyH_ready (rs := [1, 10]) (by kernel_rfl) (by simp) ?_
                refine AllReadyH.cons rfl (fun K hK => ?_) (AllReadyH.cons rfl (fun K hK => ?_) AllReadyH.nil)
                · go_simp
                  refine hK.out _ _ ?_ (fun hHeld' => ?_)
                  · exact hHeld
                  clear hK K hHeld
                  have hHeld := hHeld'
                  clear hHeld'
                  try simp only [Act.put, List.getElem_toArray, List.getElem_cons_succ, List.getElem_cons_zero, List.setIfInBounds_toArray, List.set_cons_zero, List.set_cons_succ]
                  refine wpAnyH_ready (rs := [10]) (by kernel_rfl) (by simp) ?_
                  refine AllReadyH.cons rfl (fun K hK => ?_) AllReadyH.nil
                  go_simp
                  refine hK.out _ _ ?_ (fun hHeld' => ?_)
                  · exact acell _ hHeld
                  clear hK K hHeld
                  have hHeld := hHeld'
                  clear hHeld'
                  try simp only [Act.put, List.getElem_toArray, List.getElem_cons_succ, List.getElem_cons_zero, List.setIfInBounds_toArray, List.set_cons_zero, List.set_cons_succ]
                  refine wpAnyH_ready (rs := [11]) (by kernel_rfl) (by simp) ?_
                  refine AllReadyH.cons rfl (fun K hK => ?_) AllReadyH.nil
                  refine step_append_run (by rfl) (.tmp 92) (.tmp 101) 22 22 (by rfl) (by rfl) (by rfl) R.out ?_
                  refine hK.out _ _ ?_ (fun hHeld' => ?_)
                  · exact G8.out i x HXI.out
                  clear hK K hHeld
                  have hHeld := hHeld'
                  clear hHeld'
                  try simp only [Act.put, List.getElem_toArray, List.getElem_cons_succ, List.getElem_cons_zero, List.setIfInBounds_toArray, List.set_cons_zero, List.set_cons_succ]
                  refine wpAnyH_take (i := 12) (v := ?_) rfl (by kernel_rfl) (by kernel_rfl) (by kernel_rfl) (fun _ _ _ h => h) (Or.inl ⟨by rfl, ?_⟩) (by assumption) ?_
                  rotate_left
                  · intro w hSw
                    go_simp
                    try with_reducible rfl
                  simp only [Act.put, List.getElem_toArray, List.getElem_cons_succ, List.getElem_cons_zero, List.setIfInBounds_toArray, List.set_cons_zero, List.set_cons_succ]
                  refine wpAnyH_ready (rs := [13]) (by kernel_rfl) (by simp) ?_
                  refine AllReadyH.cons rfl (fun K hK => ?_) AllReadyH.nil
                  go_simp
                  refine hK.out _ _ ?_ (fun hHeld' => ?_)
                  · exact HZ.out.1.g i x HXI.out
                  clear hK K hHeld
                  have hHeld := hHeld'
                  clear hHeld'
                  try simp only [Act.put, List.getElem_toArray, List.getElem_cons_succ, List.getElem_cons_zero, List.setIfInBounds_toArray, List.set_cons_zero, List.set_cons_succ]
                  refine wpAnyH_done (by kernel_rfl) ?_ _
                  clear hHeld R c6 c8 c9 f9 G8
                  go_wp2_with fail
                  go_roundw
                  case rel => exact ⟨i + 1, _, by omega, by omega, by go_num, Lib.hid ⟨HZ.out.1, by rw [HNX.out, show i + 1 - 3 = i - 3 + 1 by omega, List.flatMap_append]; exact HZ.out.2.1, HZ.out.2.2⟩⟩
                  case measure => simp [intOf]; omega
                · go_simp
                  refine hK.out _ _ ?_ (fun hHeld' => ?_)
                  · exact acell _ hHeld
                  clear hK K hHeld
                  have hHeld := hHeld'
                  clear hHeld'
                  try simp only [Act.put, List.getElem_toArray, List.getElem_cons_succ, List.getElem_cons_zero, List.setIfInBounds_toArray, List.set_cons_zero, List.set_cons_succ]
                  refine wpAnyH_ready (rs := [1]) (by kernel_rfl) (by simp) ?_
                  refine AllReadyH.cons rfl (fun K hK => ?_) AllReadyH.nil
                  go_simp
                  refine hK.out _ _ ?_ (fun hHeld' => ?_)
                  · exact hHeld
                  clear hK K hHeld
                  have hHeld := hHeld'
                  clear hHeld'
                  try simp only [Act.put, List.getElem_toArray, List.getElem_cons_succ, List.getElem_cons_zero, List.setIfInBounds_toArray, List.set_cons_zero, List.set_cons_succ]
                  refine wpAnyH_ready (rs := [11]) (by kernel_rfl) (by simp) ?_
                  refine AllReadyH.cons rfl (fun K hK => ?_) AllReadyH.nil
                  refine step_append_run (by rfl) (.tmp 92) (.tmp 101) 22 22 (by rfl) (by rfl) (by rfl) R.out ?_
                  refine hK.out _ _ ?_ (fun hHeld' => ?_)
                  · exact G8.out i x HXI.out
                  clear hK K hHeld
                  have hHeld := hHeld'
                  clear hHeld'
                  try simp only [Act.put, List.getElem_toArray, List.getElem_cons_succ, List.getElem_cons_zero, List.setIfInBounds_toArray, List.set_cons_zero, List.set_cons_succ]
                  refine wpAnyH_take (i := 12) (v := ?_) rfl (by kernel_rfl) (by kernel_rfl) (by kernel_rfl) (fun _ _ _ h => h) (Or.inl ⟨by rfl, ?_⟩) (by assumption) ?_
                  rotate_left
                  · intro w hSw
                    go_simp
                    try with_reducible rfl
                  simp only [Act.put, List.getElem_toArray, List.getElem_cons_succ, List.getElem_cons_zero, List.setIfInBounds_toArray, List.set_cons_zero, List.set_cons_succ]
                  refine wpAnyH_ready (rs := [13]) (by kernel_rfl) (by simp) ?_
                  refine AllReadyH.cons rfl (fun K hK => ?_) AllReadyH.nil
                  go_simp
                  refine hK.out _ _ ?_ (fun hHeld' => ?_)
                  · exact HZ.out.1.g i x HXI.out
                  clear hK K hHeld
                  have hHeld := hHeld'
                  clear hHeld'
                  try simp only [Act.put, List.getElem_toArray, List.getElem_cons_succ, List.getElem_cons_zero, List.setIfInBounds_toArray, List.set_cons_zero, List.set_cons_succ]
                  refine wpAnyH_done (by kernel_rfl) ?_ _
                  clear hHeld R c6 c8 c9 f9 G8
                  go_wp2_with fail
                  go_roundw
                  case rel => exact ⟨i + 1, _, by omega, by omega, by go_num, Lib.hid ⟨HZ.out.1, by rw [HNX.out, show i + 1 - 3 = i - 3 + 1 by omega, List.flatMap_append]; exact HZ.out.2.1, HZ.out.2.2⟩⟩
                  case measure => simp [intOf]; omega
            · have h43 : ((ch.toNat : Int) == 43) = false := by rw [beq_eq_false_iff_ne]; intro e; apply hsg; unfold isSg; have : ch = 43 := UInt8.toNat_inj.1 (show ch.toNat = 43 by omega); simp [this]
              have h45 : ((ch.toNat : Int) == 45) = false := by rw [beq_eq_false_iff_ne]; intro e; apply hsg; unfold isSg; have : ch = 45 := UInt8.toNat_inj.1 (show ch.toNat = 45 by omega); simp [this]
              have HN : Hid (∀ (j : Nat) c, j < q + 1 → l[j]? = some c → isSg c = false) := Lib.hid (fun j c hj hc => by
                by_cases h : j = q
                · subst h
                  rw [HCH.out] at hc
                  cases hc
                  simpa using hsg
                · exact HQ.out j c (by omega) hc)
              have n43 : ((ch.toNat : Int) != 43) = true := by simp only [bne, h43]; rfl
              have n45 : ((ch.toNat : Int) != 45) = true := by simp only [bne, h45]; rfl
              have f43 : ((ch.toNat : Int) = 43) = False := by rw [beq_eq_false_iff_ne] at h43; simpa using h43
              have f45 : ((ch.toNat : Int) = 45) = False := by rw [beq_eq_false_iff_ne] at h45; simpa using h45
              clear hsg HJ
              go_wp2_with fail
              go_roundw
              case rel => exact ⟨q + 1, by go_num, by omega, by first | rfl | trivial, HN⟩
              case measure => simp [intOf] <;> omega
          · have hqe : q = x.size := by omega
            subst hqe
            have hee : ((x.size : Int) == (x.size : Int)) = true := by simp
            have HB := Lib.hid (rp_cut (i := i - 3) HW.out (by rw [show 3 + (i - 3) = i by omega]; exact HXI.out) (by rw [← HL.out]; exact (cut_at HQ.out (Or.inl HSL.out)).trans HSL.out))
            obtain ⟨⟨r0, r1', r2, r3⟩, s0, s1, s2, s3⟩ := whole4 HJ.out.1.r
            have hRl := HJ.out.1.r.lt
            clear hqs
            go_wp2_with fail
            refine bodyPost_ret (v := .tuple #[.agg #[.string ⟨#[]⟩, .int .i64 0, .int .i64 0, .slice none 0 0], .int .i64 10]) ?_ rfl ?_
            · simp [results, Tryz.results30, go_sem, r0, r1', r2, r3]
            · exact parse_zero HB.out (((((HJ.out.1.b).setCell (p := ⟨w.heap.size, 0, none⟩) (Nat.le_refl _) _).setCell (p := ⟨w.heap.size, 1, none⟩) (Nat.le_refl _) _).setCell (p := ⟨w.heap.size, 2, none⟩) (Nat.le_refl _) _).setCell (p := ⟨w.heap.size, 3, none⟩) (Nat.le_refl _) _)
      · obtain rfl : i = m := by omega
        have him' : ¬ ((i : Int) < (i : Int)) := by omega
        have HT : Hid ((ws.drop 3).take (i - 3) = ws.drop 3) := Lib.hid (List.take_of_length_le (by rw [List.length_drop, ← HWM.out]; omega))
        rw [HT.out] at HJ
        obtain ⟨xs, hxs⟩ : ∃ xs, (ws.drop 3).map rS = xs := ⟨_, rfl⟩
        have hxl : xs.length = i - 3 := by rw [← hxs, List.length_map, List.length_drop, ← HWM.out]
        have hxz : ∀ p ∈ xs, SpZ p := by
          rw [← hxs]
          intro p hp
          obtain ⟨x, hx, rfl⟩ := List.mem_map.1 hp
          exact rS_z (HZ.out x (List.mem_of_mem_drop hx))
        rw [hxs] at HJ HRT
        obtain ⟨A9, c9, rfl, hc9⟩ := own_slice2 HJ.out.2.1
        have HDA : Hid (DefAt wr A9 (i - 3) c9 ⟨x0, (r1 : Nat), (t1 : Nat), xs⟩) := Lib.hid ⟨hxl, hc9, by omega, ⟨by have := HZ.out x0 (List.mem_of_getElem? HX.out.1); show x0.size ≤ _; omega, by have := HRT.out.2.1; dsimp only; omega, by have := HRT.out.2.2; dsimp only; omega, fun i p hi => hxz p (List.mem_of_getElem? hi)⟩, slD_own HJ.out.2.1 hxl⟩
        have TX := Lib.hid ((refDefText_any _ A9 (i - 3) c9 wr HDA.out).mono (fun e w' ⟨h, hb⟩ => And.intro h.val hb))
        have HAN : Hid (∀ a : Addr, A9 = some a → xs ≠ [] → some a.block ≠ some w.heap.size) := Lib.hid (fun a ha _ e => by
          have h1 := (HJ.out.2.1.lt a.block (by rw [ha]; rfl)).1
          have h2 := HDB.out
          have h4 := HJ.out.1.o1
          injection e with e; omega)
        have HMM := Lib.hid HJ.out.1
        unfold dV at TX
        dsimp only at TX
        obtain ⟨⟨d0, d1, d2, d3⟩, _⟩ := whole4 HJ.out.1.d
        clear HJ hxl hxz hc9 hxs him
        go_upto_region 18 with (go_at_call 24; refine TX.out.mono ?_; rintro e w9 ⟨rfl, hb9⟩)
        have B9 := Lib.hid hb9
        have M9 := Lib.hid (HMM.out.keep hb9)
        obtain ⟨⟨r0', r1', r2', r3'⟩, s0, s1', s2', s3'⟩ := whole4 M9.out.r
        obtain ⟨⟨d0, d1, d2, d3⟩, _⟩ := whole4 M9.out.d
        have hRl := M9.out.r.lt
        clear hb9 TX
        by_cases hok : defOk ⟨x0, (r1 : Nat), (t1 : Nat), xs⟩
        · rw [ckD_yes hok, txtL_yes hok]
          by_cases ht : textD ⟨x0, (r1 : Nat), (t1 : Nat), xs⟩ = s.data.toList
          · have PR : Hid (ParR s.data.toList ⟨x0, (r1 : Nat), (t1 : Nat), xs⟩ 0) := Lib.hid (Or.inl ⟨rfl, hok, ht⟩)
            rw [ht, ba_eta]
            clear hok ht
            go_wp2_with fail
            refine bodyPost_ret (v := .tuple #[.agg #[.string x0, .int .i64 (r1 : Int), .int .i64 (t1 : Int), .slice A9 (i - 3) c9], .int .i64 0]) ?_ rfl ?_
            · simp [results, Tryz.results30, go_sem, r0', r1', r2', r3']
            · exact ⟨⟨⟨x0, (r1 : Nat), (t1 : Nat), xs⟩, A9, i - 3, c9, 0, rfl, PR.out, (HDA.out.keep B9.out).grown (put4_grown _ _ _ _ _ _) (fun a ea hne => HAN.out a ea hne)⟩, (((((M9.out.b).setCell (p := ⟨w.heap.size, 0, none⟩) (Nat.le_refl _) _).setCell (p := ⟨w.heap.size, 1, none⟩) (Nat.le_refl _) _).setCell (p := ⟨w.heap.size, 2, none⟩) (Nat.le_refl _) _).setCell (p := ⟨w.heap.size, 3, none⟩) (Nat.le_refl _) _)⟩
          · have hne : ((⟨(textD ⟨x0, (r1 : Nat), (t1 : Nat), xs⟩).toArray⟩ : ByteArray).toList == s.toList) = false := key_ne.2 (fun e => ht (by rw [← e]))
            have HB : Hid (∀ d0, defOk d0 → textD d0 ≠ s.data.toList) := Lib.hid (fun d0 h0 h1 => ht (by rw [HRT.out.1 d0 h0 h1]; exact h1))
            generalize (⟨(textD ⟨x0, (r1 : Nat), (t1 : Nat), xs⟩).toArray⟩ : ByteArray) = tb at hne ⊢
            clear hok ht
            go_wp2_with fail
            refine bodyPost_ret (v := .tuple #[.agg #[.string ⟨#[]⟩, .int .i64 0, .int .i64 0, .slice none 0 0], .int .i64 10]) ?_ rfl ?_
            · simp [results, Tryz.results30, go_sem, r0', r1', r2', r3']
            · exact parse_zero HB.out (((((M9.out.b).setCell (p := ⟨w.heap.size, 0, none⟩) (Nat.le_refl _) _).setCell (p := ⟨w.heap.size, 1, none⟩) (Nat.le_refl _) _).setCell (p := ⟨w.heap.size, 2, none⟩) (Nat.le_refl _) _).setCell (p := ⟨w.heap.size, 3, none⟩) (Nat.le_refl _) _)
        · rw [ckD_no hok]
          have HB : Hid (∀ d0, defOk d0 → textD d0 ≠ s.data.toList) := Lib.hid (fun d0 h0 h1 => hok (by rw [HRT.out.1 d0 h0 h1]; exact h0))
          clear hok
          go_wp2_with fail
          refine bodyPost_ret (v := .tuple #[.agg #[.string ⟨#[]⟩, .int .i64 0, .int .i64 0, .slice none 0 0], .int .i64 10]) ?_ rfl ?_
          · simp [results, Tryz.results30, go_sem, r0', r1', r2', r3']
          · exact parse_zero HB.out (((((M9.out.b).setCell (p := ⟨w.heap.size, 0, none⟩) (Nat.le_refl _) _).setCell (p := ⟨w.heap.size, 1, none⟩) (Nat.le_refl _) _).setCell (p := ⟨w.heap.size, 2, none⟩) (Nat.le_refl _) _).setCell (p := ⟨w.heap.size, 3, none⟩) (Nat.le_refl _) _)
end Go.Proofs.YtgeljnjcpkmlmaaGreatDoor
