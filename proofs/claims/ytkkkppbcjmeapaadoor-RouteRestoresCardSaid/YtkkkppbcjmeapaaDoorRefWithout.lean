/- What one range has without another one, by the reference, and whether it is inside it; memory that lay stays. Condition: the ends are no longer than an int can say. -/
import Derived.Test.YtkkkppbcjmeapaaDoorRefMeet
namespace Go.Proofs.YtkkkppbcjmeapaaDoor
open Go.RowKit

theorem front_facts (f g : ByteArray) : (Op.bytesLess f.toList g.toList = true → (g.toList == ([] : List UInt8)) = false ∧ (Op.bytesLess g.toList f.toList || g.toList == f.toList) = false) ∧
    (Op.bytesLess f.toList g.toList = false → (Op.bytesLess g.toList f.toList || g.toList == f.toList) = true) := by
  have h1 := bl_leq g f
  have h2 := ref_front f g
  refine ⟨fun h => ?_, fun h => ?_⟩
  · rw [h] at h1 h2
    exact ⟨by simpa using h2, by rw [← h1]; rfl⟩
  · rw [h] at h1
    rw [← h1]
    rfl
theorem back_facts (t u : ByteArray) : (endLt u t = true → (u.toList == ([] : List UInt8)) = false ∧ ((t.toList == ([] : List UInt8)) = true ∨ ((t.toList == ([] : List UInt8)) = false ∧ (Op.bytesLess t.toList u.toList || t.toList == u.toList) = false))) ∧
    (endLt u t = false → (u.toList == ([] : List UInt8)) = true ∨ ((u.toList == ([] : List UInt8)) = false ∧ (t.toList == ([] : List UInt8)) = false ∧ (Op.bytesLess t.toList u.toList || t.toList == u.toList) = true)) := by
  have h2 := ref_back t u
  have h1 := bl_leq t u
  rw [← h1]
  rw [← h2]
  cases (u.toList == ([] : List UInt8)) <;> cases (t.toList == ([] : List UInt8)) <;> cases Op.bytesLess u.toList t.toList <;> decide

set_option maxRecDepth 100000 in
set_option maxHeartbeats 16000000 in
theorem refWithout_fresh (f t g u : ByteArray) (w : World) (hf : f.size ≤ 9223372036854775807) (ht : t.size ≤ 9223372036854775807) (hg : g.size ≤ 9223372036854775807) (hu : u.size ≤ 9223372036854775807) :
    Calls Tryd.prog 55 #[.agg #[.string f, .string t], .agg #[.string g, .string u]] w fun e w' => ∃ v, e = .returned (.tuple #[v, .int .i64 (ckI (okR f t && okR g u))]) ∧ (OutR w' v (if (okR f t && okR g u) = true then outL f t g u else []) ∧ ∀ k, v.ownBlock = some k → w.heap.size ≤ k) ∧ Below w.heap.size w w' := by
  obtain ⟨i0, hi, hz0, hz1, hz2⟩ := info_parts infoR
  have a := AB.start w f t g u
  have E := fun W => both_any f t g u W hf ht hg hu
  have hM : ∀ ts t W, (Builtin.max_ ts t #[.string f, .string u]).run Tryd.prog W = .ok (.string (maxS f u)) W := fun ts t W => run_maxS ts t f u W
  have HE := Lib.hid (fun W => refEnd_any t g W)
  have FF := Lib.hid (front_facts f g)
  have BF := Lib.hid (back_facts t u)
  have hq : outL f t g u = (if Op.bytesLess f.toList g.toList then [(f, minE t g)] else []) ++ (if endLt u t then [(maxS f u, t)] else []) := by unfold outL; rw [minE_comm g t]
  generalize outL f t g u = ps at hq
  generalize maxS f u = mx at hM hq
  generalize minE t g = mn at hq HE
  generalize (okR f t && okR g u) = o at E ⊢
  clear hf ht hg hu
  cases o with
  | false =>
    simp only [ckI] at E
    clear hq
    go_enter Tryd.func55, Tryd.ntmps55
    go_wp2_with fail
    refine (E _).mono ?_
    rintro e w1 ⟨rfl, hb⟩
    go_wp2_with fail
    go_ret2
    exact ⟨_, rfl, ⟨Or.inl ⟨rfl, rfl⟩, fun k hk => by cases hk⟩, a.last hb⟩
  | true =>
    simp only [ckI] at E
    cases h1 : Op.bytesLess f.toList g.toList with
    | false =>
      have d1 := FF.out.2 h1
      cases h2 : endLt u t with
      | false =>
        obtain rfl : ps = [] := by rw [hq, h1, h2]; rfl
        clear hq
        rcases BF.out.2 h2 with d2 | ⟨d2, d3, d4⟩
        all_goals
          cases d5 : (g.toList == ([] : List UInt8))
          all_goals
            go_enter Tryd.func55, Tryd.ntmps55
            go_wp2_with fail
            refine (E _).mono ?_
            rintro e w1 ⟨rfl, hb⟩
            replace a := a.below hb
            clear hb E
            have x0 := a.c0
            have x1 := a.c1
            have x2 := a.c2
            have x3 := a.c3
            go_wp2_with fail
            go_ret2
            exact ⟨_, rfl, ⟨Or.inl ⟨rfl, rfl⟩, fun k hk => by cases hk⟩, a.1⟩
      | true =>
        obtain rfl : ps = [(mx, t)] := by rw [hq, h1, h2]; rfl
        clear hq
        obtain ⟨d2, d3⟩ := BF.out.1 h2
        rcases d3 with d3 | ⟨d3, d4⟩
        all_goals
          cases d5 : (g.toList == ([] : List UInt8))
          all_goals
            go_enter Tryd.func55, Tryd.ntmps55
            go_wp2_with fail
            refine (E _).mono ?_
            rintro e w1 ⟨rfl, hb⟩
            replace a := a.below hb
            clear hb E
            have x0 := a.c0
            have x1 := a.c1
            have x2 := a.c2
            have x3 := a.c3
            go_wp2_with (at_builtin; refine wpList_append_own _ rfl _ _ 45 rfl w1.heap.size 30 i0 (.agg #[.string ⟨#[]⟩, .string ⟨#[]⟩]) 2 32 Tryd.underlying45 hi hz0 hz1 hz2 rfl (by decide) _ _ _ rfl (own_nil _ _ _ _) ⟨w1.heap.size, 0, none⟩ 1 1 [.string mx, .string t] rfl rfl (news_new (by simp)) cells_two (by unfold maxLen; omega) (by omega) (by simp <;> omega) ?_; intro v3 w3 hown3 hgrow3 hnil3)
            go_ret2
            exact ⟨_, rfl, ⟨outR_one hown3, fun k hk => Nat.le_trans a.1.size (hown3.lt k hk).1⟩, (a.alloc _).1.trans (((Below.refl _ _).grown hgrow3 (Nat.le_refl _) (fun j hj => by cases hj)).mono (by have := a.1.size; simp; omega))⟩
    | true =>
      obtain ⟨d0, d1⟩ := FF.out.1 h1
      cases h2 : endLt u t with
      | false =>
        obtain rfl : ps = [(f, mn)] := by rw [hq, h1, h2]; rfl
        clear hq
        rcases BF.out.2 h2 with d2 | ⟨d2, d3, d4⟩
        all_goals
          go_enter Tryd.func55, Tryd.ntmps55
          go_wp2_with fail
          refine (E _).mono ?_
          rintro e w1 ⟨rfl, hb⟩
          replace a := a.below hb
          clear hb E
          have x0 := a.c0
          have x1 := a.c1
          have x2 := a.c2
          have x3 := a.c3
          go_wp2_with fail
          have ad : AB w w1.drew f t g u := a.below (Below.refl _ _).drew
          have hS : w1.drew.cell? ⟨w.heap.size, 0, none⟩ = some (.string f) ∧ w1.drew.cell? ⟨w.heap.size, 1, none⟩ = some (.string t) ∧ w1.drew.cell? ⟨w.heap.size + 1, 0, none⟩ = some (.string g) ∧ w1.drew.cell? ⟨w.heap.size + 1, 1, none⟩ = some (.string u) := ⟨ad.c0, ad.c1, ad.c2, ad.c3⟩
          refine wp_region_held_drew (S := fun w' => w'.cell? ⟨w.heap.size, 0, none⟩ = some (.string f) ∧ w'.cell? ⟨w.heap.size, 1, none⟩ = some (.string t) ∧ w'.cell? ⟨w.heap.size + 1, 0, none⟩ = some (.string g) ∧ w'.cell? ⟨w.heap.size + 1, 1, none⟩ = some (.string u)) (by kernel_rfl) hS (fun hHeld => ?_)
          clear x0 x1 x2 x3 hS
          refine wpAnyH_take (i := 0) (v := ?_) rfl (by kernel_rfl) (by kernel_rfl) (by kernel_rfl) (fun _ _ _ h => h) (Or.inl ⟨by rfl, ?_⟩) (by assumption) ?_
          rotate_left
          · intro w hSw
            go_simp
            try with_reducible rfl
          simp only [Act.put, List.getElem_toArray, List.getElem_cons_zero, List.setIfInBounds_toArray, List.set_cons_zero, List.set_cons_succ]
          refine wpAnyH_take (i := 1) (v := ?_) rfl (by kernel_rfl) (by kernel_rfl) (by kernel_rfl) (fun _ _ _ h => h) (Or.inl ⟨by rfl, ?_⟩) (by assumption) ?_
          rotate_left
          · intro w hSw
            go_simp
            try with_reducible rfl
          simp only [Act.put, List.getElem_toArray, List.getElem_cons_succ, List.getElem_cons_zero, List.setIfInBounds_toArray, List.set_cons_zero, List.set_cons_succ]
          refine wpAnyH_take (i := 2) (v := ?_) rfl (by kernel_rfl) (by kernel_rfl) (by kernel_rfl) (fun _ _ _ h => h) (Or.inl ⟨by rfl, ?_⟩) (by assumption) ?_
          rotate_left
          · intro w hSw
            go_simp
            try with_reducible rfl
          simp only [Act.put, List.getElem_toArray, List.getElem_cons_succ, List.getElem_cons_zero, List.setIfInBounds_toArray, List.set_cons_zero, List.set_cons_succ]
          refine wpAnyH_take (i := 3) (v := ?_) rfl (by kernel_rfl) (by kernel_rfl) (by kernel_rfl) (fun _ _ _ h => h) (Or.inl ⟨by rfl, ?_⟩) (by assumption) ?_
          rotate_left
          · intro w hSw
            go_simp
            try with_reducible rfl
          simp only [Act.put, List.getElem_toArray, List.getElem_cons_succ, List.getElem_cons_zero, List.setIfInBounds_toArray, List.set_cons_zero, List.set_cons_succ]
          refine wpAnyH_take (i := 4) (v := ?_) rfl (by kernel_rfl) (by kernel_rfl) (by kernel_rfl) (fun _ _ _ h => h) (Or.inl ⟨by rfl, ?_⟩) (by assumption) ?_
          rotate_left
          · intro w hSw
            go_simp
            try with_reducible rfl
          simp only [Act.put, List.getElem_toArray, List.getElem_cons_succ, List.getElem_cons_zero, List.setIfInBounds_toArray, List.set_cons_zero, List.set_cons_succ]
          refine wpAnyH_take (i := 5) (v := ?_) rfl (by kernel_rfl) (by kernel_rfl) (by kernel_rfl) (fun _ _ _ h => h) (Or.inl ⟨by rfl, ?_⟩) (by assumption) ?_
          rotate_left
          · intro w hSw
            go_simp
            try with_reducible rfl
          simp only [Act.put, List.getElem_toArray, List.getElem_cons_succ, List.getElem_cons_zero, List.setIfInBounds_toArray, List.set_cons_zero, List.set_cons_succ]
          refine wpAnyH_take (i := 6) (v := ?_) rfl (by kernel_rfl) (by kernel_rfl) (by kernel_rfl) (fun _ _ _ h => h) (Or.inl ⟨by rfl, ?_⟩) (by assumption) ?_
          rotate_left
          · intro w hSw
            go_simp
            try with_reducible rfl
          simp only [Act.put, List.getElem_toArray, List.getElem_cons_succ, List.getElem_cons_zero, List.setIfInBounds_toArray, List.set_cons_zero, List.set_cons_succ]
          refine wpAnyH_ready (rs := [7]) (by kernel_rfl) (by simp) ?_
          refine AllReadyH.cons rfl (fun K hK => ?_) AllReadyH.nil
          go_simp
          refine (HE.out _).mono ?_
          rintro e w2 ⟨rfl, rfl⟩
          refine hK.out _ _ ?_ (fun hHeld' => ?_)
          · exact hHeld
          clear hK K hHeld
          have hHeld := hHeld'
          clear hHeld'
          try simp only [Act.put, List.getElem_toArray, List.getElem_cons_succ, List.getElem_cons_zero, List.setIfInBounds_toArray, List.set_cons_zero, List.set_cons_succ]
          refine wpAnyH_take (i := 8) (v := ?_) rfl (by kernel_rfl) (by kernel_rfl) (by kernel_rfl) (fun _ _ _ h => h) (Or.inl ⟨by rfl, ?_⟩) (by assumption) ?_
          rotate_left
          · intro w hSw
            go_simp
            try with_reducible rfl
          simp only [Act.put, List.getElem_toArray, List.getElem_cons_succ, List.getElem_cons_zero, List.setIfInBounds_toArray, List.set_cons_zero, List.set_cons_succ]
          refine wpAnyH_ready (rs := [9]) (by kernel_rfl) (by simp) ?_
          refine AllReadyH.cons rfl (fun K hK => ?_) AllReadyH.nil
          go_simp
          refine hK.out _ _ ?_ (fun hHeld' => ?_)
          · exact ⟨(ad.alloc _).c0, (ad.alloc _).c1, (ad.alloc _).c2, (ad.alloc _).c3⟩
          clear hK K hHeld
          have hHeld := hHeld'
          clear hHeld'
          try simp only [Act.put, List.getElem_toArray, List.getElem_cons_succ, List.getElem_cons_zero, List.setIfInBounds_toArray, List.set_cons_zero, List.set_cons_succ]
          refine wpAnyH_ready (rs := [10]) (by kernel_rfl) (by simp) ?_
          refine AllReadyH.cons rfl (fun K hK => ?_) AllReadyH.nil
          have ae : AB w ((w1.alloc (.cells #[.string f, .string mn] 30)).drew) f t g u := (a.alloc _).below (Below.refl _ _).drew
          have hA1 : w.heap.size + 2 ≤ w1.heap.size := a.2.2.lt
          simp only [Region.wanted]
          refine wp_append_own _ _ _ 45 rfl w1.heap.size 30 i0 (.agg #[.string ⟨#[]⟩, .string ⟨#[]⟩]) 2 32 Tryd.underlying45 hi hz0 hz1 hz2 rfl (by decide) _ _ _ rfl (own_nil _ _ _ _) ⟨w1.heap.size, 0, none⟩ 1 1 [.string f, .string mn] rfl rfl (fun j u hj => news_new (w := w1) rfl j u hj) cells_two (by unfold maxLen; omega) (by omega) (by simp) ?_
          intro v3 w3 hown3 hgrow3 hnil3
          have a3 := ae.grown hgrow3 (fun j hj => by cases hj)
          have hs3 : w1.heap.size + 1 ≤ w3.heap.size := by simpa using hgrow3.size
          refine hK.out _ _ ?_ (fun hHeld' => ?_)
          · exact ⟨a3.c0, a3.c1, a3.c2, a3.c3⟩
          clear hK K hHeld
          have hHeld := hHeld'
          clear hHeld'
          try simp only [Act.put, List.getElem_toArray, List.getElem_cons_succ, List.getElem_cons_zero, List.setIfInBounds_toArray, List.set_cons_zero, List.set_cons_succ]
          refine wpAnyH_take (i := 11) (v := ?_) rfl (by kernel_rfl) (by kernel_rfl) (by kernel_rfl) (fun _ _ _ h => h) (Or.inl ⟨by rfl, ?_⟩) (by assumption) ?_
          rotate_left
          · intro w hSw
            go_simp
            try with_reducible rfl
          simp only [Act.put, List.getElem_toArray, List.getElem_cons_succ, List.getElem_cons_zero, List.setIfInBounds_toArray, List.set_cons_zero, List.set_cons_succ]
          refine wpAnyH_done (by kernel_rfl) ?_ _
          clear hHeld ae ad a hgrow3 hnil3
          have x0 := a3.c0
          have x1 := a3.c1
          have x2 := a3.c2
          have x3 := a3.c3
          simp only [Exit.then]
          go_wp2_with fail
          go_ret2
          exact ⟨_, rfl, ⟨outR_one hown3, fun k hk => by have := (hown3.lt k hk).1; omega⟩, a3.1⟩
      | true =>
        obtain rfl : ps = [(f, mn), (mx, t)] := by rw [hq, h1, h2]; rfl
        clear hq
        obtain ⟨d2, d3⟩ := BF.out.1 h2
        rcases d3 with d3 | ⟨d3, d4⟩
        all_goals
          go_enter Tryd.func55, Tryd.ntmps55
          go_wp2_with fail
          refine (E _).mono ?_
          rintro e w1 ⟨rfl, hb⟩
          replace a := a.below hb
          clear hb E
          have x0 := a.c0
          have x1 := a.c1
          have x2 := a.c2
          have x3 := a.c3
          go_wp2_with fail
          have ad : AB w w1.drew f t g u := a.below (Below.refl _ _).drew
          have hS : w1.drew.cell? ⟨w.heap.size, 0, none⟩ = some (.string f) ∧ w1.drew.cell? ⟨w.heap.size, 1, none⟩ = some (.string t) ∧ w1.drew.cell? ⟨w.heap.size + 1, 0, none⟩ = some (.string g) ∧ w1.drew.cell? ⟨w.heap.size + 1, 1, none⟩ = some (.string u) := ⟨ad.c0, ad.c1, ad.c2, ad.c3⟩
          refine wp_region_held_drew (S := fun w' => w'.cell? ⟨w.heap.size, 0, none⟩ = some (.string f) ∧ w'.cell? ⟨w.heap.size, 1, none⟩ = some (.string t) ∧ w'.cell? ⟨w.heap.size + 1, 0, none⟩ = some (.string g) ∧ w'.cell? ⟨w.heap.size + 1, 1, none⟩ = some (.string u)) (by kernel_rfl) hS (fun hHeld => ?_)
          clear x0 x1 x2 x3 hS
          refine wpAnyH_take (i := 0) (v := ?_) rfl (by kernel_rfl) (by kernel_rfl) (by kernel_rfl) (fun _ _ _ h => h) (Or.inl ⟨by rfl, ?_⟩) (by assumption) ?_
          rotate_left
          · intro w hSw
            go_simp
            try with_reducible rfl
          simp only [Act.put, List.getElem_toArray, List.getElem_cons_zero, List.setIfInBounds_toArray, List.set_cons_zero, List.set_cons_succ]
          refine wpAnyH_take (i := 1) (v := ?_) rfl (by kernel_rfl) (by kernel_rfl) (by kernel_rfl) (fun _ _ _ h => h) (Or.inl ⟨by rfl, ?_⟩) (by assumption) ?_
          rotate_left
          · intro w hSw
            go_simp
            try with_reducible rfl
          simp only [Act.put, List.getElem_toArray, List.getElem_cons_succ, List.getElem_cons_zero, List.setIfInBounds_toArray, List.set_cons_zero, List.set_cons_succ]
          refine wpAnyH_take (i := 2) (v := ?_) rfl (by kernel_rfl) (by kernel_rfl) (by kernel_rfl) (fun _ _ _ h => h) (Or.inl ⟨by rfl, ?_⟩) (by assumption) ?_
          rotate_left
          · intro w hSw
            go_simp
            try with_reducible rfl
          simp only [Act.put, List.getElem_toArray, List.getElem_cons_succ, List.getElem_cons_zero, List.setIfInBounds_toArray, List.set_cons_zero, List.set_cons_succ]
          refine wpAnyH_take (i := 3) (v := ?_) rfl (by kernel_rfl) (by kernel_rfl) (by kernel_rfl) (fun _ _ _ h => h) (Or.inl ⟨by rfl, ?_⟩) (by assumption) ?_
          rotate_left
          · intro w hSw
            go_simp
            try with_reducible rfl
          simp only [Act.put, List.getElem_toArray, List.getElem_cons_succ, List.getElem_cons_zero, List.setIfInBounds_toArray, List.set_cons_zero, List.set_cons_succ]
          refine wpAnyH_take (i := 4) (v := ?_) rfl (by kernel_rfl) (by kernel_rfl) (by kernel_rfl) (fun _ _ _ h => h) (Or.inl ⟨by rfl, ?_⟩) (by assumption) ?_
          rotate_left
          · intro w hSw
            go_simp
            try with_reducible rfl
          simp only [Act.put, List.getElem_toArray, List.getElem_cons_succ, List.getElem_cons_zero, List.setIfInBounds_toArray, List.set_cons_zero, List.set_cons_succ]
          refine wpAnyH_take (i := 5) (v := ?_) rfl (by kernel_rfl) (by kernel_rfl) (by kernel_rfl) (fun _ _ _ h => h) (Or.inl ⟨by rfl, ?_⟩) (by assumption) ?_
          rotate_left
          · intro w hSw
            go_simp
            try with_reducible rfl
          simp only [Act.put, List.getElem_toArray, List.getElem_cons_succ, List.getElem_cons_zero, List.setIfInBounds_toArray, List.set_cons_zero, List.set_cons_succ]
          refine wpAnyH_take (i := 6) (v := ?_) rfl (by kernel_rfl) (by kernel_rfl) (by kernel_rfl) (fun _ _ _ h => h) (Or.inl ⟨by rfl, ?_⟩) (by assumption) ?_
          rotate_left
          · intro w hSw
            go_simp
            try with_reducible rfl
          simp only [Act.put, List.getElem_toArray, List.getElem_cons_succ, List.getElem_cons_zero, List.setIfInBounds_toArray, List.set_cons_zero, List.set_cons_succ]
          refine wpAnyH_ready (rs := [7]) (by kernel_rfl) (by simp) ?_
          refine AllReadyH.cons rfl (fun K hK => ?_) AllReadyH.nil
          go_simp
          refine (HE.out _).mono ?_
          rintro e w2 ⟨rfl, rfl⟩
          refine hK.out _ _ ?_ (fun hHeld' => ?_)
          · exact hHeld
          clear hK K hHeld
          have hHeld := hHeld'
          clear hHeld'
          try simp only [Act.put, List.getElem_toArray, List.getElem_cons_succ, List.getElem_cons_zero, List.setIfInBounds_toArray, List.set_cons_zero, List.set_cons_succ]
          refine wpAnyH_take (i := 8) (v := ?_) rfl (by kernel_rfl) (by kernel_rfl) (by kernel_rfl) (fun _ _ _ h => h) (Or.inl ⟨by rfl, ?_⟩) (by assumption) ?_
          rotate_left
          · intro w hSw
            go_simp
            try with_reducible rfl
          simp only [Act.put, List.getElem_toArray, List.getElem_cons_succ, List.getElem_cons_zero, List.setIfInBounds_toArray, List.set_cons_zero, List.set_cons_succ]
          refine wpAnyH_ready (rs := [9]) (by kernel_rfl) (by simp) ?_
          refine AllReadyH.cons rfl (fun K hK => ?_) AllReadyH.nil
          go_simp
          refine hK.out _ _ ?_ (fun hHeld' => ?_)
          · exact ⟨(ad.alloc _).c0, (ad.alloc _).c1, (ad.alloc _).c2, (ad.alloc _).c3⟩
          clear hK K hHeld
          have hHeld := hHeld'
          clear hHeld'
          try simp only [Act.put, List.getElem_toArray, List.getElem_cons_succ, List.getElem_cons_zero, List.setIfInBounds_toArray, List.set_cons_zero, List.set_cons_succ]
          refine wpAnyH_ready (rs := [10]) (by kernel_rfl) (by simp) ?_
          refine AllReadyH.cons rfl (fun K hK => ?_) AllReadyH.nil
          have ae : AB w ((w1.alloc (.cells #[.string f, .string mn] 30)).drew) f t g u := (a.alloc _).below (Below.refl _ _).drew
          have hA1 : w.heap.size + 2 ≤ w1.heap.size := a.2.2.lt
          simp only [Region.wanted]
          refine wp_append_own _ _ _ 45 rfl w1.heap.size 30 i0 (.agg #[.string ⟨#[]⟩, .string ⟨#[]⟩]) 2 32 Tryd.underlying45 hi hz0 hz1 hz2 rfl (by decide) _ _ _ rfl (own_nil _ _ _ _) ⟨w1.heap.size, 0, none⟩ 1 1 [.string f, .string mn] rfl rfl (fun j u hj => news_new (w := w1) rfl j u hj) cells_two (by unfold maxLen; omega) (by omega) (by simp) ?_
          intro v3 w3 hown3 hgrow3 hnil3
          have a3 := ae.grown hgrow3 (fun j hj => by cases hj)
          have hs3 : w1.heap.size + 1 ≤ w3.heap.size := by simpa using hgrow3.size
          refine hK.out _ _ ?_ (fun hHeld' => ?_)
          · exact ⟨a3.c0, a3.c1, a3.c2, a3.c3⟩
          clear hK K hHeld
          have hHeld := hHeld'
          clear hHeld'
          try simp only [Act.put, List.getElem_toArray, List.getElem_cons_succ, List.getElem_cons_zero, List.setIfInBounds_toArray, List.set_cons_zero, List.set_cons_succ]
          refine wpAnyH_take (i := 11) (v := ?_) rfl (by kernel_rfl) (by kernel_rfl) (by kernel_rfl) (fun _ _ _ h => h) (Or.inl ⟨by rfl, ?_⟩) (by assumption) ?_
          rotate_left
          · intro w hSw
            go_simp
            try with_reducible rfl
          simp only [Act.put, List.getElem_toArray, List.getElem_cons_succ, List.getElem_cons_zero, List.setIfInBounds_toArray, List.set_cons_zero, List.set_cons_succ]
          refine wpAnyH_done (by kernel_rfl) ?_ _
          clear hHeld ae ad a hgrow3 hnil3
          have x0 := a3.c0
          have x1 := a3.c1
          have x2 := a3.c2
          have x3 := a3.c3
          simp only [Exit.then]
          go_wp2_with (at_builtin; refine wpList_append_own _ rfl _ _ 45 rfl w1.heap.size 30 i0 (.agg #[.string ⟨#[]⟩, .string ⟨#[]⟩]) 2 32 Tryd.underlying45 hi hz0 hz1 hz2 rfl (by decide) _ _ _ rfl (hown3.alloc _) ⟨w3.heap.size, 0, none⟩ 1 1 [.string mx, .string t] rfl rfl (news_new (by simp)) cells_two (by unfold maxLen; omega) (by omega) (by simp <;> omega) ?_; intro v5 w5 hown5 hgrow5 hnil5)
          go_ret2
          exact ⟨_, rfl, ⟨outR_two hown5, fun k hk => by have := (hown5.lt k hk).1; omega⟩, ((a3.alloc _).grown hgrow5 (fun j hj => Nat.le_trans hA1 (hown3.lt j hj).1)).1⟩
theorem refWithout_any (f t g u : ByteArray) (w : World) (hf : f.size ≤ 9223372036854775807) (ht : t.size ≤ 9223372036854775807) (hg : g.size ≤ 9223372036854775807) (hu : u.size ≤ 9223372036854775807) :
    Calls Tryd.prog 55 #[.agg #[.string f, .string t], .agg #[.string g, .string u]] w fun e w' => ∃ v, e = .returned (.tuple #[v, .int .i64 (ckI (okR f t && okR g u))]) ∧ OutR w' v (if (okR f t && okR g u) = true then outL f t g u else []) ∧ Below w.heap.size w w' :=
  (refWithout_fresh f t g u w hf ht hg hu).mono fun _ _ ⟨v, h1, h2, h3⟩ => ⟨v, h1, h2.1, h3⟩
end Go.Proofs.YtkkkppbcjmeapaaDoor
