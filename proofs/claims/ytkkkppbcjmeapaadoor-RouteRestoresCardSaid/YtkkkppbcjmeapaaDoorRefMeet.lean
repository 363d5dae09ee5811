/- Two ranges before, inside and together with one another, by the reference; memory that lay stays. Condition: the ends are no longer than an int can say. -/
import Derived.Test.YtkkkppbcjmeapaaDoorWithout
import Derived.Test.YtkkkppbcjmeapaaDoorAB
import Derived.Deep.RegionHeld3
import Derived.Handy
import Derived.Deep.RegionWith
namespace Go.Proofs.YtkkkppbcjmeapaaDoor
open Go.RowKit

set_option maxHeartbeats 4000000 in
theorem both_any (f t g u : ByteArray) (w : World) (hf : f.size ≤ 9223372036854775807) (ht : t.size ≤ 9223372036854775807) (hg : g.size ≤ 9223372036854775807) (hu : u.size ≤ 9223372036854775807) :
    Calls Tryd.prog 76 #[.agg #[.string f, .string t], .agg #[.string g, .string u]] w fun e w' => e = .returned (.int .i64 (ckI (okR f t && okR g u))) ∧ Below w.heap.size w w' := by
  have a := AB.start w f t g u
  have C1 := fun W => refCheck_any f t W hf ht
  have C2 := fun W => refCheck_any g u W hg hu
  cases h1 : okR f t <;> cases h2 : okR g u
  all_goals
    rw [h1] at C1
    rw [h2] at C2
    simp only [ckI] at C1 C2
    go_enter Tryd.func76, Tryd.ntmps76
    go_wp2_with fail
    refine (C1 _).mono ?_
    rintro e w1 ⟨rfl, hb⟩
    replace a := a.below hb
    clear hb
    have x2 := a.c2
    have x3 := a.c3
    go_wp2_with (go_at_call 62; refine (C2 _).mono ?_; rintro e w2 ⟨rfl, hb⟩; replace a := a.below hb)
    go_ret
    exact ⟨rfl, a.1⟩

theorem ab_keep {w wc w2 : World} {n : Nat} {f t g u : ByteArray} {r : Nat} {x y : ByteArray} (hH : wc.cell? ⟨n, 0, none⟩ = some (.string f) ∧ wc.cell? ⟨n, 1, none⟩ = some (.string t) ∧ wc.cell? ⟨n + 1, 0, none⟩ = some (.string g) ∧ wc.cell? ⟨n + 1, 1, none⟩ = some (.string u) ∧ AB w wc f t g u ∧ Whole wc r 30 #[.string x, .string y]) (hb : Below wc.heap.size wc w2) (hn : n = w.heap.size) :
    w2.cell? ⟨n, 0, none⟩ = some (.string f) ∧ w2.cell? ⟨n, 1, none⟩ = some (.string t) ∧ w2.cell? ⟨n + 1, 0, none⟩ = some (.string g) ∧ w2.cell? ⟨n + 1, 1, none⟩ = some (.string u) ∧ AB w w2 f t g u ∧ Whole w2 r 30 #[.string x, .string y] := by
  obtain ⟨_, _, _, _, h, hR⟩ := hH
  subst hn
  have a := h.below hb
  exact ⟨a.c0, a.c1, a.c2, a.c3, a, hR.below hb hR.lt⟩

set_option maxRecDepth 100000 in
set_option maxHeartbeats 8000000 in
theorem refMeet_any (f t g u : ByteArray) (w : World) (hf : f.size ≤ 9223372036854775807) (ht : t.size ≤ 9223372036854775807) (hg : g.size ≤ 9223372036854775807) (hu : u.size ≤ 9223372036854775807) :
    Calls Tryd.prog 75 #[.agg #[.string f, .string t], .agg #[.string g, .string u]] w fun e w' => e = .returned (meetV (okR f t && okR g u) (okR (maxS f g) (minE t u)) (maxS f g) (minE t u)) ∧ Below w.heap.size w w' := by
  have a := (AB.start w f t g u).alloc (.cells #[.string ⟨#[]⟩, .string ⟨#[]⟩] 30)
  have R := Whole.new ((w.alloc (.cells #[.string f, .string t] 30)).alloc (.cells #[.string g, .string u] 30)) 30 #[.string ⟨#[]⟩, .string ⟨#[]⟩]
  simp only [World.size_alloc] at R
  have E := fun W => both_any f t g u W hf ht hg hu
  have hM : ∀ ts t W, (Builtin.max_ ts t #[.string f, .string g]).run Tryd.prog W = .ok (.string (maxS f g)) W := fun ts t W => run_maxS ts t f g W
  have HE := Lib.hid (fun W => refEnd_any t u W)
  have z1 := maxS_sz hf hg
  have z2 := minE_sz ht hu
  generalize maxS f g = mx at *
  generalize minE t u = mn at *
  have HK := Lib.hid (fun W => refCheck_any mx mn W z1 z2)
  generalize okR mx mn = m at *
  generalize (okR f t && okR g u) = o at *
  clear hf ht hg hu z1 z2
  cases o with
  | false =>
    simp only [ckI] at E
    go_enter Tryd.func75, Tryd.ntmps75
    go_wp2_with fail
    refine (E _).mono ?_
    rintro e w1 ⟨rfl, hb⟩
    replace a := a.below hb
    replace R := R.below hb R.lt
    have r0 := R.cell 0
    have r1 := R.cell 1
    have s0 := R.fr 0
    have s1 := R.fr 1
    simp only [List.getElem?_toArray, List.getElem?_cons_succ, List.getElem?_cons_zero] at r0 r1
    clear hb R
    go_wp2_with fail
    refine bodyPost_ret (v := meetV false m mx mn) (by simp [meetV, ckI, results, Tryd.results75, go_sem, r0, r1]) rfl ⟨rfl, ?_⟩
    exact (a.1.setCell (by simp; omega) _).setCell (by simp; omega) _
  | true =>
    simp only [ckI] at E
    go_enter Tryd.func75, Tryd.ntmps75
    go_wp2_with fail
    refine (E _).mono ?_
    rintro e w1 ⟨rfl, hb⟩
    replace a := a.below hb
    replace R := R.below hb R.lt
    have x0 := a.c0
    have x1 := a.c1
    have x2 := a.c2
    have x3 := a.c3
    clear hb E
    have ad : AB w w1.drew f t g u := a.below (Below.refl _ _).drew
    have y0 := fun o => (ad.alloc o).c0
    have y1 := fun o => (ad.alloc o).c1
    have y2 := fun o => (ad.alloc o).c2
    have y3 := fun o => (ad.alloc o).c3
    have hS : w1.drew.cell? ⟨w.heap.size, 0, none⟩ = some (.string f) ∧ w1.drew.cell? ⟨w.heap.size, 1, none⟩ = some (.string t) ∧ w1.drew.cell? ⟨w.heap.size + 1, 0, none⟩ = some (.string g) ∧ w1.drew.cell? ⟨w.heap.size + 1, 1, none⟩ = some (.string u) := ⟨ad.c0, ad.c1, ad.c2, ad.c3⟩
    clear x0 x1 x2 x3
    go_wp2_with fail
    refine wp_region_held_drew (S := fun w' => w'.cell? ⟨w.heap.size, 0, none⟩ = some (.string f) ∧ w'.cell? ⟨w.heap.size, 1, none⟩ = some (.string t) ∧ w'.cell? ⟨w.heap.size + 1, 0, none⟩ = some (.string g) ∧ w'.cell? ⟨w.heap.size + 1, 1, none⟩ = some (.string u)) (by kernel_rfl) hS (fun hHeld => ?_)
    clear hS
    refine wpAnyH_take (i := 0) (v := ?_) rfl (by kernel_rfl) (by kernel_rfl) (by kernel_rfl) (fun _ _ _ h => h) (Or.inl ⟨by rfl, ?_⟩) (by assumption) ?_
    rotate_left
    · intro w hSw
      go_simp
      try with_reducible rfl
    simp only [Act.put, List.getElem_toArray, List.getElem_cons_zero, List.setIfInBounds_toArray, List.set_cons_zero, List.set_cons_succ]
    refine wpAnyH_take (i := 1) (v := ?_) rfl (by kernel_rfl) (by kernel_rfl) (by kernel_rfl) (fun _ _ _ h => h) (Or.inl ⟨by rfl, ?_⟩) (by assumption) ?_
    rotate_left
    · intro w hSw
      go_simp
      try with_reducible rfl
    simp only [Act.put, List.getElem_toArray, List.getElem_cons_succ, List.getElem_cons_zero, List.setIfInBounds_toArray, List.set_cons_zero, List.set_cons_succ]
    refine wpAnyH_take (i := 2) (v := ?_) rfl (by kernel_rfl) (by kernel_rfl) (by kernel_rfl) (fun _ _ _ h => h) (Or.inl ⟨by rfl, ?_⟩) (by assumption) ?_
    rotate_left
    · intro w hSw
      go_simp
      try with_reducible rfl
    simp only [Act.put, List.getElem_toArray, List.getElem_cons_succ, List.getElem_cons_zero, List.setIfInBounds_toArray, List.set_cons_zero, List.set_cons_succ]
    refine wpAnyH_take (i := 3) (v := ?_) rfl (by kernel_rfl) (by kernel_rfl) (by kernel_rfl) (fun _ _ _ h => h) (Or.inl ⟨by rfl, ?_⟩) (by assumption) ?_
    rotate_left
    · intro w hSw
      go_simp
      try with_reducible rfl
    simp only [Act.put, List.getElem_toArray, List.getElem_cons_succ, List.getElem_cons_zero, List.setIfInBounds_toArray, List.set_cons_zero, List.set_cons_succ]
    refine wpAnyH_take (i := 4) (v := ?_) rfl (by kernel_rfl) (by kernel_rfl) (by kernel_rfl) (fun _ _ _ h => h) (Or.inl ⟨by rfl, ?_⟩) (by assumption) ?_
    rotate_left
    · intro w hSw
      go_simp
      try with_reducible rfl
    simp only [Act.put, List.getElem_toArray, List.getElem_cons_succ, List.getElem_cons_zero, List.setIfInBounds_toArray, List.set_cons_zero, List.set_cons_succ]
    refine wpAnyH_take (i := 5) (v := ?_) rfl (by kernel_rfl) (by kernel_rfl) (by kernel_rfl) (fun _ _ _ h => h) (Or.inl ⟨by rfl, ?_⟩) (by assumption) ?_
    rotate_left
    · intro w hSw
      go_simp
      try with_reducible rfl
    simp only [Act.put, List.getElem_toArray, List.getElem_cons_succ, List.getElem_cons_zero, List.setIfInBounds_toArray, List.set_cons_zero, List.set_cons_succ]
    refine wpAnyH_take (i := 6) (v := ?_) rfl (by kernel_rfl) (by kernel_rfl) (by kernel_rfl) (fun _ _ _ h => h) (Or.inl ⟨by rfl, ?_⟩) (by assumption) ?_
    rotate_left
    · intro w hSw
      go_simp
      try with_reducible rfl
    simp only [Act.put, List.getElem_toArray, List.getElem_cons_succ, List.getElem_cons_zero, List.setIfInBounds_toArray, List.set_cons_zero, List.set_cons_succ]
    refine wpAnyH_take (i := 7) (v := ?_) rfl (by kernel_rfl) (by kernel_rfl) (by kernel_rfl) (fun _ _ _ h => h) (Or.inl ⟨by rfl, ?_⟩) (by assumption) ?_
    rotate_left
    · intro w hSw
      go_simp
      try with_reducible rfl
    simp only [Act.put, List.getElem_toArray, List.getElem_cons_succ, List.getElem_cons_zero, List.setIfInBounds_toArray, List.set_cons_zero, List.set_cons_succ]
    refine wpAnyH_take (i := 8) (v := ?_) rfl (by kernel_rfl) (by kernel_rfl) (by kernel_rfl) (fun _ _ _ h => h) (Or.inl ⟨by rfl, ?_⟩) (by assumption) ?_
    rotate_left
    · intro w hSw
      go_simp
      try with_reducible rfl
    simp only [Act.put, List.getElem_toArray, List.getElem_cons_succ, List.getElem_cons_zero, List.setIfInBounds_toArray, List.set_cons_zero, List.set_cons_succ]
    refine wpAnyH_ready (rs := [9, 11]) (by kernel_rfl) (by simp) ?_
    refine AllReadyH.cons rfl (fun K hK => ?_) (AllReadyH.cons rfl (fun K hK => ?_) AllReadyH.nil)
    · go_simp
      refine (HE.out _).mono ?_
      rintro e w2 ⟨rfl, rfl⟩
      refine hK.out _ _ ?_ (fun hHeld' => ?_)
      · exact hHeld
      clear hK K hHeld
      have hHeld := hHeld'
      clear hHeld'
      try simp only [Act.put, List.getElem_toArray, List.getElem_cons_succ, List.getElem_cons_zero, List.setIfInBounds_toArray, List.set_cons_zero, List.set_cons_succ]
      refine wpAnyH_take (i := 10) (v := ?_) rfl (by kernel_rfl) (by kernel_rfl) (by kernel_rfl) (fun _ _ _ h => h) (Or.inl ⟨by rfl, ?_⟩) (by assumption) ?_
      rotate_left
      · intro w hSw
        go_simp
        try with_reducible rfl
      simp only [Act.put, List.getElem_toArray, List.getElem_cons_succ, List.getElem_cons_zero, List.setIfInBounds_toArray, List.set_cons_zero, List.set_cons_succ]
      refine wpAnyH_ready (rs := [11]) (by kernel_rfl) (by simp) ?_
      refine AllReadyH.cons rfl (fun K hK => ?_) AllReadyH.nil
      go_simp
      refine hK.out _ _ ?_ (fun hHeld' => ?_)
      · exact ⟨y0 _, y1 _, y2 _, y3 _⟩
      clear hK K hHeld
      have hHeld := hHeld'
      clear hHeld'
      try simp only [Act.put, List.getElem_toArray, List.getElem_cons_succ, List.getElem_cons_zero, List.setIfInBounds_toArray, List.set_cons_zero, List.set_cons_succ]
      refine wpAnyH_ready (rs := [12]) (by kernel_rfl) (by simp) ?_
      refine AllReadyH.cons rfl (fun K hK => ?_) AllReadyH.nil
      go_simp
      refine hK.out _ _ ?_ (fun hHeld' => ?_)
      · exact ⟨y0 _, y1 _, y2 _, y3 _⟩
      clear hK K hHeld
      have hHeld := hHeld'
      clear hHeld'
      try simp only [Act.put, List.getElem_toArray, List.getElem_cons_succ, List.getElem_cons_zero, List.setIfInBounds_toArray, List.set_cons_zero, List.set_cons_succ]
      refine wpAnyH_done (by kernel_rfl) ?_ _
      have X2 : Whole (w1.drew.alloc (.cells #[.string mx, .string mn] 30)) w1.heap.size 30 #[.string mx, .string mn] := Whole.new w1.drew 30 #[.string mx, .string mn]
      have R2 := (show Whole w1.drew (w.heap.size + 1 + 1) 30 #[.string ⟨#[]⟩, .string ⟨#[]⟩] from R).alloc (.cells #[.string mx, .string mn] 30)
      have b3 := (ad.alloc (.cells #[.string mx, .string mn] 30)).1
      have q0 := X2.cell 0
      have q1 := X2.cell 1
      simp only [List.getElem?_toArray, List.getElem?_cons_succ, List.getElem?_cons_zero] at q0 q1
      clear y0 y1 y2 y3 hHeld a ad R
      simp only [Exit.then]
      go_wp2_with fail
      refine (HK.out _).mono ?_
      rintro e w3 ⟨rfl, hb3⟩
      have R3 := R2.below hb3 R2.lt
      have X3 := X2.below hb3 X2.lt
      have b4 := b3.trans (hb3.mono b3.size)
      clear X2 R2 b3 hb3 q0 q1
      have r0 := R3.cell 0
      have r1 := R3.cell 1
      have s0 := R3.fr 0
      have s1 := R3.fr 1
      have v0 := X3.cell 0
      have v1 := X3.cell 1
      simp only [List.getElem?_toArray, List.getElem?_cons_succ, List.getElem?_cons_zero] at r0 r1 v0 v1
      clear R3 X3
      cases m with
      | false =>
        go_wp2_with fail
        refine bodyPost_ret (v := meetV true false mx mn) (by simp [meetV, ckI, results, Tryd.results75, go_sem, r0, r1]) rfl ⟨rfl, ?_⟩
        exact (b4.setCell (by simp; omega) _).setCell (by simp; omega) _
      | true =>
        go_wp2_with fail
        refine bodyPost_ret (v := meetV true true mx mn) (by simp [meetV, ckI, results, Tryd.results75, go_sem, r0, r1]) rfl ⟨rfl, ?_⟩
        exact (b4.setCell (by simp; omega) _).setCell (by simp; omega) _
    · go_simp
      refine hK.out _ _ ?_ (fun hHeld' => ?_)
      · exact ⟨y0 _, y1 _, y2 _, y3 _⟩
      clear hK K hHeld
      have hHeld := hHeld'
      clear hHeld'
      try simp only [Act.put, List.getElem_toArray, List.getElem_cons_succ, List.getElem_cons_zero, List.setIfInBounds_toArray, List.set_cons_zero, List.set_cons_succ]
      refine wpAnyH_ready (rs := [9]) (by kernel_rfl) (by simp) ?_
      refine AllReadyH.cons rfl (fun K hK => ?_) AllReadyH.nil
      go_simp
      refine (HE.out _).mono ?_
      rintro e w2 ⟨rfl, rfl⟩
      refine hK.out _ _ ?_ (fun hHeld' => ?_)
      · exact hHeld
      clear hK K hHeld
      have hHeld := hHeld'
      clear hHeld'
      try simp only [Act.put, List.getElem_toArray, List.getElem_cons_succ, List.getElem_cons_zero, List.setIfInBounds_toArray, List.set_cons_zero, List.set_cons_succ]
      refine wpAnyH_take (i := 10) (v := ?_) rfl (by kernel_rfl) (by kernel_rfl) (by kernel_rfl) (fun _ _ _ h => h) (Or.inl ⟨by rfl, ?_⟩) (by assumption) ?_
      rotate_left
      · intro w hSw
        go_simp
        try with_reducible rfl
      simp only [Act.put, List.getElem_toArray, List.getElem_cons_succ, List.getElem_cons_zero, List.setIfInBounds_toArray, List.set_cons_zero, List.set_cons_succ]
      refine wpAnyH_ready (rs := [12]) (by kernel_rfl) (by simp) ?_
      refine AllReadyH.cons rfl (fun K hK => ?_) AllReadyH.nil
      go_simp
      refine hK.out _ _ ?_ (fun hHeld' => ?_)
      · exact ⟨y0 _, y1 _, y2 _, y3 _⟩
      clear hK K hHeld
      have hHeld := hHeld'
      clear hHeld'
      try simp only [Act.put, List.getElem_toArray, List.getElem_cons_succ, List.getElem_cons_zero, List.setIfInBounds_toArray, List.set_cons_zero, List.set_cons_succ]
      refine wpAnyH_done (by kernel_rfl) ?_ _
      have X2 : Whole (w1.drew.alloc (.cells #[.string mx, .string mn] 30)) w1.heap.size 30 #[.string mx, .string mn] := Whole.new w1.drew 30 #[.string mx, .string mn]
      have R2 := (show Whole w1.drew (w.heap.size + 1 + 1) 30 #[.string ⟨#[]⟩, .string ⟨#[]⟩] from R).alloc (.cells #[.string mx, .string mn] 30)
      have b3 := (ad.alloc (.cells #[.string mx, .string mn] 30)).1
      have q0 := X2.cell 0
      have q1 := X2.cell 1
      simp only [List.getElem?_toArray, List.getElem?_cons_succ, List.getElem?_cons_zero] at q0 q1
      clear y0 y1 y2 y3 hHeld a ad R
      simp only [Exit.then]
      go_wp2_with fail
      refine (HK.out _).mono ?_
      rintro e w3 ⟨rfl, hb3⟩
      have R3 := R2.below hb3 R2.lt
      have X3 := X2.below hb3 X2.lt
      have b4 := b3.trans (hb3.mono b3.size)
      clear X2 R2 b3 hb3 q0 q1
      have r0 := R3.cell 0
      have r1 := R3.cell 1
      have s0 := R3.fr 0
      have s1 := R3.fr 1
      have v0 := X3.cell 0
      have v1 := X3.cell 1
      simp only [List.getElem?_toArray, List.getElem?_cons_succ, List.getElem?_cons_zero] at r0 r1 v0 v1
      clear R3 X3
      cases m with
      | false =>
        go_wp2_with fail
        refine bodyPost_ret (v := meetV true false mx mn) (by simp [meetV, ckI, results, Tryd.results75, go_sem, r0, r1]) rfl ⟨rfl, ?_⟩
        exact (b4.setCell (by simp; omega) _).setCell (by simp; omega) _
      | true =>
        go_wp2_with fail
        refine bodyPost_ret (v := meetV true true mx mn) (by simp [meetV, ckI, results, Tryd.results75, go_sem, r0, r1]) rfl ⟨rfl, ?_⟩
        exact (b4.setCell (by simp; omega) _).setCell (by simp; omega) _
end Go.Proofs.YtkkkppbcjmeapaaDoor
