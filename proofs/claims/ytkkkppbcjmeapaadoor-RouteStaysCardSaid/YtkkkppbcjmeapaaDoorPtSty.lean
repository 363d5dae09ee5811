/- Two maps behind pointers that a closure holds; what the closure says; lists that were returned are cleared. Condition: they lie in memory. -/
import Derived.Test.YtkkkppbcjmeapaaDoorPtGho
import Derived.Test.YtkkkppbcjmeapaaDoorPlStay
import Derived.Lib.SliceRun
import Derived.Deep.RegionHeld3
import Derived.Deep.DeepFit
import Derived.Deep.RegionWith
namespace Go.Proofs.YtkkkppbcjmeapaaDoor
open Go.RowKit

/-- A map behind a pointer's own cell. -/
structure StyL (w W : World) (PM B k : Nat) (d : List Pt) (acc : Nat → Int × Int) : Prop where
  g : Stg w W B k d acc
  pm : Whole W PM 25 #[.pointer (some ⟨B, 0, none⟩)]
structure StyM (w W : World) (PM PC B C R : Nat) (X Y : ByteArray) (d d1 : List Pt) : Prop where
  s : St w W B d1
  c : St w W C d
  ne : C ≠ B
  pm : Whole W PM 25 #[.pointer (some ⟨B, 0, none⟩)]
  pc : Whole W PC 25 #[.pointer (some ⟨C, 0, none⟩)]
  r : Whole W R 30 #[.string X, .string Y]
section
variable {w W W' : World} {PM PC B C R k : Nat} {X Y : ByteArray} {d d1 d2 : List Pt} {acc acc' : Nat → Int × Int}
theorem StyL.keep (h : StyL w W PM B k d acc) (hb : Below W.heap.size W W') : StyL w W' PM B k d acc := ⟨h.g.keep hb, h.pm.below hb h.pm.lt⟩
theorem StyL.move {k' : Nat} (h : StyL w W PM B k d acc) (hS : Stg w W' B k' d1 acc') (hg : W.grownBy W' (some B)) : StyL w W' PM B k' d1 acc' := ⟨hS, h.pm.other (type_apart h.g.s.m (by decide) h.pm) hg⟩
theorem StyM.keep (h : StyM w W PM PC B C R X Y d d1) (hb : Below W.heap.size W W') : StyM w W' PM PC B C R X Y d d1 := ⟨h.s.keep hb, h.c.keep hb, h.ne, h.pm.below hb h.pm.lt, h.pc.below hb h.pc.lt, h.r.below hb h.r.lt⟩
theorem StyM.move (h : StyM w W PM PC B C R X Y d d1) (hS : St w W' B d2) (hg : W.grownBy W' (some B)) : StyM w W' PM PC B C R X Y d d2 :=
  ⟨hS, h.c.other h.s h.ne hg, h.ne, h.pm.other (type_apart h.s.m (by decide) h.pm) hg, h.pc.other (type_apart h.s.m (by decide) h.pc) hg, h.r.other (range_apart h.s.m h.r) hg⟩
end
theorem pkeep {W0 W W' : World} {PM PC : Nat} {x y : Value} (h : W.cell? ⟨PM, 0, none⟩ = some x ∧ W.cell? ⟨PC, 0, none⟩ = some y ∧ Below W0.heap.size W0 W) (hb : Below W.heap.size W W') :
    W'.cell? ⟨PM, 0, none⟩ = some x ∧ W'.cell? ⟨PC, 0, none⟩ = some y ∧ Below W0.heap.size W0 W' :=
  ⟨(hb.cell (lt_of_cellR h.1)).trans h.1, (hb.cell (lt_of_cellR h.2.1)).trans h.2.1, h.2.2.trans (hb.mono h.2.2.size)⟩
set_option maxRecDepth 100000 in
set_option maxHeartbeats 4000000 in
theorem same_any {w W : World} {PM PC B C R : Nat} {X Y : ByteArray} {d d1 : List Pt} (T : StyM w W PM PC B C R X Y d d1) (hd : d.length ≤ 900) (hd1 : d1.length ≤ 900) :
    Calls Tryd.prog 28 #[.pointer (some ⟨PM, 0, none⟩), .pointer (some ⟨PC, 0, none⟩)] W fun e W' => BoolIff (rgs d1 = rgs d ∧ grs d1 = grs d) e ∧ Below W.heap.size W W' := by
  have TT := Lib.hid T
  have HL := Lib.hid (And.intro hd hd1)
  have x0 := (T.pm.cell 0).trans (show _ = some (Value.pointer (some ⟨B, 0, none⟩)) from rfl)
  have x1 := (T.pc.cell 0).trans (show _ = some (Value.pointer (some ⟨C, 0, none⟩)) from rfl)
  have HS : Hid (W.cell? ⟨PM, 0, none⟩ = some (.pointer (some ⟨B, 0, none⟩)) ∧ W.cell? ⟨PC, 0, none⟩ = some (.pointer (some ⟨C, 0, none⟩)) ∧ Below W.heap.size W W) := Lib.hid ⟨x0, x1, Below.refl _ _⟩
  have HS' : Hid (W.drew.cell? ⟨PM, 0, none⟩ = some (.pointer (some ⟨B, 0, none⟩)) ∧ W.drew.cell? ⟨PC, 0, none⟩ = some (.pointer (some ⟨C, 0, none⟩)) ∧ Below W.heap.size W W.drew) := Lib.hid ⟨x0, x1, (Below.refl _ _).drew⟩
  have RB := Lib.hid (fun (W1 : World) (h : W1.cell? ⟨PM, 0, none⟩ = some (.pointer (some ⟨B, 0, none⟩)) ∧ W1.cell? ⟨PC, 0, none⟩ = some (.pointer (some ⟨C, 0, none⟩)) ∧ Below W.heap.size W W1) => ranges_st (TT.out.s.keep h.2.2) (n := d1.length) rfl HL.out.2)
  have RC := Lib.hid (fun (W1 : World) (h : W1.cell? ⟨PM, 0, none⟩ = some (.pointer (some ⟨B, 0, none⟩)) ∧ W1.cell? ⟨PC, 0, none⟩ = some (.pointer (some ⟨C, 0, none⟩)) ∧ Below W.heap.size W W1) => ranges_st (TT.out.c.keep h.2.2) (n := d.length) rfl HL.out.1)
  have GB := Lib.hid (fun (W1 : World) (h : W1.cell? ⟨PM, 0, none⟩ = some (.pointer (some ⟨B, 0, none⟩)) ∧ W1.cell? ⟨PC, 0, none⟩ = some (.pointer (some ⟨C, 0, none⟩)) ∧ Below W.heap.size W W1) => groups_st (TT.out.s.keep h.2.2) (n := d1.length) rfl HL.out.2)
  have GC := Lib.hid (fun (W1 : World) (h : W1.cell? ⟨PM, 0, none⟩ = some (.pointer (some ⟨B, 0, none⟩)) ∧ W1.cell? ⟨PC, 0, none⟩ = some (.pointer (some ⟨C, 0, none⟩)) ∧ Below W.heap.size W W1) => groups_st (TT.out.c.keep h.2.2) (n := d.length) rfl HL.out.1)
  have hr1 : Hid ((rgs d1).length ≤ 1000000 ∧ (grs d1).length ≤ 1000000) := Lib.hid (by rw [rgs, grs, List.length_map, List.length_map]; omega)
  by_cases hR : rgs d1 = rgs d
  · as_aux_lemma =>
    have HR := Lib.hid hR
    clear hR x0 x1 hd hd1 T
    go_enter Tryd.func28, Tryd.ntmps28
    go_wp2_with fail
    go_region_held3 (fun w' => w'.cell? ⟨PM, 0, none⟩ = some (.pointer (some ⟨B, 0, none⟩)) ∧ w'.cell? ⟨PC, 0, none⟩ = some (.pointer (some ⟨C, 0, none⟩)) ∧ Below W.heap.size W w')
      (first | exact HS.out | exact HS'.out | (refine pkeep ?_ hb9; assumption) | assumption)
      (first
        | (go_at_call 19; go_fit (RB.out _ (by assumption)); rintro e w2 ⟨a1, c1, rfl, hV1, _, hb9⟩; have V1 := Lib.hid hV1)
        | (go_at_call 19; go_fit (RC.out _ (by assumption)); rintro e w3 ⟨a2, c2, rfl, hV2, _, hb9⟩; have V2 := Lib.hid hV2; have V1 := Lib.hid (V1.out.keep hb9))
        | (go_at_call 26; go_fit (equalR_any _ _ _ _ _ V1.out V2.out hr1.out.1); rintro e w4 ⟨⟨b, rfl, hbb⟩, hb9⟩; obtain rfl : b = true := hbb.2 HR.out; clear hbb)
        | (go_at_call 20; go_fit (GB.out _ (by assumption)); rintro e w5 ⟨a3, c3, rfl, hV3, _, hb9⟩; have V3 := Lib.hid hV3)
        | (go_at_call 20; go_fit (GC.out _ (by assumption)); rintro e w6 ⟨a4, c4, rfl, hV4, _, hb9⟩; have V4 := Lib.hid hV4; have V3 := Lib.hid (V3.out.keep hb9))
        | (go_at_call 24; go_fit (equalI_any _ _ _ _ _ V3.out V4.out hr1.out.2); rintro e w7 ⟨⟨b2, rfl, hbb2⟩, hb9⟩; have HBB := Lib.hid hbb2; clear hbb2))
    rename_i hF
    have BE := Lib.hid hF.2.2
    clear hF
    go_wp2_with fail
    go_ret
    exact ⟨⟨_, rfl, ⟨fun h => ⟨HR.out, HBB.out.1 h⟩, fun h => HBB.out.2 h.2⟩⟩, BE.out⟩
  · as_aux_lemma =>
    have HR := Lib.hid hR
    have RBb := Lib.hid (fun (W1 : World) (h : Below W.heap.size W W1) => ranges_st (TT.out.s.keep h) (n := d1.length) rfl HL.out.2)
    have RCc := Lib.hid (fun (W1 : World) (h : Below W.heap.size W W1) => ranges_st (TT.out.c.keep h) (n := d.length) rfl HL.out.1)
    have BB := Lib.hid ((Below.refl W.heap.size W).drew)
    clear hR hd hd1 T RB RC GB GC HS HS'
    go_enter Tryd.func28, Tryd.ntmps28
    go_wp2_with fail
    go_region_with (first
        | (go_at_call 19; go_fit (RBb.out _ BB.out); rintro e w2 ⟨a1, c1, rfl, hV1, _, hb9⟩; have V1 := Lib.hid hV1; have x1 := (hb9.cell (lt_of_cellR x1)).trans x1; have BB := Lib.hid (BB.out.trans (hb9.mono BB.out.size)); clear hV1 hb9)
        | (go_at_call 19; go_fit (RCc.out _ BB.out); rintro e w3 ⟨a2, c2, rfl, hV2, _, hb9⟩; have V2 := Lib.hid hV2; have V1 := Lib.hid (V1.out.keep hb9); have BB := Lib.hid (BB.out.trans (hb9.mono BB.out.size)); clear hV2 hb9)
        | (go_at_call 26; go_fit (equalR_any _ _ _ _ _ V1.out V2.out hr1.out.1); rintro e w4 ⟨⟨b, rfl, hbb⟩, hb9⟩; obtain rfl : b = false := Bool.eq_false_iff.2 (fun h => HR.out (hbb.1 h)); have BB := Lib.hid (BB.out.trans (hb9.mono BB.out.size)); clear hbb hb9))
    all_goals
      go_wp2_with fail
      go_ret
      exact ⟨⟨_, rfl, ⟨fun h => (by cases h), fun h => absurd h.1 HR.out⟩⟩, by assumption⟩
theorem below_cells {B b : Nat} (hb : B ≤ b) : ∀ (vs : List Value) (o : Nat) {a w : World}, Below B a w → Below B a (w.setCells b o vs)
  | [], _, _, _, h => h
  | v :: r, o, a, w, h => by
    rw [World.setCells]
    exact below_cells hb r (o + 1) (h.setCell (p := ⟨b, o, none⟩) hb v)
theorem one_zero {z : Value} (n : Nat) (h : ∀ u ∈ z.cells, u.oneCell' = true) (hz : 0 < z.cells.size) : ∀ u ∈ (Builtin.zeroCells z.cells n).toList, u.oneCell' = true := by
  intro u hu
  simp only [Builtin.zeroCells, Array.toList_map, List.mem_map, Array.mem_toList_iff, Array.mem_range] at hu
  obtain ⟨i, _, rfl⟩ := hu
  have hi : i % z.cells.size < z.cells.size := Nat.mod_lt _ hz
  rw [getElem!_pos z.cells _ hi]
  exact h _ (Array.getElem_mem hi)
theorem run_clr_rng (W : World) (base : Nat) (v : Value) (n : Nat) (xs : List Value) (hown : W.ownsRow base 30 2 v n xs) :
    ∃ W', (∀ ty, (Builtin.clear_ #[45] ty #[v]).run Tryd.prog W = .ok (.tuple #[]) W') ∧ Below base W W' := by
  obtain ⟨a, c, rfl⟩ := len_own' hown
  by_cases hn : n = 0
  · subst hn
    refine ⟨W, fun ty => ?_, Below.refl _ _⟩
    cases a <;> simp [Builtin.clear_, run_underlying Tryd.underlying45]
  · obtain ⟨m, rfl⟩ : ∃ m, n = m + 1 := ⟨n - 1, by omega⟩
    rcases hown.2 with ⟨h, _⟩ | ⟨g, cap, cur, h, h3, _⟩
    · exact absurd h (by simp)
    · injection h with h1 h2 h4
      subst h1
      have hl : (Builtin.zeroCells (Value.cells (.agg #[.string ⟨#[]⟩, .string ⟨#[]⟩])) (m + 1)).toList.length = (m + 1) * 2 := by
        rw [Array.length_toList, size_zeroCells]; rfl
      have hz : ∀ w, (zeroValue 30).run Tryd.prog w = .ok (.agg #[.string ⟨#[]⟩, .string ⟨#[]⟩]) w := fun w => by kernel_rfl
      have hst := run_storeCells_cells (P := Tryd.prog) g 0 (Builtin.zeroCells (Value.cells (.agg #[.string ⟨#[]⟩, .string ⟨#[]⟩])) (m + 1)).toList 0 W (fun j hj => by
        rw [hl] at hj
        rw [Nat.zero_add, hown.cellAt j hj, List.getElem?_eq_getElem (by rw [hown.1]; exact hj)]; rfl) (fun j hj => by rw [Nat.zero_add]; exact hown.frozenAt j) (one_zero _ (by decide) (by decide))
      refine ⟨W.setCells g 0 (Builtin.zeroCells (Value.cells (.agg #[.string ⟨#[]⟩, .string ⟨#[]⟩])) (m + 1)).toList, fun ty => ?_, below_cells h3 _ _ (Below.refl _ _)⟩
      rw [Nat.add_zero] at hst
      simp [Builtin.clear_, run_underlying Tryd.underlying45, hz, hst]
theorem run_clr_int (W : World) (base : Nat) (v : Value) (n : Nat) (xs : List Value) (hown : W.ownsRow base 3 1 v n xs) :
    ∃ W', (∀ ty, (Builtin.clear_ #[47] ty #[v]).run Tryd.prog W = .ok (.tuple #[]) W') ∧ Below base W W' := by
  obtain ⟨a, c, rfl⟩ := len_own' hown
  by_cases hn : n = 0
  · subst hn
    refine ⟨W, fun ty => ?_, Below.refl _ _⟩
    cases a <;> simp [Builtin.clear_, run_underlying Tryd.underlying47]
  · obtain ⟨m, rfl⟩ : ∃ m, n = m + 1 := ⟨n - 1, by omega⟩
    rcases hown.2 with ⟨h, _⟩ | ⟨g, cap, cur, h, h3, _⟩
    · exact absurd h (by simp)
    · injection h with h1 h2 h4
      subst h1
      have hl : (Builtin.zeroCells (Value.cells (.int .i64 0)) (m + 1)).toList.length = (m + 1) * 1 := by
        rw [Array.length_toList, size_zeroCells]; rfl
      have hz : ∀ w, (zeroValue 3).run Tryd.prog w = .ok (.int .i64 0) w := fun w => by kernel_rfl
      have hst := run_storeCells_cells (P := Tryd.prog) g 0 (Builtin.zeroCells (Value.cells (.int .i64 0)) (m + 1)).toList 0 W (fun j hj => by
        rw [hl] at hj
        rw [Nat.zero_add, hown.cellAt j hj, List.getElem?_eq_getElem (by rw [hown.1]; exact hj)]; rfl) (fun j hj => by rw [Nat.zero_add]; exact hown.frozenAt j) (one_zero _ (by decide) (by decide))
      refine ⟨W.setCells g 0 (Builtin.zeroCells (Value.cells (.int .i64 0)) (m + 1)).toList, fun ty => ?_, below_cells h3 _ _ (Below.refl _ _)⟩
      rw [Nat.add_zero] at hst
      simp [Builtin.clear_, run_underlying Tryd.underlying47, hz, hst]
end Go.Proofs.YtkkkppbcjmeapaaDoor
