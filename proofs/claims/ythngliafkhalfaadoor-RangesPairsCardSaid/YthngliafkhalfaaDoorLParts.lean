/- RangesParts returns true; memory that lay stays. Condition: the types' shapes lie as the program's start lays them. -/
import Derived.Test.YthngliafkhalfaaDoorAB
import Derived.Test.YthngliafkhalfaaDoorPlRng3
import Derived.Deep.Cut
namespace Go.Proofs.YthngliafkhalfaaDoor
open Go.RowKit

theorem AB.grown {w0 w w' : World} {f t g u : ByteArray} {row : Option Nat} (h : AB w0 w f t g u) (hg : w.grownBy w' row) (hr : ∀ k, row = some k → w0.heap.size + 2 ≤ k) : AB w0 w' f t g u := by
  have hb := (Below.refl (w0.heap.size + 2) w).grown hg h.2.2.lt hr
  exact ⟨h.1.trans (hb.mono (by omega)), h.2.1.below hb (by omega), h.2.2.below hb (by omega)⟩
theorem Whole.grown {w w' : World} {b : Nat} {t : TypeId} {cs : Array Value} {row : Option Nat} (h : Whole w b t cs) (hg : w.grownBy w' row) (hr : ∀ k, row = some k → b < k) : Whole w' b t cs :=
  (hg.block b h.lt (fun e => absurd (hr b e.symm) (Nat.lt_irrefl b))).trans h
/-- Cells that are known. -/
def PC (w : World) (g : Nat) (xs : List Value) : Prop := ∀ (j : Nat) v, xs[j]? = some v → w.cell? ⟨g, j, none⟩ = some v
theorem news_one {w : World} {b : Nat} {x y : ByteArray} (h : CellsR w b 0 [(x, y)]) : ∀ j u, [Value.string x, .string y][j]? = some u → w.cell? ((⟨b, 0, none⟩ : Addr).add j) = some u := fun j u hj => by
  match j with
  | 0 => cases hj; exact (h 0 _ rfl).1
  | 1 => cases hj; exact (h 0 _ rfl).2
  | j + 2 => cases hj
theorem news_twice {w : World} {b : Nat} {x y x' y' : ByteArray} (h : CellsR w b 0 [(x, y), (x', y')]) : ∀ j u, [Value.string x, .string y, .string x', .string y'][j]? = some u → w.cell? ((⟨b, 0, none⟩ : Addr).add j) = some u := fun j u hj => by
  match j with
  | 0 => cases hj; exact (h 0 _ rfl).1
  | 1 => cases hj; exact (h 0 _ rfl).2
  | 2 => cases hj; exact (h 1 _ rfl).1
  | 3 => cases hj; exact (h 1 _ rfl).2
  | j + 4 => cases hj

set_option maxRecDepth 100000 in
set_option maxHeartbeats 16000000 in
theorem parts_TTT (f t g u : ByteArray) (w : World) (hsh : w.ShapedOpen Tryd.prog) (hs1 : sh f t = true) (hs2 : sh g u = true) (d0 : (f.toList == g.toList) = false) (d1 : (f.toList == u.toList) = false) (d2 : (u.toList == g.toList) = false) (d3 : (g.toList == u.toList) = false) (d4 : (g.toList == f.toList) = false) (d5 : (u.toList == f.toList) = false) (e0 : (g.toList == ([] : List UInt8)) = false) (e1 : (u.toList == ([] : List UInt8)) = false)
    (C1 : ∀ W : World, Calls Tryd.prog 13 #[.agg #[.string f, .string t], .agg #[.string g, .string u]] W fun e w' => e = .returned (.tuple #[.agg #[.string g, .string u], .bool true, .int .i64 0]) ∧ Below W.heap.size W w')
    (C2 : ∀ W : World, Calls Tryd.prog 14 #[.agg #[.string f, .string t], .agg #[.string g, .string u]] W fun e w' => ∃ v, e = .returned (.tuple #[v, .int .i64 0]) ∧ OutR w' v [(f, g), (u, t)] ∧ Below W.heap.size W w') :
    Calls Tryd.prog 4 #[.agg #[.string f, .string t], .agg #[.string g, .string u]] w fun e w' => e = .returned (.bool true) ∧ Below w.heap.size w w' := by
  obtain ⟨i0, hi, hz0, hz1, hz2⟩ := info_parts infoR
  have HS := Lib.hid hsh
  have a := AB.start w f t g u
  clear hsh
  have x0 := a.c0
  have x1 := a.c1
  have x2 := a.c2
  have x3 := a.c3
  go_enter Tryd.func4, Tryd.ntmps4
  go_wp2_with (go_at_call 11; refine (short_any _ _ _).mono ?_; rintro e w1 ⟨rfl, hb⟩; replace a := a.below hb; have x0 := a.c0; have x1 := a.c1; have x2 := a.c2; have x3 := a.c3)
  refine (C1 _).mono ?_
  rintro e w3 ⟨rfl, hb⟩
  have R := Whole.new w3 23 #[.string g, .string u]
  replace a := (a.below hb).alloc (.cells #[.string g, .string u] 23)
  clear x0 x1 x2 x3 hb
  have x0 := a.c0
  have x1 := a.c1
  have x2 := a.c2
  have x3 := a.c3
  go_wp2_with fail
  refine (C2 _).mono ?_
  rintro e w4 ⟨v, rfl, hout, hb⟩
  replace a := a.below hb
  replace R := R.below hb R.lt
  clear x0 x1 x2 x3 hb C1 C2
  have hA4 : w.heap.size + 2 ≤ w4.heap.size := a.2.2.lt
  have hR4 : w3.heap.size < w4.heap.size := R.lt
  rcases hout with ⟨h, _⟩ | ⟨_, gl, cap, rfl, hc⟩
  · cases h
  have hc1 := hc.below ((Below.refl _ _).alloc (Nat.le_refl _) (.cells #[] 23)) (Nat.le_refl _)
  clear hc
  have own0 := World.ownsRow_lit (base := w4.heap.size) (e := 23) (size := 2) w4 #[] 0 (Nat.le_refl _) (by unfold maxLen; omega) rfl
  replace a := a.alloc (.cells #[] 23)
  replace R := R.alloc (.cells #[] 23)
  go_upto_region 9 with (first
    | (at_builtin; refine wpList_append_own _ rfl _ _ 29 rfl w4.heap.size 23 i0 (.agg #[.string ⟨#[]⟩, .string ⟨#[]⟩]) 2 32 Tryd.underlying29 hi hz0 hz1 hz2 rfl (by decide) _ _ _ rfl own0 ⟨gl, 0, none⟩ 2 _ [.string f, .string g, .string u, .string t] rfl rfl (news_twice hc1) (by intro u hu; simp at hu; rcases hu with rfl | rfl | rfl | rfl <;> rfl) (by unfold maxLen; omega) (by omega) (by simp <;> omega) ?_; intro v5 w5 hown5 hgrow5 hnil5; replace a := a.grown hgrow5 (fun j hj => Nat.le_trans hA4 (own0.lt j hj).1); replace R := R.grown hgrow5 (fun j hj => by have := (own0.lt j hj).1; omega); have r0 := R.cell 0; have r1 := R.cell 1; simp only [List.getElem?_toArray, List.getElem?_cons_succ, List.getElem?_cons_zero] at r0 r1))
  replace a := a.alloc (.cells #[.string g, .string u] 23)
  replace R := R.alloc (.cells #[.string g, .string u] 23)
  have hs5 : w4.heap.size + 1 ≤ w5.heap.size := by simpa using hgrow5.size
  go_wp2_with (first
    | (at_builtin; refine wpList_append_own _ rfl _ _ 29 rfl w4.heap.size 23 i0 (.agg #[.string ⟨#[]⟩, .string ⟨#[]⟩]) 2 32 Tryd.underlying29 hi hz0 hz1 hz2 rfl (by decide) _ _ _ rfl (hown5.alloc _) ⟨w5.heap.size, 0, none⟩ 1 _ [.string g, .string u] rfl rfl (news_new (by simp)) (by intro u hu; simp at hu; rcases hu with rfl | rfl <;> rfl) (by unfold maxLen; omega) (by omega) (by simp <;> omega) ?_; intro v6 w6 hown6 hgrow6 hnil6; replace a := a.grown hgrow6 (fun j hj => Nat.le_trans hA4 (hown5.lt j hj).1); replace R := R.grown hgrow6 (fun j hj => by have := (hown5.lt j hj).1; omega); have r0 := R.cell 0; have r1 := R.cell 1; simp only [List.getElem?_toArray, List.getElem?_cons_succ, List.getElem?_cons_zero] at r0 r1; have x0 := a.c0; have x1 := a.c1; have x2 := a.c2; have x3 := a.c3))
  obtain ⟨gp, cp, rfl⟩ : ∃ gp cp, v6 = Value.slice (some ⟨gp, 0, none⟩) 3 cp := by
    rcases hown6.2 with ⟨_, h⟩ | ⟨gp, cp, cur, h, _⟩
    · cases h
    · exact ⟨gp, cp, h⟩
  have pc : PC w6 gp [.string f, .string g, .string u, .string t, .string g, .string u] := fun j v hj => by
    have hlt : j < 3 * 2 := by have := (List.getElem?_eq_some_iff.1 hj).1; simpa using this
    rw [hown6.cellAt j hlt]
    exact hj
  clear hown6 hgrow6 hnil6 R r0 r1
  go_loopw [11, 12] (fun av nv wr => AB w wr f t g u ∧ PC wr gp [.string f, .string g, .string u, .string t, .string g, .string u] ∧ ((av = .string f ∧ nv = .int .i64 1) ∨ (av = .string g ∧ nv = .int .i64 2) ∨ (av = .string u ∧ nv = .int .i64 3) ∨ (av = .string t ∧ nv = .int .i64 4))) (fun _ nv _ => (4 - intOf nv).toNat)
  case atStart => exact ⟨a, pc, Or.inl ⟨rfl, rfl⟩⟩
  case round =>
    clear a pc x0 x1 x2 x3
    obtain ⟨a, pc, hrel⟩ := hrel
    rcases hrel with ⟨rfl, rfl⟩ | ⟨rfl, rfl⟩ | ⟨rfl, rfl⟩ | ⟨rfl, rfl⟩
    · go_wp2_with fail
      go_loopw [13, 14] (fun nv iv wr => AB w wr f t g u ∧ PC wr gp [.string f, .string g, .string u, .string t, .string g, .string u] ∧ ((nv = .int .i64 (-1) ∧ iv = .int .i64 0) ∨ (nv = .int .i64 0 ∧ iv = .int .i64 1) ∨ (nv = .int .i64 0 ∧ iv = .int .i64 2) ∨ (nv = .int .i64 0 ∧ iv = .int .i64 3))) (fun _ iv _ => (3 - intOf iv).toNat)
      case atStart => exact ⟨a, pc, Or.inl ⟨rfl, rfl⟩⟩
      case round =>
        clear a pc
        obtain ⟨a, pc, hrel⟩ := hrel
        rcases hrel with ⟨rfl, rfl⟩ | ⟨rfl, rfl⟩ | ⟨rfl, rfl⟩ | ⟨rfl, rfl⟩
        · have y0 := pc 0 _ rfl
          go_wp2_with fail
          go_roundw
          case rel => exact ⟨a, pc, Or.inr (Or.inl ⟨rfl, rfl⟩)⟩
          case measure => simp [intOf]
        · have y0 := pc 2 _ rfl
          go_wp2_with fail
          go_roundw
          case rel => exact ⟨a, pc, Or.inr (Or.inr (Or.inl ⟨rfl, rfl⟩))⟩
          case measure => simp [intOf]
        · have y0 := pc 4 _ rfl
          go_wp2_with fail
          go_roundw
          case rel => exact ⟨a, pc, Or.inr (Or.inr (Or.inr (⟨rfl, rfl⟩)))⟩
          case measure => simp [intOf]
        · have y0 := pc 1 _ rfl
          go_wp2_with fail
          go_roundw
          case rel => exact ⟨a, pc, Or.inr (Or.inl ⟨rfl, rfl⟩)⟩
          case measure => simp [intOf]
    · go_wp2_with fail
      go_loopw [13, 14] (fun nv iv wr => AB w wr f t g u ∧ PC wr gp [.string f, .string g, .string u, .string t, .string g, .string u] ∧ ((nv = .int .i64 (-1) ∧ iv = .int .i64 0) ∨ (nv = .int .i64 (-1) ∧ iv = .int .i64 1) ∨ (nv = .int .i64 (-1) ∧ iv = .int .i64 2) ∨ (nv = .int .i64 2 ∧ iv = .int .i64 3))) (fun _ iv _ => (3 - intOf iv).toNat)
      case atStart => exact ⟨a, pc, Or.inl ⟨rfl, rfl⟩⟩
      case round =>
        clear a pc
        obtain ⟨a, pc, hrel⟩ := hrel
        rcases hrel with ⟨rfl, rfl⟩ | ⟨rfl, rfl⟩ | ⟨rfl, rfl⟩ | ⟨rfl, rfl⟩
        · have y0 := pc 0 _ rfl
          go_wp2_with fail
          go_roundw
          case rel => exact ⟨a, pc, Or.inr (Or.inl ⟨rfl, rfl⟩)⟩
          case measure => simp [intOf]
        · have y0 := pc 2 _ rfl
          go_wp2_with fail
          go_roundw
          case rel => exact ⟨a, pc, Or.inr (Or.inr (Or.inl ⟨rfl, rfl⟩))⟩
          case measure => simp [intOf]
        · have y0 := pc 4 _ rfl
          go_wp2_with fail
          go_roundw
          case rel => exact ⟨a, pc, Or.inr (Or.inr (Or.inr (⟨rfl, rfl⟩)))⟩
          case measure => simp [intOf]
        · have y0 := pc 5 _ rfl
          go_wp2_with fail
          go_roundw
          case rel => exact ⟨a, pc, Or.inr (Or.inr (Or.inl ⟨rfl, rfl⟩))⟩
          case measure => simp [intOf]
    · go_wp2_with fail
      go_loopw [13, 14] (fun nv iv wr => AB w wr f t g u ∧ PC wr gp [.string f, .string g, .string u, .string t, .string g, .string u] ∧ ((nv = .int .i64 (-1) ∧ iv = .int .i64 0) ∨ (nv = .int .i64 (-1) ∧ iv = .int .i64 1) ∨ (nv = .int .i64 1 ∧ iv = .int .i64 2) ∨ (nv = .int .i64 1 ∧ iv = .int .i64 3))) (fun _ iv _ => (3 - intOf iv).toNat)
      case atStart => exact ⟨a, pc, Or.inl ⟨rfl, rfl⟩⟩
      case round =>
        clear a pc
        obtain ⟨a, pc, hrel⟩ := hrel
        rcases hrel with ⟨rfl, rfl⟩ | ⟨rfl, rfl⟩ | ⟨rfl, rfl⟩ | ⟨rfl, rfl⟩
        · have y0 := pc 0 _ rfl
          go_wp2_with fail
          go_roundw
          case rel => exact ⟨a, pc, Or.inr (Or.inl ⟨rfl, rfl⟩)⟩
          case measure => simp [intOf]
        · have y0 := pc 2 _ rfl
          go_wp2_with fail
          go_roundw
          case rel => exact ⟨a, pc, Or.inr (Or.inr (Or.inl ⟨rfl, rfl⟩))⟩
          case measure => simp [intOf]
        · have y0 := pc 4 _ rfl
          go_wp2_with fail
          go_roundw
          case rel => exact ⟨a, pc, Or.inr (Or.inr (Or.inr (⟨rfl, rfl⟩)))⟩
          case measure => simp [intOf]
        · have y0 := pc 3 _ rfl
          go_wp2_with fail
          go_roundw
          case rel => exact ⟨a, pc, Or.inr (Or.inr (Or.inr (⟨rfl, rfl⟩)))⟩
          case measure => simp [intOf]
    · have x0 := a.c0
      have x1 := a.c1
      have x2 := a.c2
      have x3 := a.c3
      go_wp2_with (go_at_call 12; refine (works_any _ (a.shaped HS.out)).mono ?_; rintro e w2 ⟨rfl, hb2⟩; have bF := a.last hb2)
      go_ret
      exact ⟨rfl, bF⟩

set_option maxRecDepth 100000 in
set_option maxHeartbeats 16000000 in
theorem parts_TFT (f t g u : ByteArray) (w : World) (hsh : w.ShapedOpen Tryd.prog) (hs1 : sh f t = true) (hs2 : sh g u = true) (d0 : (f.toList == g.toList) = false) (d1 : (g.toList == f.toList) = false) (e0 : (g.toList == ([] : List UInt8)) = false)
    (C1 : ∀ W : World, Calls Tryd.prog 13 #[.agg #[.string f, .string t], .agg #[.string g, .string u]] W fun e w' => e = .returned (.tuple #[.agg #[.string g, .string t], .bool true, .int .i64 0]) ∧ Below W.heap.size W w')
    (C2 : ∀ W : World, Calls Tryd.prog 14 #[.agg #[.string f, .string t], .agg #[.string g, .string u]] W fun e w' => ∃ v, e = .returned (.tuple #[v, .int .i64 0]) ∧ OutR w' v [(f, g)] ∧ Below W.heap.size W w') :
    Calls Tryd.prog 4 #[.agg #[.string f, .string t], .agg #[.string g, .string u]] w fun e w' => e = .returned (.bool true) ∧ Below w.heap.size w w' := by
  obtain ⟨i0, hi, hz0, hz1, hz2⟩ := info_parts infoR
  have HS := Lib.hid hsh
  have a := AB.start w f t g u
  clear hsh
  have x0 := a.c0
  have x1 := a.c1
  have x2 := a.c2
  have x3 := a.c3
  go_enter Tryd.func4, Tryd.ntmps4
  go_wp2_with (go_at_call 11; refine (short_any _ _ _).mono ?_; rintro e w1 ⟨rfl, hb⟩; replace a := a.below hb; have x0 := a.c0; have x1 := a.c1; have x2 := a.c2; have x3 := a.c3)
  refine (C1 _).mono ?_
  rintro e w3 ⟨rfl, hb⟩
  have R := Whole.new w3 23 #[.string g, .string t]
  replace a := (a.below hb).alloc (.cells #[.string g, .string t] 23)
  clear x0 x1 x2 x3 hb
  have x0 := a.c0
  have x1 := a.c1
  have x2 := a.c2
  have x3 := a.c3
  go_wp2_with fail
  refine (C2 _).mono ?_
  rintro e w4 ⟨v, rfl, hout, hb⟩
  replace a := a.below hb
  replace R := R.below hb R.lt
  clear x0 x1 x2 x3 hb C1 C2
  have hA4 : w.heap.size + 2 ≤ w4.heap.size := a.2.2.lt
  have hR4 : w3.heap.size < w4.heap.size := R.lt
  rcases hout with ⟨h, _⟩ | ⟨_, gl, cap, rfl, hc⟩
  · cases h
  have hc1 := hc.below ((Below.refl _ _).alloc (Nat.le_refl _) (.cells #[] 23)) (Nat.le_refl _)
  clear hc
  have own0 := World.ownsRow_lit (base := w4.heap.size) (e := 23) (size := 2) w4 #[] 0 (Nat.le_refl _) (by unfold maxLen; omega) rfl
  replace a := a.alloc (.cells #[] 23)
  replace R := R.alloc (.cells #[] 23)
  go_upto_region 9 with (first
    | (at_builtin; refine wpList_append_own _ rfl _ _ 29 rfl w4.heap.size 23 i0 (.agg #[.string ⟨#[]⟩, .string ⟨#[]⟩]) 2 32 Tryd.underlying29 hi hz0 hz1 hz2 rfl (by decide) _ _ _ rfl own0 ⟨gl, 0, none⟩ 1 _ [.string f, .string g] rfl rfl (news_one hc1) (by intro u hu; simp at hu; rcases hu with rfl | rfl <;> rfl) (by unfold maxLen; omega) (by omega) (by simp <;> omega) ?_; intro v5 w5 hown5 hgrow5 hnil5; replace a := a.grown hgrow5 (fun j hj => Nat.le_trans hA4 (own0.lt j hj).1); replace R := R.grown hgrow5 (fun j hj => by have := (own0.lt j hj).1; omega); have r0 := R.cell 0; have r1 := R.cell 1; simp only [List.getElem?_toArray, List.getElem?_cons_succ, List.getElem?_cons_zero] at r0 r1))
  replace a := a.alloc (.cells #[.string g, .string t] 23)
  replace R := R.alloc (.cells #[.string g, .string t] 23)
  have hs5 : w4.heap.size + 1 ≤ w5.heap.size := by simpa using hgrow5.size
  go_wp2_with (first
    | (at_builtin; refine wpList_append_own _ rfl _ _ 29 rfl w4.heap.size 23 i0 (.agg #[.string ⟨#[]⟩, .string ⟨#[]⟩]) 2 32 Tryd.underlying29 hi hz0 hz1 hz2 rfl (by decide) _ _ _ rfl (hown5.alloc _) ⟨w5.heap.size, 0, none⟩ 1 _ [.string g, .string t] rfl rfl (news_new (by simp)) (by intro u hu; simp at hu; rcases hu with rfl | rfl <;> rfl) (by unfold maxLen; omega) (by omega) (by simp <;> omega) ?_; intro v6 w6 hown6 hgrow6 hnil6; replace a := a.grown hgrow6 (fun j hj => Nat.le_trans hA4 (hown5.lt j hj).1); replace R := R.grown hgrow6 (fun j hj => by have := (hown5.lt j hj).1; omega); have r0 := R.cell 0; have r1 := R.cell 1; simp only [List.getElem?_toArray, List.getElem?_cons_succ, List.getElem?_cons_zero] at r0 r1; have x0 := a.c0; have x1 := a.c1; have x2 := a.c2; have x3 := a.c3))
  obtain ⟨gp, cp, rfl⟩ : ∃ gp cp, v6 = Value.slice (some ⟨gp, 0, none⟩) 2 cp := by
    rcases hown6.2 with ⟨_, h⟩ | ⟨gp, cp, cur, h, _⟩
    · cases h
    · exact ⟨gp, cp, h⟩
  have pc : PC w6 gp [.string f, .string g, .string g, .string t] := fun j v hj => by
    have hlt : j < 2 * 2 := by have := (List.getElem?_eq_some_iff.1 hj).1; simpa using this
    rw [hown6.cellAt j hlt]
    exact hj
  clear hown6 hgrow6 hnil6 R r0 r1
  go_loopw [11, 12] (fun av nv wr => AB w wr f t g u ∧ PC wr gp [.string f, .string g, .string g, .string t] ∧ ((av = .string f ∧ nv = .int .i64 1) ∨ (av = .string g ∧ nv = .int .i64 2) ∨ (av = .string t ∧ nv = .int .i64 3))) (fun _ nv _ => (3 - intOf nv).toNat)
  case atStart => exact ⟨a, pc, Or.inl ⟨rfl, rfl⟩⟩
  case round =>
    clear a pc x0 x1 x2 x3
    obtain ⟨a, pc, hrel⟩ := hrel
    rcases hrel with ⟨rfl, rfl⟩ | ⟨rfl, rfl⟩ | ⟨rfl, rfl⟩
    · go_wp2_with fail
      go_loopw [13, 14] (fun nv iv wr => AB w wr f t g u ∧ PC wr gp [.string f, .string g, .string g, .string t] ∧ ((nv = .int .i64 (-1) ∧ iv = .int .i64 0) ∨ (nv = .int .i64 0 ∧ iv = .int .i64 1) ∨ (nv = .int .i64 0 ∧ iv = .int .i64 2))) (fun _ iv _ => (2 - intOf iv).toNat)
      case atStart => exact ⟨a, pc, Or.inl ⟨rfl, rfl⟩⟩
      case round =>
        clear a pc
        obtain ⟨a, pc, hrel⟩ := hrel
        rcases hrel with ⟨rfl, rfl⟩ | ⟨rfl, rfl⟩ | ⟨rfl, rfl⟩
        · have y0 := pc 0 _ rfl
          go_wp2_with fail
          go_roundw
          case rel => exact ⟨a, pc, Or.inr (Or.inl ⟨rfl, rfl⟩)⟩
          case measure => simp [intOf]
        · have y0 := pc 2 _ rfl
          go_wp2_with fail
          go_roundw
          case rel => exact ⟨a, pc, Or.inr (Or.inr (⟨rfl, rfl⟩))⟩
          case measure => simp [intOf]
        · have y0 := pc 1 _ rfl
          go_wp2_with fail
          go_roundw
          case rel => exact ⟨a, pc, Or.inr (Or.inl ⟨rfl, rfl⟩)⟩
          case measure => simp [intOf]
    · go_wp2_with fail
      go_loopw [13, 14] (fun nv iv wr => AB w wr f t g u ∧ PC wr gp [.string f, .string g, .string g, .string t] ∧ ((nv = .int .i64 (-1) ∧ iv = .int .i64 0) ∨ (nv = .int .i64 (-1) ∧ iv = .int .i64 1) ∨ (nv = .int .i64 1 ∧ iv = .int .i64 2))) (fun _ iv _ => (2 - intOf iv).toNat)
      case atStart => exact ⟨a, pc, Or.inl ⟨rfl, rfl⟩⟩
      case round =>
        clear a pc
        obtain ⟨a, pc, hrel⟩ := hrel
        rcases hrel with ⟨rfl, rfl⟩ | ⟨rfl, rfl⟩ | ⟨rfl, rfl⟩
        · have y0 := pc 0 _ rfl
          go_wp2_with fail
          go_roundw
          case rel => exact ⟨a, pc, Or.inr (Or.inl ⟨rfl, rfl⟩)⟩
          case measure => simp [intOf]
        · have y0 := pc 2 _ rfl
          go_wp2_with fail
          go_roundw
          case rel => exact ⟨a, pc, Or.inr (Or.inr (⟨rfl, rfl⟩))⟩
          case measure => simp [intOf]
        · have y0 := pc 3 _ rfl
          go_wp2_with fail
          go_roundw
          case rel => exact ⟨a, pc, Or.inr (Or.inr (⟨rfl, rfl⟩))⟩
          case measure => simp [intOf]
    · have x0 := a.c0
      have x1 := a.c1
      have x2 := a.c2
      have x3 := a.c3
      go_wp2_with (go_at_call 12; refine (works_any _ (a.shaped HS.out)).mono ?_; rintro e w2 ⟨rfl, hb2⟩; have bF := a.last hb2)
      go_ret
      exact ⟨rfl, bF⟩

set_option maxRecDepth 100000 in
set_option maxHeartbeats 16000000 in
theorem parts_FTT (f t g u : ByteArray) (w : World) (hsh : w.ShapedOpen Tryd.prog) (hs1 : sh f t = true) (hs2 : sh g u = true) (d0 : (u.toList == f.toList) = false) (d1 : (f.toList == u.toList) = false) (e0 : (u.toList == ([] : List UInt8)) = false)
    (C1 : ∀ W : World, Calls Tryd.prog 13 #[.agg #[.string f, .string t], .agg #[.string g, .string u]] W fun e w' => e = .returned (.tuple #[.agg #[.string f, .string u], .bool true, .int .i64 0]) ∧ Below W.heap.size W w')
    (C2 : ∀ W : World, Calls Tryd.prog 14 #[.agg #[.string f, .string t], .agg #[.string g, .string u]] W fun e w' => ∃ v, e = .returned (.tuple #[v, .int .i64 0]) ∧ OutR w' v [(u, t)] ∧ Below W.heap.size W w') :
    Calls Tryd.prog 4 #[.agg #[.string f, .string t], .agg #[.string g, .string u]] w fun e w' => e = .returned (.bool true) ∧ Below w.heap.size w w' := by
  obtain ⟨i0, hi, hz0, hz1, hz2⟩ := info_parts infoR
  have HS := Lib.hid hsh
  have a := AB.start w f t g u
  clear hsh
  have x0 := a.c0
  have x1 := a.c1
  have x2 := a.c2
  have x3 := a.c3
  go_enter Tryd.func4, Tryd.ntmps4
  go_wp2_with (go_at_call 11; refine (short_any _ _ _).mono ?_; rintro e w1 ⟨rfl, hb⟩; replace a := a.below hb; have x0 := a.c0; have x1 := a.c1; have x2 := a.c2; have x3 := a.c3)
  refine (C1 _).mono ?_
  rintro e w3 ⟨rfl, hb⟩
  have R := Whole.new w3 23 #[.string f, .string u]
  replace a := (a.below hb).alloc (.cells #[.string f, .string u] 23)
  clear x0 x1 x2 x3 hb
  have x0 := a.c0
  have x1 := a.c1
  have x2 := a.c2
  have x3 := a.c3
  go_wp2_with fail
  refine (C2 _).mono ?_
  rintro e w4 ⟨v, rfl, hout, hb⟩
  replace a := a.below hb
  replace R := R.below hb R.lt
  clear x0 x1 x2 x3 hb C1 C2
  have hA4 : w.heap.size + 2 ≤ w4.heap.size := a.2.2.lt
  have hR4 : w3.heap.size < w4.heap.size := R.lt
  rcases hout with ⟨h, _⟩ | ⟨_, gl, cap, rfl, hc⟩
  · cases h
  have hc1 := hc.below ((Below.refl _ _).alloc (Nat.le_refl _) (.cells #[] 23)) (Nat.le_refl _)
  clear hc
  have own0 := World.ownsRow_lit (base := w4.heap.size) (e := 23) (size := 2) w4 #[] 0 (Nat.le_refl _) (by unfold maxLen; omega) rfl
  replace a := a.alloc (.cells #[] 23)
  replace R := R.alloc (.cells #[] 23)
  go_upto_region 9 with (first
    | (at_builtin; refine wpList_append_own _ rfl _ _ 29 rfl w4.heap.size 23 i0 (.agg #[.string ⟨#[]⟩, .string ⟨#[]⟩]) 2 32 Tryd.underlying29 hi hz0 hz1 hz2 rfl (by decide) _ _ _ rfl own0 ⟨gl, 0, none⟩ 1 _ [.string u, .string t] rfl rfl (news_one hc1) (by intro u hu; simp at hu; rcases hu with rfl | rfl <;> rfl) (by unfold maxLen; omega) (by omega) (by simp <;> omega) ?_; intro v5 w5 hown5 hgrow5 hnil5; replace a := a.grown hgrow5 (fun j hj => Nat.le_trans hA4 (own0.lt j hj).1); replace R := R.grown hgrow5 (fun j hj => by have := (own0.lt j hj).1; omega); have r0 := R.cell 0; have r1 := R.cell 1; simp only [List.getElem?_toArray, List.getElem?_cons_succ, List.getElem?_cons_zero] at r0 r1))
  replace a := a.alloc (.cells #[.string f, .string u] 23)
  replace R := R.alloc (.cells #[.string f, .string u] 23)
  have hs5 : w4.heap.size + 1 ≤ w5.heap.size := by simpa using hgrow5.size
  go_wp2_with (first
    | (at_builtin; refine wpList_append_own _ rfl _ _ 29 rfl w4.heap.size 23 i0 (.agg #[.string ⟨#[]⟩, .string ⟨#[]⟩]) 2 32 Tryd.underlying29 hi hz0 hz1 hz2 rfl (by decide) _ _ _ rfl (hown5.alloc _) ⟨w5.heap.size, 0, none⟩ 1 _ [.string f, .string u] rfl rfl (news_new (by simp)) (by intro u hu; simp at hu; rcases hu with rfl | rfl <;> rfl) (by unfold maxLen; omega) (by omega) (by simp <;> omega) ?_; intro v6 w6 hown6 hgrow6 hnil6; replace a := a.grown hgrow6 (fun j hj => Nat.le_trans hA4 (hown5.lt j hj).1); replace R := R.grown hgrow6 (fun j hj => by have := (hown5.lt j hj).1; omega); have r0 := R.cell 0; have r1 := R.cell 1; simp only [List.getElem?_toArray, List.getElem?_cons_succ, List.getElem?_cons_zero] at r0 r1; have x0 := a.c0; have x1 := a.c1; have x2 := a.c2; have x3 := a.c3))
  obtain ⟨gp, cp, rfl⟩ : ∃ gp cp, v6 = Value.slice (some ⟨gp, 0, none⟩) 2 cp := by
    rcases hown6.2 with ⟨_, h⟩ | ⟨gp, cp, cur, h, _⟩
    · cases h
    · exact ⟨gp, cp, h⟩
  have pc : PC w6 gp [.string u, .string t, .string f, .string u] := fun j v hj => by
    have hlt : j < 2 * 2 := by have := (List.getElem?_eq_some_iff.1 hj).1; simpa using this
    rw [hown6.cellAt j hlt]
    exact hj
  clear hown6 hgrow6 hnil6 R r0 r1
  go_loopw [11, 12] (fun av nv wr => AB w wr f t g u ∧ PC wr gp [.string u, .string t, .string f, .string u] ∧ ((av = .string f ∧ nv = .int .i64 1) ∨ (av = .string u ∧ nv = .int .i64 2) ∨ (av = .string t ∧ nv = .int .i64 3))) (fun _ nv _ => (3 - intOf nv).toNat)
  case atStart => exact ⟨a, pc, Or.inl ⟨rfl, rfl⟩⟩
  case round =>
    clear a pc x0 x1 x2 x3
    obtain ⟨a, pc, hrel⟩ := hrel
    rcases hrel with ⟨rfl, rfl⟩ | ⟨rfl, rfl⟩ | ⟨rfl, rfl⟩
    · go_wp2_with fail
      go_loopw [13, 14] (fun nv iv wr => AB w wr f t g u ∧ PC wr gp [.string u, .string t, .string f, .string u] ∧ ((nv = .int .i64 (-1) ∧ iv = .int .i64 0) ∨ (nv = .int .i64 (-1) ∧ iv = .int .i64 1) ∨ (nv = .int .i64 1 ∧ iv = .int .i64 2))) (fun _ iv _ => (2 - intOf iv).toNat)
      case atStart => exact ⟨a, pc, Or.inl ⟨rfl, rfl⟩⟩
      case round =>
        clear a pc
        obtain ⟨a, pc, hrel⟩ := hrel
        rcases hrel with ⟨rfl, rfl⟩ | ⟨rfl, rfl⟩ | ⟨rfl, rfl⟩
        · have y0 := pc 0 _ rfl
          go_wp2_with fail
          go_roundw
          case rel => exact ⟨a, pc, Or.inr (Or.inl ⟨rfl, rfl⟩)⟩
          case measure => simp [intOf]
        · have y0 := pc 2 _ rfl
          go_wp2_with fail
          go_roundw
          case rel => exact ⟨a, pc, Or.inr (Or.inr (⟨rfl, rfl⟩))⟩
          case measure => simp [intOf]
        · have y0 := pc 3 _ rfl
          go_wp2_with fail
          go_roundw
          case rel => exact ⟨a, pc, Or.inr (Or.inl ⟨rfl, rfl⟩)⟩
          case measure => simp [intOf]
    · go_wp2_with fail
      go_loopw [13, 14] (fun nv iv wr => AB w wr f t g u ∧ PC wr gp [.string u, .string t, .string f, .string u] ∧ ((nv = .int .i64 (-1) ∧ iv = .int .i64 0) ∨ (nv = .int .i64 0 ∧ iv = .int .i64 1) ∨ (nv = .int .i64 0 ∧ iv = .int .i64 2))) (fun _ iv _ => (2 - intOf iv).toNat)
      case atStart => exact ⟨a, pc, Or.inl ⟨rfl, rfl⟩⟩
      case round =>
        clear a pc
        obtain ⟨a, pc, hrel⟩ := hrel
        rcases hrel with ⟨rfl, rfl⟩ | ⟨rfl, rfl⟩ | ⟨rfl, rfl⟩
        · have y0 := pc 0 _ rfl
          go_wp2_with fail
          go_roundw
          case rel => exact ⟨a, pc, Or.inr (Or.inl ⟨rfl, rfl⟩)⟩
          case measure => simp [intOf]
        · have y0 := pc 2 _ rfl
          go_wp2_with fail
          go_roundw
          case rel => exact ⟨a, pc, Or.inr (Or.inr (⟨rfl, rfl⟩))⟩
          case measure => simp [intOf]
        · have y0 := pc 1 _ rfl
          go_wp2_with fail
          go_roundw
          case rel => exact ⟨a, pc, Or.inr (Or.inr (⟨rfl, rfl⟩))⟩
          case measure => simp [intOf]
    · have x0 := a.c0
      have x1 := a.c1
      have x2 := a.c2
      have x3 := a.c3
      go_wp2_with (go_at_call 12; refine (works_any _ (a.shaped HS.out)).mono ?_; rintro e w2 ⟨rfl, hb2⟩; have bF := a.last hb2)
      go_ret
      exact ⟨rfl, bF⟩

set_option maxRecDepth 100000 in
set_option maxHeartbeats 16000000 in
theorem parts_LT (f t g u : ByteArray) (w : World) (hsh : w.ShapedOpen Tryd.prog) (hs1 : sh f t = true) (hs2 : sh g u = true)  
    (C1 : ∀ W : World, Calls Tryd.prog 13 #[.agg #[.string f, .string t], .agg #[.string g, .string u]] W fun e w' => e = .returned (.tuple #[.agg #[.string ⟨#[]⟩, .string ⟨#[]⟩], .bool false, .int .i64 0]) ∧ Below W.heap.size W w')
    (C2 : ∀ W : World, Calls Tryd.prog 14 #[.agg #[.string f, .string t], .agg #[.string g, .string u]] W fun e w' => ∃ v, e = .returned (.tuple #[v, .int .i64 0]) ∧ OutR w' v [(f, t)] ∧ Below W.heap.size W w') :
    Calls Tryd.prog 4 #[.agg #[.string f, .string t], .agg #[.string g, .string u]] w fun e w' => e = .returned (.bool true) ∧ Below w.heap.size w w' := by
  obtain ⟨i0, hi, hz0, hz1, hz2⟩ := info_parts infoR
  have HS := Lib.hid hsh
  have a := AB.start w f t g u
  clear hsh
  have x0 := a.c0
  have x1 := a.c1
  have x2 := a.c2
  have x3 := a.c3
  go_enter Tryd.func4, Tryd.ntmps4
  go_wp2_with (go_at_call 11; refine (short_any _ _ _).mono ?_; rintro e w1 ⟨rfl, hb⟩; replace a := a.below hb; have x0 := a.c0; have x1 := a.c1; have x2 := a.c2; have x3 := a.c3)
  refine (C1 _).mono ?_
  rintro e w3 ⟨rfl, hb⟩
  have R := Whole.new w3 23 #[.string ⟨#[]⟩, .string ⟨#[]⟩]
  replace a := (a.below hb).alloc (.cells #[.string ⟨#[]⟩, .string ⟨#[]⟩] 23)
  clear x0 x1 x2 x3 hb
  have x0 := a.c0
  have x1 := a.c1
  have x2 := a.c2
  have x3 := a.c3
  go_wp2_with fail
  refine (C2 _).mono ?_
  rintro e w4 ⟨v, rfl, hout, hb⟩
  replace a := a.below hb
  replace R := R.below hb R.lt
  clear x0 x1 x2 x3 hb C1 C2
  have hA4 : w.heap.size + 2 ≤ w4.heap.size := a.2.2.lt
  have hR4 : w3.heap.size < w4.heap.size := R.lt
  rcases hout with ⟨h, _⟩ | ⟨_, gl, cap, rfl, hc⟩
  · cases h
  have hc1 := hc.below ((Below.refl _ _).alloc (Nat.le_refl _) (.cells #[] 23)) (Nat.le_refl _)
  clear hc
  have own0 := World.ownsRow_lit (base := w4.heap.size) (e := 23) (size := 2) w4 #[] 0 (Nat.le_refl _) (by unfold maxLen; omega) rfl
  replace a := a.alloc (.cells #[] 23)
  replace R := R.alloc (.cells #[] 23)
  go_wp2_with (first
    | (at_builtin; refine wpList_append_own _ rfl _ _ 29 rfl w4.heap.size 23 i0 (.agg #[.string ⟨#[]⟩, .string ⟨#[]⟩]) 2 32 Tryd.underlying29 hi hz0 hz1 hz2 rfl (by decide) _ _ _ rfl own0 ⟨gl, 0, none⟩ 1 _ [.string f, .string t] rfl rfl (news_one hc1) (by intro u hu; simp at hu; rcases hu with rfl | rfl <;> rfl) (by unfold maxLen; omega) (by omega) (by simp <;> omega) ?_; intro v5 w5 hown5 hgrow5 hnil5; replace a := a.grown hgrow5 (fun j hj => Nat.le_trans hA4 (own0.lt j hj).1); replace R := R.grown hgrow5 (fun j hj => by have := (own0.lt j hj).1; omega); have r0 := R.cell 0; have r1 := R.cell 1; simp only [List.getElem?_toArray, List.getElem?_cons_succ, List.getElem?_cons_zero] at r0 r1; have x0 := a.c0; have x1 := a.c1; have x2 := a.c2; have x3 := a.c3))
  obtain ⟨gp, cp, rfl⟩ : ∃ gp cp, v5 = Value.slice (some ⟨gp, 0, none⟩) 1 cp := by
    rcases hown5.2 with ⟨_, h⟩ | ⟨gp, cp, cur, h, _⟩
    · cases h
    · exact ⟨gp, cp, h⟩
  have pc : PC w5 gp [.string f, .string t] := fun j v hj => by
    have hlt : j < 1 * 2 := by have := (List.getElem?_eq_some_iff.1 hj).1; simpa using this
    rw [hown5.cellAt j hlt]
    exact hj
  clear hown5 hgrow5 hnil5 R r0 r1
  go_loopw [11, 12] (fun av nv wr => AB w wr f t g u ∧ PC wr gp [.string f, .string t] ∧ ((av = .string f ∧ nv = .int .i64 1) ∨ (av = .string t ∧ nv = .int .i64 2))) (fun _ nv _ => (2 - intOf nv).toNat)
  case atStart => exact ⟨a, pc, Or.inl ⟨rfl, rfl⟩⟩
  case round =>
    clear a pc x0 x1 x2 x3
    obtain ⟨a, pc, hrel⟩ := hrel
    rcases hrel with ⟨rfl, rfl⟩ | ⟨rfl, rfl⟩
    · go_wp2_with fail
      go_loopw [13, 14] (fun nv iv wr => AB w wr f t g u ∧ PC wr gp [.string f, .string t] ∧ ((nv = .int .i64 (-1) ∧ iv = .int .i64 0) ∨ (nv = .int .i64 0 ∧ iv = .int .i64 1))) (fun _ iv _ => (1 - intOf iv).toNat)
      case atStart => exact ⟨a, pc, Or.inl ⟨rfl, rfl⟩⟩
      case round =>
        clear a pc
        obtain ⟨a, pc, hrel⟩ := hrel
        rcases hrel with ⟨rfl, rfl⟩ | ⟨rfl, rfl⟩
        · have y0 := pc 0 _ rfl
          go_wp2_with fail
          go_roundw
          case rel => exact ⟨a, pc, Or.inr (⟨rfl, rfl⟩)⟩
          case measure => simp [intOf]
        · have y0 := pc 1 _ rfl
          go_wp2_with fail
          go_roundw
          case rel => exact ⟨a, pc, Or.inr (⟨rfl, rfl⟩)⟩
          case measure => simp [intOf]
    · have x0 := a.c0
      have x1 := a.c1
      have x2 := a.c2
      have x3 := a.c3
      go_wp2_with (go_at_call 12; refine (works_any _ (a.shaped HS.out)).mono ?_; rintro e w2 ⟨rfl, hb2⟩; have bF := a.last hb2)
      go_ret
      exact ⟨rfl, bF⟩

set_option maxRecDepth 100000 in
set_option maxHeartbeats 16000000 in
theorem parts_FFT (f t g u : ByteArray) (w : World) (hsh : w.ShapedOpen Tryd.prog) (hs1 : sh f t = true) (hs2 : sh g u = true)  
    (C1 : ∀ W : World, Calls Tryd.prog 13 #[.agg #[.string f, .string t], .agg #[.string g, .string u]] W fun e w' => e = .returned (.tuple #[.agg #[.string f, .string t], .bool true, .int .i64 0]) ∧ Below W.heap.size W w')
    (C2 : ∀ W : World, Calls Tryd.prog 14 #[.agg #[.string f, .string t], .agg #[.string g, .string u]] W fun e w' => ∃ v, e = .returned (.tuple #[v, .int .i64 0]) ∧ OutR w' v [] ∧ Below W.heap.size W w') :
    Calls Tryd.prog 4 #[.agg #[.string f, .string t], .agg #[.string g, .string u]] w fun e w' => e = .returned (.bool true) ∧ Below w.heap.size w w' := by
  obtain ⟨i0, hi, hz0, hz1, hz2⟩ := info_parts infoR
  have HS := Lib.hid hsh
  have a := AB.start w f t g u
  clear hsh
  have x0 := a.c0
  have x1 := a.c1
  have x2 := a.c2
  have x3 := a.c3
  go_enter Tryd.func4, Tryd.ntmps4
  go_wp2_with (go_at_call 11; refine (short_any _ _ _).mono ?_; rintro e w1 ⟨rfl, hb⟩; replace a := a.below hb; have x0 := a.c0; have x1 := a.c1; have x2 := a.c2; have x3 := a.c3)
  refine (C1 _).mono ?_
  rintro e w3 ⟨rfl, hb⟩
  have R := Whole.new w3 23 #[.string f, .string t]
  replace a := (a.below hb).alloc (.cells #[.string f, .string t] 23)
  clear x0 x1 x2 x3 hb
  have x0 := a.c0
  have x1 := a.c1
  have x2 := a.c2
  have x3 := a.c3
  go_wp2_with fail
  refine (C2 _).mono ?_
  rintro e w4 ⟨v, rfl, hout, hb⟩
  replace a := a.below hb
  replace R := R.below hb R.lt
  clear x0 x1 x2 x3 hb C1 C2
  have hA4 : w.heap.size + 2 ≤ w4.heap.size := a.2.2.lt
  have hR4 : w3.heap.size < w4.heap.size := R.lt
  have hv : v = .slice none 0 0 := by
    rcases hout with ⟨_, h⟩ | ⟨h, _⟩
    · exact h
    · exact absurd rfl h
  subst hv
  clear hout
  have own0 := World.ownsRow_lit (base := w4.heap.size) (e := 23) (size := 2) w4 #[] 0 (Nat.le_refl _) (by unfold maxLen; omega) rfl
  replace a := a.alloc (.cells #[] 23)
  replace R := R.alloc (.cells #[] 23)
  have r0 := R.cell 0; have r1 := R.cell 1; simp only [List.getElem?_toArray, List.getElem?_cons_succ, List.getElem?_cons_zero] at r0 r1
  go_upto_region 9 with fail
  replace a := a.alloc (.cells #[.string f, .string t] 23)
  replace R := R.alloc (.cells #[.string f, .string t] 23)
  go_wp2_with (first
    | (at_builtin; refine wpList_append_own _ rfl _ _ 29 rfl w4.heap.size 23 i0 (.agg #[.string ⟨#[]⟩, .string ⟨#[]⟩]) 2 32 Tryd.underlying29 hi hz0 hz1 hz2 rfl (by decide) _ _ _ rfl (own0.alloc _) ⟨w4.heap.size + 1, 0, none⟩ 1 _ [.string f, .string t] rfl rfl (news_new (by simp)) (by intro u hu; simp at hu; rcases hu with rfl | rfl <;> rfl) (by unfold maxLen; omega) (by omega) (by simp <;> omega) ?_; intro v6 w6 hown6 hgrow6 hnil6; replace a := a.grown hgrow6 (fun j hj => Nat.le_trans hA4 (own0.lt j hj).1); replace R := R.grown hgrow6 (fun j hj => by have := (own0.lt j hj).1; omega); have r0 := R.cell 0; have r1 := R.cell 1; simp only [List.getElem?_toArray, List.getElem?_cons_succ, List.getElem?_cons_zero] at r0 r1; have x0 := a.c0; have x1 := a.c1; have x2 := a.c2; have x3 := a.c3))
  obtain ⟨gp, cp, rfl⟩ : ∃ gp cp, v6 = Value.slice (some ⟨gp, 0, none⟩) 1 cp := by
    rcases hown6.2 with ⟨_, h⟩ | ⟨gp, cp, cur, h, _⟩
    · cases h
    · exact ⟨gp, cp, h⟩
  have pc : PC w6 gp [.string f, .string t] := fun j v hj => by
    have hlt : j < 1 * 2 := by have := (List.getElem?_eq_some_iff.1 hj).1; simpa using this
    rw [hown6.cellAt j hlt]
    exact hj
  clear hown6 hgrow6 hnil6 R r0 r1
  go_loopw [11, 12] (fun av nv wr => AB w wr f t g u ∧ PC wr gp [.string f, .string t] ∧ ((av = .string f ∧ nv = .int .i64 1) ∨ (av = .string t ∧ nv = .int .i64 2))) (fun _ nv _ => (2 - intOf nv).toNat)
  case atStart => exact ⟨a, pc, Or.inl ⟨rfl, rfl⟩⟩
  case round =>
    clear a pc x0 x1 x2 x3
    obtain ⟨a, pc, hrel⟩ := hrel
    rcases hrel with ⟨rfl, rfl⟩ | ⟨rfl, rfl⟩
    · go_wp2_with fail
      go_loopw [13, 14] (fun nv iv wr => AB w wr f t g u ∧ PC wr gp [.string f, .string t] ∧ ((nv = .int .i64 (-1) ∧ iv = .int .i64 0) ∨ (nv = .int .i64 0 ∧ iv = .int .i64 1))) (fun _ iv _ => (1 - intOf iv).toNat)
      case atStart => exact ⟨a, pc, Or.inl ⟨rfl, rfl⟩⟩
      case round =>
        clear a pc
        obtain ⟨a, pc, hrel⟩ := hrel
        rcases hrel with ⟨rfl, rfl⟩ | ⟨rfl, rfl⟩
        · have y0 := pc 0 _ rfl
          go_wp2_with fail
          go_roundw
          case rel => exact ⟨a, pc, Or.inr (⟨rfl, rfl⟩)⟩
          case measure => simp [intOf]
        · have y0 := pc 1 _ rfl
          go_wp2_with fail
          go_roundw
          case rel => exact ⟨a, pc, Or.inr (⟨rfl, rfl⟩)⟩
          case measure => simp [intOf]
    · have x0 := a.c0
      have x1 := a.c1
      have x2 := a.c2
      have x3 := a.c3
      go_wp2_with (go_at_call 12; refine (works_any _ (a.shaped HS.out)).mono ?_; rintro e w2 ⟨rfl, hb2⟩; have bF := a.last hb2)
      go_ret
      exact ⟨rfl, bF⟩

set_option maxRecDepth 100000 in
set_option maxHeartbeats 16000000 in
theorem parts_walk (f t g u : ByteArray) (w : World) (hf : f.size ≤ 9223372036854775807) (ht : t.size ≤ 9223372036854775807) (hg : g.size ≤ 9223372036854775807) (hu : u.size ≤ 9223372036854775807) (hsh : w.ShapedOpen Tryd.prog) :
    Calls Tryd.prog 4 #[.agg #[.string f, .string t], .agg #[.string g, .string u]] w fun e w' => e = .returned (.bool true) ∧ Below w.heap.size w w' := by
  have HS := Lib.hid hsh
  have a := AB.start w f t g u
  cases hs1 : sh f t with
  | false =>
    clear hsh
    go_enter Tryd.func4, Tryd.ntmps4
    go_wp2_with (first
      | (go_at_call 11; refine (short_any _ _ _).mono ?_; rintro e w1 ⟨rfl, hb⟩; replace a := a.below hb; have x0 := a.c0; have x1 := a.c1; have x2 := a.c2; have x3 := a.c3)
      | (go_at_call 12; refine (works_any _ (a.shaped HS.out)).mono ?_; rintro e w2 ⟨rfl, hb2⟩; have bF := a.last hb2))
    go_ret
    exact ⟨rfl, bF⟩
  | true =>
  cases hs2 : sh g u with
  | false =>
    clear hsh
    have x0 := a.c0
    have x1 := a.c1
    have x2 := a.c2
    have x3 := a.c3
    go_enter Tryd.func4, Tryd.ntmps4
    go_wp2_with (first
      | (go_at_call 11; refine (short_any _ _ _).mono ?_; rintro e w1 ⟨rfl, hb⟩; replace a := a.below hb; have x0 := a.c0; have x1 := a.c1; have x2 := a.c2; have x3 := a.c3)
      | (go_at_call 12; refine (works_any _ (a.shaped HS.out)).mono ?_; rintro e w2 ⟨rfl, hb2⟩; have bF := a.last hb2))
    go_ret
    exact ⟨rfl, bF⟩
  | true =>
  have C1 := fun W => meet_any f t g u W hf ht hg hu
  have C2 := fun W => without_any f t g u W hf ht hg hu
  cases ho : okR f t && okR g u with
  | false =>
    rw [ho] at C1 C2
    simp only [Bool.false_and, ckI, meetV, Bool.false_eq_true, if_false] at C1 C2
    clear hsh
    have x0 := a.c0
    have x1 := a.c1
    have x2 := a.c2
    have x3 := a.c3
    go_enter Tryd.func4, Tryd.ntmps4
    go_wp2_with (go_at_call 11; refine (short_any _ _ _).mono ?_; rintro e w1 ⟨rfl, hb⟩; replace a := a.below hb; have x0 := a.c0; have x1 := a.c1; have x2 := a.c2; have x3 := a.c3)
    refine (C1 _).mono ?_
    rintro e w3 ⟨rfl, hb⟩
    replace a := (a.below hb).alloc (.cells #[.string ⟨#[]⟩, .string ⟨#[]⟩] 23)
    clear x0 x1 x2 x3 hb
    have x0 := a.c0
    have x1 := a.c1
    have x2 := a.c2
    have x3 := a.c3
    go_wp2_with fail
    refine (C2 _).mono ?_
    rintro e w4 ⟨v, rfl, _, hb⟩
    replace a := a.below hb
    clear x0 x1 x2 x3 hb
    go_wp2_with (go_at_call 12; refine (works_any _ (a.shaped HS.out)).mono ?_; rintro e w2 ⟨rfl, hb2⟩; have bF := a.last hb2)
    go_ret
    exact ⟨rfl, bF⟩
  | true =>
    have ho' := ho
    rw [Bool.and_eq_true] at ho'
    rw [ho] at C1 C2
    simp only [if_true] at C2
    have sy : ∀ {x y : ByteArray}, (x.toList == y.toList) = false → (y.toList == x.toList) = false := fun h => by rw [beq_eq_false_iff_ne] at h ⊢; exact fun e => h e.symm
    generalize hc1 : Op.bytesLess f.toList g.toList = c1
    generalize hc2 : endLt u t = c2
    generalize hc3 : okR (maxS f g) (minE t u) = c3
    have hL : outL f t g u = (if c1 = true then [(f, minE g t)] else []) ++ (if c2 = true then [(maxS f u, t)] else []) := by unfold outL; rw [hc1, hc2]
    obtain ⟨K1, K2, K3, K4, K5, K6⟩ := parts_law f t g u ho'.1 ho'.2 c1 c2 c3 hc1 hc2 hc3
    rw [hc3] at C1
    rw [hL] at C2
    clear hL hc1 hc2 hc3 ho ho' a
    cases c1 <;> cases c2 <;> cases c3
    · exact absurd (K6 rfl rfl).1 (by decide)
    · obtain ⟨_, h1, h2⟩ := K6 rfl rfl
      rw [h1, h2] at C1
      exact parts_FFT f t g u w hsh hs1 hs2 C1 C2
    · rw [K5 rfl rfl rfl] at C2
      exact parts_LT f t g u w hsh hs1 hs2 C1 C2
    · obtain ⟨h1, h2, h3, h4, h5, h6⟩ := K3 rfl rfl rfl
      rw [h1, h2] at C1
      rw [h3] at C2
      exact parts_FTT f t g u w hsh hs1 hs2 h4 h5 h6 C1 C2
    · rw [K4 rfl rfl rfl] at C2
      exact parts_LT f t g u w hsh hs1 hs2 C1 C2
    · obtain ⟨h1, h2, h3, h4, h5⟩ := K2 rfl rfl rfl
      rw [h2, h3] at C1
      rw [h1] at C2
      exact parts_TFT f t g u w hsh hs1 hs2 h4 (sy h4) h5 C1 C2
    · exact absurd (K1 rfl rfl).1 (by decide)
    · obtain ⟨_, h1, h2, h3, h4, h5, h6, h7, h8, h9, h10⟩ := K1 rfl rfl
      rw [h2, h3] at C1
      rw [h1, h4] at C2
      exact parts_TTT f t g u w hsh hs1 hs2 h5 h6 h7 h8 (sy h5) (sy h6) h9 h10 C1 C2

end Go.Proofs.YthngliafkhalfaaDoor
