/- What one range has without another one, by the program; memory that lay stays. Condition: the ends are no longer than an int can say. -/
import Derived.Test.YtkkkppbcjmeapaaDoorMeet
import Derived.OwnWalk
import Derived.Laws.AppendOwn
import Derived.Laws.OwnMore
import Derived.Laws.IdiomStrings
namespace Go.Proofs.YtkkkppbcjmeapaaDoor
open Go.RowKit

theorem infoR : (Tryd.prog.info? 30).map (fun i => (i.zero, i.size, i.bytes)) = some (some (.agg #[.string ⟨#[]⟩, .string ⟨#[]⟩]), 2, 32) := by kernel_rfl
/-- A list of ranges, as a slice that a call has made; nil where there is none. -/
def OutR (w : World) (v : Value) (ps : List (ByteArray × ByteArray)) : Prop :=
  (ps = [] ∧ v = .slice none 0 0) ∨ (ps ≠ [] ∧ ∃ g cap, v = .slice (some ⟨g, 0, none⟩) ps.length cap ∧ CellsR w g 0 ps)
theorem CellsR.below {w w' : World} {b o : Nat} {ps : List (ByteArray × ByteArray)} {B : Nat} (h : CellsR w b o ps) (hb : Below B w w') (hB : w.heap.size ≤ B) : CellsR w' b o ps := fun i p hi =>
  ⟨(hb.cell (Nat.lt_of_lt_of_le (lt_of_cellR (h i p hi).1) hB)).trans (h i p hi).1, (hb.cell (Nat.lt_of_lt_of_le (lt_of_cellR (h i p hi).2) hB)).trans (h i p hi).2⟩
theorem OutR.below {w w' : World} {v : Value} {ps : List (ByteArray × ByteArray)} (h : OutR w v ps) (hb : Below w.heap.size w w') : OutR w' v ps := by
  rcases h with h | ⟨h1, g, cap, h2, h3⟩
  · exact Or.inl h
  · exact Or.inr ⟨h1, g, cap, h2, h3.below hb (Nat.le_refl _)⟩
theorem outR_one {w : World} {B : Nat} {v : Value} {a b : ByteArray} (h : w.ownsRow B 30 2 v 1 [.string a, .string b]) : OutR w v [(a, b)] := by
  have h0 := h
  rcases h with ⟨_, ⟨rfl, h⟩ | ⟨g, cap, cur, rfl, _⟩⟩
  · cases h
  · refine Or.inr ⟨by simp, g, cap, rfl, fun i p hi => ?_⟩
    match i with
    | 0 => cases hi; exact ⟨h0.cellAt 0 (by decide), h0.cellAt 1 (by decide)⟩
    | i + 1 => cases hi
theorem outR_two {w : World} {B : Nat} {v : Value} {a b c d : ByteArray} (h : w.ownsRow B 30 2 v 2 [.string a, .string b, .string c, .string d]) : OutR w v [(a, b), (c, d)] := by
  have h0 := h
  rcases h with ⟨_, ⟨rfl, h⟩ | ⟨g, cap, cur, rfl, _⟩⟩
  · cases h
  · refine Or.inr ⟨by simp, g, cap, rfl, fun i p hi => ?_⟩
    match i with
    | 0 => cases hi; exact ⟨h0.cellAt 0 (by decide), h0.cellAt 1 (by decide)⟩
    | 1 => cases hi; exact ⟨h0.cellAt 2 (by decide), h0.cellAt 3 (by decide)⟩
    | i + 2 => cases hi

theorem news_two {w : World} {b : Nat} {x y : ByteArray} (h : Whole w b 30 #[.string x, .string y]) : ∀ j u, [Value.string x, .string y][j]? = some u → w.cell? ((⟨b, 0, none⟩ : Addr).add j) = some u := fun j u hj => by
  match j with
  | 0 => cases hj; exact h.cell 0
  | 1 => cases hj; exact h.cell 1
  | j + 2 => cases hj
theorem news_new {w : World} {b : Nat} {x y : ByteArray} (h : b = w.heap.size) : ∀ j u, [Value.string x, .string y][j]? = some u → (w.alloc (.cells #[.string x, .string y] 30)).cell? ((⟨b, 0, none⟩ : Addr).add j) = some u := by
  subst h
  exact news_two (Whole.new w 30 _)
theorem cells_two {x y : ByteArray} : ∀ u ∈ [Value.string x, .string y], u.oneCell' = true := fun u hu => by
  simp at hu
  rcases hu with rfl | rfl <;> rfl
theorem own_nil (w : World) (B : Nat) (e : TypeId) (size : Nat) : w.ownsRow B e size (.slice none 0 0) 0 [] := ⟨by simp, Or.inl ⟨rfl, rfl⟩⟩

set_option maxRecDepth 100000 in
set_option maxHeartbeats 16000000 in
theorem without_fresh (f t g u : ByteArray) (w : World) (hf : f.size ≤ 9223372036854775807) (ht : t.size ≤ 9223372036854775807) (hg : g.size ≤ 9223372036854775807) (hu : u.size ≤ 9223372036854775807) :
    Calls Tryd.prog 43 #[.agg #[.string f, .string t], .agg #[.string g, .string u]] w fun e w' => ∃ v, e = .returned (.tuple #[v, .int .i64 (ckI (okR f t && okR g u))]) ∧ (OutR w' v (if (okR f t && okR g u) = true then outL f t g u else []) ∧ ∀ k, v.ownBlock = some k → w.heap.size ≤ k) ∧ Below w.heap.size w w' := by
  obtain ⟨i0, hi, hz0, hz1, hz2⟩ := info_parts infoR
  have A1 := ((Whole.new w 30 #[.string f, .string t]).alloc (.cells #[.string g, .string u] 30)).alloc (.cells #[.string f, .string t, .string g, .string u] 30)
  have B1 := (Whole.new (w.alloc (.cells #[.string f, .string t] 30)) 30 #[.string g, .string u]).alloc (.cells #[.string f, .string t, .string g, .string u] 30)
  have b1 := (((Below.refl w.heap.size w).alloc (Nat.le_refl _) (.cells #[.string f, .string t] 30)).alloc (by simp) (.cells #[.string g, .string u] 30)).alloc (by simp; omega) (.cells #[.string f, .string t, .string g, .string u] 30)
  have L1 := Whole.new ((w.alloc (.cells #[.string f, .string t] 30)).alloc (.cells #[.string g, .string u] 30)) 30 #[.string f, .string t, .string g, .string u]
  simp only [World.size_alloc] at B1 L1
  have E := ends2 (w.heap.size + 1 + 1) f t g u _ hf ht hg hu (L1.cell 0) (L1.cell 1) (L1.cell 2) (L1.cell 3)
  have hM : ∀ ts t W, (Builtin.max_ ts t #[.string f, .string u]).run Tryd.prog W = .ok (.string (maxS f u)) W := fun ts t W => run_maxS ts t f u W
  have hE := fun W => end_any u t W
  have hE2 := fun W => end_any t g W
  have hm : minE g t = if decide (endN t g < 0) = true then t else g := by unfold minE; rw [endN_lt]
  have hq : outL f t g u = (if Op.bytesLess f.toList g.toList then [(f, minE g t)] else []) ++ (if decide (endN u t < 0) = true then [(maxS f u, t)] else []) := by unfold outL; rw [endN_lt]
  rw [hm] at hq
  generalize outL f t g u = ps at hq
  generalize maxS f u = mx at hM hq
  generalize endN t g = n1 at hq hE2
  generalize endN u t = n2 at hq hE
  generalize (okR f t && okR g u) = o at E ⊢
  clear hm L1 hf ht hg hu
  cases o with
  | false =>
    simp only [fnV, ckI] at E
    clear hq
    go_enter Tryd.func43, Tryd.ntmps43
    go_wp2_with fail
    refine E.mono ?_
    rintro e w1 ⟨rfl, hb⟩
    go_wp2_with fail
    go_ret2
    exact ⟨_, rfl, ⟨Or.inl ⟨rfl, rfl⟩, fun k hk => by cases hk⟩, b1.trans (hb.mono b1.size)⟩
  | true =>
    simp only [fnV, ckI] at E
    cases h1 : Op.bytesLess f.toList g.toList with
    | false =>
      by_cases h2 : n2 < 0
      · obtain rfl : ps = [(mx, t)] := by rw [hq, h1, decide_eq_true h2]; rfl
        clear hq
        go_enter Tryd.func43, Tryd.ntmps43
        go_wp2_with fail
        refine E.mono ?_
        rintro e w1 ⟨rfl, hb⟩
        have A2 := A1.below hb A1.lt
        have B2 := B1.below hb B1.lt
        have b2 := b1.trans (hb.mono b1.size)
        have x0 := A2.cell 0
        have x1 := A2.cell 1
        have y0 := B2.cell 0
        have y1 := B2.cell 1
        simp only [List.getElem?_toArray, List.getElem?_cons_succ, List.getElem?_cons_zero] at x0 x1 y0 y1
        clear A1 B1 b1 hb E
        go_wp2_with fail
        refine (hE _).mono ?_
        rintro e w2 ⟨rfl, rfl⟩
        go_wp2_with (at_builtin; go_loud (refine wpList_append_own _ rfl _ _ 45 rfl w1.heap.size 30 i0 (.agg #[.string ⟨#[]⟩, .string ⟨#[]⟩]) 2 32 Tryd.underlying45 hi hz0 hz1 hz2 rfl (by decide) _ _ _ rfl (own_nil _ _ _ _) ⟨w1.heap.size, 0, none⟩ 1 1 [.string mx, .string t] rfl rfl (news_new (by simp)) cells_two (by unfold maxLen; omega) (by omega) (by simp <;> omega) ?_; intro v3 w3 hown3 hgrow3 hnil3))
        go_ret2
        exact ⟨_, rfl, ⟨outR_one hown3, fun k hk => Nat.le_trans b2.size (hown3.lt k hk).1⟩, (b2.alloc b2.size _).trans ((Below.refl _ _).grown hgrow3 (Nat.le_refl _) (fun j hj => by cases hj) |>.mono (by have := b2.size; simp; omega))⟩
      · obtain rfl : ps = [] := by rw [hq, h1, decide_eq_false h2]; rfl
        clear hq
        go_enter Tryd.func43, Tryd.ntmps43
        go_wp2_with fail
        refine E.mono ?_
        rintro e w1 ⟨rfl, hb⟩
        have A2 := A1.below hb A1.lt
        have B2 := B1.below hb B1.lt
        have b2 := b1.trans (hb.mono b1.size)
        have x0 := A2.cell 0
        have x1 := A2.cell 1
        have y0 := B2.cell 0
        have y1 := B2.cell 1
        simp only [List.getElem?_toArray, List.getElem?_cons_succ, List.getElem?_cons_zero] at x0 x1 y0 y1
        clear A1 B1 b1 hb E
        go_wp2_with fail
        refine (hE _).mono ?_
        rintro e w2 ⟨rfl, rfl⟩
        go_wp2_with fail
        go_ret2
        exact ⟨_, rfl, ⟨Or.inl ⟨rfl, rfl⟩, fun k hk => by cases hk⟩, b2⟩
    | true =>
      by_cases h3 : n1 < 0 <;> by_cases h2 : n2 < 0
      · obtain rfl : ps = [(f, t), (mx, t)] := by rw [hq, h1, decide_eq_true h3, decide_eq_true h2]; rfl
        clear hq
        go_enter Tryd.func43, Tryd.ntmps43
        go_wp2_with fail
        refine E.mono ?_
        rintro e w1 ⟨rfl, hb⟩
        have A2 := A1.below hb A1.lt
        have B2 := B1.below hb B1.lt
        have b2 := b1.trans (hb.mono b1.size)
        have x0 := A2.cell 0
        have x1 := A2.cell 1
        have y0 := B2.cell 0
        have y1 := B2.cell 1
        simp only [List.getElem?_toArray, List.getElem?_cons_succ, List.getElem?_cons_zero] at x0 x1 y0 y1
        clear A1 B1 b1 hb E
        have x3 := (A2.alloc (.cells #[.string f, .string g] 30)).cell 1
        have y3 := (B2.alloc (.cells #[.string f, .string g] 30)).cell 0
        simp only [List.getElem?_toArray, List.getElem?_cons_succ, List.getElem?_cons_zero] at x3 y3
        go_wp2_with fail
        refine (hE2 _).mono ?_
        rintro e w2 ⟨rfl, rfl⟩
        go_wp2_with (at_builtin; refine wpList_append_own _ rfl _ _ 45 rfl w1.heap.size 30 i0 (.agg #[.string ⟨#[]⟩, .string ⟨#[]⟩]) 2 32 Tryd.underlying45 hi hz0 hz1 hz2 rfl (by decide) _ _ _ rfl (own_nil _ _ _ _) ⟨w1.heap.size + 1, 0, none⟩ 1 1 [.string f, .string t] rfl rfl (news_new (by simp)) cells_two (by unfold maxLen; omega) (by omega) (by simp <;> omega) ?_; intro v3 w3 hown3 hgrow3 hnil3; have bb := (((Below.refl _ w1).alloc (Nat.le_refl _) (.cells #[.string f, .string t] 30)).alloc (by simp) (.cells #[.string f, .string t] 30)).grown hgrow3 (by simp <;> omega) (fun j hj => by cases hj); have z0 := (A2.below bb A2.lt).cell 0; have z1 := (A2.below bb A2.lt).cell 1; have z2 := (B2.below bb B2.lt).cell 1; simp only [List.getElem?_toArray, List.getElem?_cons_succ, List.getElem?_cons_zero] at z0 z1 z2)
        refine (hE _).mono ?_
        rintro e w4 ⟨rfl, rfl⟩
        have b3 := b2.trans (bb.mono b2.size)
        have hs := bb.size
        clear x0 x1 x3 y0 y1 y3 hgrow3
        go_wp2_with (at_builtin; refine wpList_append_own _ rfl _ _ 45 rfl w1.heap.size 30 i0 (.agg #[.string ⟨#[]⟩, .string ⟨#[]⟩]) 2 32 Tryd.underlying45 hi hz0 hz1 hz2 rfl (by decide) _ _ _ rfl (hown3.alloc _) ⟨w3.heap.size, 0, none⟩ 1 1 [.string mx, .string t] rfl rfl (news_new (by simp)) cells_two (by unfold maxLen; omega) (by omega) (by simp <;> omega) ?_; intro v5 w5 hown5 hgrow5 hnil5)
        go_ret2
        exact ⟨_, rfl, ⟨outR_two hown5, fun k hk => Nat.le_trans b2.size (hown5.lt k hk).1⟩, b2.trans (((bb.alloc hs _).grown hgrow5 (by simp <;> omega) (fun j hj => (hown3.lt j hj).1)).mono b2.size)⟩
      · obtain rfl : ps = [(f, t)] := by rw [hq, h1, decide_eq_true h3, decide_eq_false h2]; rfl
        clear hq
        go_enter Tryd.func43, Tryd.ntmps43
        go_wp2_with fail
        refine E.mono ?_
        rintro e w1 ⟨rfl, hb⟩
        have A2 := A1.below hb A1.lt
        have B2 := B1.below hb B1.lt
        have b2 := b1.trans (hb.mono b1.size)
        have x0 := A2.cell 0
        have x1 := A2.cell 1
        have y0 := B2.cell 0
        have y1 := B2.cell 1
        simp only [List.getElem?_toArray, List.getElem?_cons_succ, List.getElem?_cons_zero] at x0 x1 y0 y1
        clear A1 B1 b1 hb E
        have x3 := (A2.alloc (.cells #[.string f, .string g] 30)).cell 1
        have y3 := (B2.alloc (.cells #[.string f, .string g] 30)).cell 0
        simp only [List.getElem?_toArray, List.getElem?_cons_succ, List.getElem?_cons_zero] at x3 y3
        go_wp2_with fail
        refine (hE2 _).mono ?_
        rintro e w2 ⟨rfl, rfl⟩
        go_wp2_with (at_builtin; refine wpList_append_own _ rfl _ _ 45 rfl w1.heap.size 30 i0 (.agg #[.string ⟨#[]⟩, .string ⟨#[]⟩]) 2 32 Tryd.underlying45 hi hz0 hz1 hz2 rfl (by decide) _ _ _ rfl (own_nil _ _ _ _) ⟨w1.heap.size + 1, 0, none⟩ 1 1 [.string f, .string t] rfl rfl (news_new (by simp)) cells_two (by unfold maxLen; omega) (by omega) (by simp <;> omega) ?_; intro v3 w3 hown3 hgrow3 hnil3; have bb := (((Below.refl _ w1).alloc (Nat.le_refl _) (.cells #[.string f, .string t] 30)).alloc (by simp) (.cells #[.string f, .string t] 30)).grown hgrow3 (by simp <;> omega) (fun j hj => by cases hj); have z0 := (A2.below bb A2.lt).cell 0; have z1 := (A2.below bb A2.lt).cell 1; have z2 := (B2.below bb B2.lt).cell 1; simp only [List.getElem?_toArray, List.getElem?_cons_succ, List.getElem?_cons_zero] at z0 z1 z2)
        refine (hE _).mono ?_
        rintro e w4 ⟨rfl, rfl⟩
        have b3 := b2.trans (bb.mono b2.size)
        have hs := bb.size
        clear x0 x1 x3 y0 y1 y3 hgrow3
        go_wp2_with fail
        go_ret2
        exact ⟨_, rfl, ⟨outR_one hown3, fun k hk => Nat.le_trans b2.size (hown3.lt k hk).1⟩, b3⟩
      · obtain rfl : ps = [(f, g), (mx, t)] := by rw [hq, h1, decide_eq_false h3, decide_eq_true h2]; rfl
        clear hq
        go_enter Tryd.func43, Tryd.ntmps43
        go_wp2_with fail
        refine E.mono ?_
        rintro e w1 ⟨rfl, hb⟩
        have A2 := A1.below hb A1.lt
        have B2 := B1.below hb B1.lt
        have b2 := b1.trans (hb.mono b1.size)
        have x0 := A2.cell 0
        have x1 := A2.cell 1
        have y0 := B2.cell 0
        have y1 := B2.cell 1
        simp only [List.getElem?_toArray, List.getElem?_cons_succ, List.getElem?_cons_zero] at x0 x1 y0 y1
        clear A1 B1 b1 hb E
        have x3 := (A2.alloc (.cells #[.string f, .string g] 30)).cell 1
        have y3 := (B2.alloc (.cells #[.string f, .string g] 30)).cell 0
        simp only [List.getElem?_toArray, List.getElem?_cons_succ, List.getElem?_cons_zero] at x3 y3
        go_wp2_with fail
        refine (hE2 _).mono ?_
        rintro e w2 ⟨rfl, rfl⟩
        go_wp2_with (at_builtin; refine wpList_append_own _ rfl _ _ 45 rfl w1.heap.size 30 i0 (.agg #[.string ⟨#[]⟩, .string ⟨#[]⟩]) 2 32 Tryd.underlying45 hi hz0 hz1 hz2 rfl (by decide) _ _ _ rfl (own_nil _ _ _ _) ⟨w1.heap.size + 1, 0, none⟩ 1 1 [.string f, .string g] rfl rfl (news_new (by simp)) cells_two (by unfold maxLen; omega) (by omega) (by simp <;> omega) ?_; intro v3 w3 hown3 hgrow3 hnil3; have bb := (((Below.refl _ w1).alloc (Nat.le_refl _) (.cells #[.string f, .string g] 30)).alloc (by simp) (.cells #[.string f, .string g] 30)).grown hgrow3 (by simp <;> omega) (fun j hj => by cases hj); have z0 := (A2.below bb A2.lt).cell 0; have z1 := (A2.below bb A2.lt).cell 1; have z2 := (B2.below bb B2.lt).cell 1; simp only [List.getElem?_toArray, List.getElem?_cons_succ, List.getElem?_cons_zero] at z0 z1 z2)
        refine (hE _).mono ?_
        rintro e w4 ⟨rfl, rfl⟩
        have b3 := b2.trans (bb.mono b2.size)
        have hs := bb.size
        clear x0 x1 x3 y0 y1 y3 hgrow3
        go_wp2_with (at_builtin; refine wpList_append_own _ rfl _ _ 45 rfl w1.heap.size 30 i0 (.agg #[.string ⟨#[]⟩, .string ⟨#[]⟩]) 2 32 Tryd.underlying45 hi hz0 hz1 hz2 rfl (by decide) _ _ _ rfl (hown3.alloc _) ⟨w3.heap.size, 0, none⟩ 1 1 [.string mx, .string t] rfl rfl (news_new (by simp)) cells_two (by unfold maxLen; omega) (by omega) (by simp <;> omega) ?_; intro v5 w5 hown5 hgrow5 hnil5)
        go_ret2
        exact ⟨_, rfl, ⟨outR_two hown5, fun k hk => Nat.le_trans b2.size (hown5.lt k hk).1⟩, b2.trans (((bb.alloc hs _).grown hgrow5 (by simp <;> omega) (fun j hj => (hown3.lt j hj).1)).mono b2.size)⟩
      · obtain rfl : ps = [(f, g)] := by rw [hq, h1, decide_eq_false h3, decide_eq_false h2]; rfl
        clear hq
        go_enter Tryd.func43, Tryd.ntmps43
        go_wp2_with fail
        refine E.mono ?_
        rintro e w1 ⟨rfl, hb⟩
        have A2 := A1.below hb A1.lt
        have B2 := B1.below hb B1.lt
        have b2 := b1.trans (hb.mono b1.size)
        have x0 := A2.cell 0
        have x1 := A2.cell 1
        have y0 := B2.cell 0
        have y1 := B2.cell 1
        simp only [List.getElem?_toArray, List.getElem?_cons_succ, List.getElem?_cons_zero] at x0 x1 y0 y1
        clear A1 B1 b1 hb E
        have x3 := (A2.alloc (.cells #[.string f, .string g] 30)).cell 1
        have y3 := (B2.alloc (.cells #[.string f, .string g] 30)).cell 0
        simp only [List.getElem?_toArray, List.getElem?_cons_succ, List.getElem?_cons_zero] at x3 y3
        go_wp2_with fail
        refine (hE2 _).mono ?_
        rintro e w2 ⟨rfl, rfl⟩
        go_wp2_with (at_builtin; refine wpList_append_own _ rfl _ _ 45 rfl w1.heap.size 30 i0 (.agg #[.string ⟨#[]⟩, .string ⟨#[]⟩]) 2 32 Tryd.underlying45 hi hz0 hz1 hz2 rfl (by decide) _ _ _ rfl (own_nil _ _ _ _) ⟨w1.heap.size + 1, 0, none⟩ 1 1 [.string f, .string g] rfl rfl (news_new (by simp)) cells_two (by unfold maxLen; omega) (by omega) (by simp <;> omega) ?_; intro v3 w3 hown3 hgrow3 hnil3; have bb := (((Below.refl _ w1).alloc (Nat.le_refl _) (.cells #[.string f, .string g] 30)).alloc (by simp) (.cells #[.string f, .string g] 30)).grown hgrow3 (by simp <;> omega) (fun j hj => by cases hj); have z0 := (A2.below bb A2.lt).cell 0; have z1 := (A2.below bb A2.lt).cell 1; have z2 := (B2.below bb B2.lt).cell 1; simp only [List.getElem?_toArray, List.getElem?_cons_succ, List.getElem?_cons_zero] at z0 z1 z2)
        refine (hE _).mono ?_
        rintro e w4 ⟨rfl, rfl⟩
        have b3 := b2.trans (bb.mono b2.size)
        have hs := bb.size
        clear x0 x1 x3 y0 y1 y3 hgrow3
        go_wp2_with fail
        go_ret2
        exact ⟨_, rfl, ⟨outR_one hown3, fun k hk => Nat.le_trans b2.size (hown3.lt k hk).1⟩, b3⟩
theorem without_any (f t g u : ByteArray) (w : World) (hf : f.size ≤ 9223372036854775807) (ht : t.size ≤ 9223372036854775807) (hg : g.size ≤ 9223372036854775807) (hu : u.size ≤ 9223372036854775807) :
    Calls Tryd.prog 43 #[.agg #[.string f, .string t], .agg #[.string g, .string u]] w fun e w' => ∃ v, e = .returned (.tuple #[v, .int .i64 (ckI (okR f t && okR g u))]) ∧ OutR w' v (if (okR f t && okR g u) = true then outL f t g u else []) ∧ Below w.heap.size w w' :=
  (without_fresh f t g u w hf ht hg hu).mono fun _ _ ⟨v, h1, h2, h3⟩ => ⟨v, h1, h2.1, h3⟩
end Go.Proofs.YtkkkppbcjmeapaaDoor
