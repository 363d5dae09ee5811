/- Ranges and numbers are cloned and cleared. Condition: at most 1000 of them. -/
import Derived.Test.YtkkkppbcjmeapaaDoorPtSt
import Derived.Test.YtkkkppbcjmeapaaDoorRefHas
import Derived.Test.YtkkkppbcjmeapaaDoorShelfG
import Derived.Shelf.SlicesE.Clone
import Derived.Lib.SliceRun
import Derived.Laws.IdiomCopy
namespace Go.Proofs.YtkkkppbcjmeapaaDoor
open Go.RowKit Go.Shelf

/-- The cells of ranges. -/
def cR (l : List (ByteArray × ByteArray)) : List Value := l.flatMap fun p => [.string p.1, .string p.2]
theorem cR_len : ∀ l : List (ByteArray × ByteArray), (cR l).length = l.length * 2
  | [] => rfl
  | p :: l => by
    show ([Value.string p.1, .string p.2] ++ cR l).length = _
    rw [List.length_append, cR_len l, List.length_cons]
    simp only [List.length_cons, List.length_nil]
    omega
theorem cR_get : ∀ (l : List (ByteArray × ByteArray)) (j : Nat) (u : Value), (cR l)[j]? = some u → ∃ p, l[j / 2]? = some p ∧ u = if j % 2 = 0 then .string p.1 else .string p.2
  | [], j, u, h => by simp [cR] at h
  | p :: l, 0, u, h => ⟨p, rfl, (Option.some.inj h).symm⟩
  | p :: l, 1, u, h => ⟨p, rfl, (Option.some.inj h).symm⟩
  | p :: l, j + 2, u, h => by
    obtain ⟨q, h1, h2⟩ := cR_get l j u h
    exact ⟨q, by rw [show (j + 2) / 2 = j / 2 + 1 by omega]; exact h1, by rw [show (j + 2) % 2 = j % 2 by omega]; exact h2⟩
theorem cR_at : ∀ (l : List (ByteArray × ByteArray)) (i : Nat) (p : ByteArray × ByteArray), l[i]? = some p → (cR l)[i * 2]? = some (.string p.1) ∧ (cR l)[i * 2 + 1]? = some (.string p.2)
  | [], i, p, h => by simp at h
  | q :: l, 0, p, h => by cases h; exact ⟨rfl, rfl⟩
  | q :: l, i + 1, p, h => by
    obtain ⟨h1, h2⟩ := cR_at l i p h
    rw [show (i + 1) * 2 = i * 2 + 2 by omega]
    exact ⟨h1, h2⟩
theorem cR_one (l : List (ByteArray × ByteArray)) : ∀ u ∈ cR l, u.oneCell' = true := fun u hu => by
  obtain ⟨p, _, h⟩ := List.mem_flatMap.1 hu
  simp only [List.mem_cons, List.not_mem_nil, or_false] at h
  rcases h with rfl | rfl <;> rfl
/-- A clone: what it holds, and its row. -/
def Cln (B : Nat) (w : World) (t : TypeId) (v : Value) (n size : Nat) : Prop := n ≠ 0 → ∃ g c cur, v = .slice (some ⟨g, 0, none⟩) n c ∧ B ≤ g ∧ Whole w g t cur ∧ n * size ≤ cur.size
theorem cln_own {w : World} {base : Nat} {t : TypeId} {v : Value} {n size : Nat} {xs : List Value} (h : w.ownsRow base t size v n xs) : Cln base w t v n size := fun hn => by
  rcases h.2 with ⟨_, h0⟩ | ⟨g, c, cur, h1, h2, h3, h4, _, h6, _⟩
  · exact absurd h0 hn
  · exact ⟨g, c, cur, h1, h2, h3, by rw [h6]; exact Nat.mul_le_mul_right _ h4⟩
theorem slR_cells {w : World} {base : Nat} {v : Value} {l : List (ByteArray × ByteArray)} (h : w.ownsRow base 30 2 v l.length (cR l)) : SlR w v l := by
  have h0 := h
  rcases h with ⟨_, ⟨rfl, hn⟩ | ⟨g, cap, cur, rfl, _⟩⟩
  · exact ⟨none, 0, by rw [hn], fun i p hi => by have := (List.getElem?_eq_some_iff.1 hi).1; omega⟩
  · refine ⟨_, cap, rfl, fun i p hi => ⟨g, 0, rfl, ?_⟩⟩
    have hlt := (List.getElem?_eq_some_iff.1 hi).1
    obtain ⟨h1, h2⟩ := cR_at l i p hi
    exact ⟨by rw [Nat.zero_add, h0.cellAt _ (by omega)]; exact h1, by rw [Nat.zero_add, h0.cellAt _ (by omega)]; exact h2⟩
set_option maxHeartbeats 1000000 in
theorem cloneR_any (v : Value) (l : List (ByteArray × ByteArray)) (w : World) (h : SlR w v l) (hl : l.length ≤ 1000) :
    Calls Tryd.prog 37 #[v] w fun e w' => ∃ v', e = .returned v' ∧ SlR w' v' l ∧ Cln w.heap.size w' 30 v' l.length 2 ∧ Below w.heap.size w w' := by
  obtain ⟨a, cap, rfl, hc⟩ := h
  obtain ⟨i0, hi, hz0, hz1, hz2⟩ := info_parts infoR
  cases l with
  | nil =>
    cases a with
    | none =>
      refine (AnyE.slices_Clone_nil Tryd.cloneR 0 cap w).mono ?_
      rintro e w' ⟨rfl, rfl⟩
      exact ⟨_, rfl, ⟨none, 0, rfl, fun i p hi => by simp at hi⟩, fun h0 => absurd rfl h0, Below.refl _ _⟩
    | some x =>
      have hne : ∀ W : World, (binOp .eql 45 (.slice (some x) 0 cap) (.slice none 0 0)).run Tryd.prog W = .ok (.bool false) W := fun W => Lib.run_eql_slice_nil W 45 30 (some x) 0 cap 0 0 Tryd.underlying45
      have hap : ∀ (W : World) (y : Addr), (Builtin.append_ #[45, 45] 45 #[.slice (some y) 0 0, .slice (some x) 0 cap]).run Tryd.prog W = .ok (.slice (some y) 0 0) W := fun W y => by
        have h0 : (loadCells x 0).run Tryd.prog W = .ok #[] W := run_loadCells_list (P := Tryd.prog) W x [] (fun j v h => by simp at h)
        simp [Builtin.append_, run_underlying Tryd.underlying45, sizeOf, typeInfo, hi, Builtin.lenOf, Builtin.firstCells, storeCells, h0]
      have B1 := Lib.hid ((Below.refl w.heap.size w).alloc (Nat.le_refl _) (.cells #[] 30))
      clear hc hi hz0 hz1 hz2 hl
      go_enter Tryd.func37, Tryd.ntmps37
      go_wp2_with (at_builtin; refine wpList_append_run rfl (.tmp 5) (.tmp 6) 45 45 rfl rfl rfl (hap _ _) ?_)
      go_ret
      exact ⟨_, rfl, ⟨_, 0, rfl, fun i p hi => by simp at hi⟩, fun h0 => absurd rfl h0, B1.out⟩
  | cons p l =>
    obtain ⟨g, o, rfl, _, _⟩ := hc 0 p rfl
    refine (AnyE.slices_Clone Tryd.cloneR i0 (.agg #[.string ⟨#[]⟩, .string ⟨#[]⟩]) 2 32 hi hz0 hz1 hz2 rfl (by decide) Tryd.sizeOf30 g o (p :: l).length cap (cR (p :: l)) w (cR_len _) (by unfold maxLen; omega) (by omega) (fun j u hj => ?_) (cR_one _)).mono ?_
    · obtain ⟨q, h1, h2⟩ := cR_get _ j u hj
      obtain ⟨g', o', e, h3, h4⟩ := hc _ q h1
      cases e
      by_cases hj2 : j % 2 = 0
      · rw [if_pos hj2] at h2
        rw [h2, ← h3, show o + j / 2 * 2 = o + j by omega]
      · rw [if_neg hj2] at h2
        rw [h2, ← h4, show o + j / 2 * 2 + 1 = o + j by omega]
    · rintro e w' ⟨v', rfl, hown, _, hb⟩
      exact ⟨v', rfl, slR_cells hown, cln_own hown, hb⟩
theorem infoI0 : (Tryd.prog.info? 3).map (fun i => (i.zero, i.size, i.bytes)) = some (some (.int .i64 0), 1, 8) := by kernel_rfl
set_option maxHeartbeats 1000000 in
theorem cloneI_any (v : Value) (l : List Int) (w : World) (h : SlI w v l) (hl : l.length ≤ 1000) :
    Calls Tryd.prog 38 #[v] w fun e w' => ∃ v', e = .returned v' ∧ SlI w' v' l ∧ Cln w.heap.size w' 3 v' l.length 1 ∧ Below w.heap.size w w' := by
  obtain ⟨a, cap, rfl, hc⟩ := h
  obtain ⟨i0, hi, hz0, hz1, hz2⟩ := info_parts infoI0
  cases l with
  | nil =>
    cases a with
    | none =>
      refine (AnyE.slices_Clone_nil Tryd.cloneI 0 cap w).mono ?_
      rintro e w' ⟨rfl, rfl⟩
      exact ⟨_, rfl, ⟨none, 0, rfl, fun i p hi => by simp at hi⟩, fun h0 => absurd rfl h0, Below.refl _ _⟩
    | some x =>
      have hne : ∀ W : World, (binOp .eql 47 (.slice (some x) 0 cap) (.slice none 0 0)).run Tryd.prog W = .ok (.bool false) W := fun W => Lib.run_eql_slice_nil W 47 3 (some x) 0 cap 0 0 Tryd.underlying47
      have hap : ∀ (W : World) (y : Addr), (Builtin.append_ #[47, 47] 47 #[.slice (some y) 0 0, .slice (some x) 0 cap]).run Tryd.prog W = .ok (.slice (some y) 0 0) W := fun W y => by
        have h0 : (loadCells x 0).run Tryd.prog W = .ok #[] W := run_loadCells_list (P := Tryd.prog) W x [] (fun j v h => by simp at h)
        simp [Builtin.append_, run_underlying Tryd.underlying47, sizeOf, typeInfo, hi, Builtin.lenOf, Builtin.firstCells, storeCells, h0]
      have B1 := Lib.hid ((Below.refl w.heap.size w).alloc (Nat.le_refl _) (.cells #[] 3))
      clear hc hi hz0 hz1 hz2 hl
      go_enter Tryd.func38, Tryd.ntmps38
      go_wp2_with (at_builtin; refine wpList_append_run rfl (.tmp 5) (.tmp 6) 47 47 rfl rfl rfl (hap _ _) ?_)
      go_ret
      exact ⟨_, rfl, ⟨_, 0, rfl, fun i p hi => by simp at hi⟩, fun h0 => absurd rfl h0, B1.out⟩
  | cons p l =>
    obtain ⟨g, o, rfl, _⟩ := hc 0 p rfl
    refine (AnyE.slices_Clone Tryd.cloneI i0 (.int .i64 0) 1 8 hi hz0 hz1 hz2 rfl (by decide) Tryd.sizeOf3 g o (p :: l).length cap ((p :: l).map (Value.int .i64)) w (by rw [List.length_map, Nat.mul_one]) (by unfold maxLen; omega) (by omega) (fun j u hj => ?_) (fun u hu => ?_)).mono ?_
    · rw [List.getElem?_map, Option.map_eq_some_iff] at hj
      obtain ⟨q, h1, rfl⟩ := hj
      obtain ⟨g', o', e, h3⟩ := hc j q h1
      cases e
      exact h3
    · obtain ⟨q, _, rfl⟩ := List.mem_map.1 hu
      rfl
    · rintro e w' ⟨v', rfl, hown, _, hb⟩
      exact ⟨v', rfl, slI_own hown, cln_own hown, hb⟩
end Go.Proofs.YtkkkppbcjmeapaaDoor
