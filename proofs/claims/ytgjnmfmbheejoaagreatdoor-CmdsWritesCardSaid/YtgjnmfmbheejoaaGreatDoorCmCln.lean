/- A copy of a slice of steps. Condition: fewer than a million million steps. -/
import Derived.Test.YtgjnmfmbheejoaaGreatDoorCmRow
import Derived.Test.YtgjnmfmbheejoaaGreatDoorDfG
import Derived.Test.YtgjnmfmbheejoaaGreatDoorShelfG
import Derived.Deep.DeepFit
namespace Go.Proofs.YtgjnmfmbheejoaaGreatDoor
open Go.RowKit Go.Shelf Go.Sort

theorem stC_len (pre : List Sp) : (pre.flatMap stC).length = pre.length * 2 := by
  induction pre with
  | nil => rfl
  | cons p l ih => rw [List.flatMap_cons, List.length_append, ih, List.length_cons]; show 2 + _ = _; omega
theorem stC_at {s : List Sp} {j : Nat} {u : Value} (h : (s.flatMap stC)[j]? = some u) : ∃ p, s[j / 2]? = some p ∧ ((j % 2 = 0 ∧ u = .string p.k) ∨ (j % 2 = 1 ∧ u = .int .i64 p.v)) := by
  have hl : j < (s.flatMap stC).length := (List.getElem?_eq_some_iff.1 h).1
  rw [stC_len] at hl
  have hp := List.getElem?_eq_getElem (show j / 2 < s.length by omega)
  obtain ⟨c0, c1⟩ := cells_stC s (j / 2) _ hp
  refine ⟨_, hp, ?_⟩
  rcases Nat.mod_two_eq_zero_or_one j with e | e
  · rw [show j / 2 * 2 = j by omega, h] at c0
    exact Or.inl ⟨e, Option.some.inj c0⟩
  · rw [show j / 2 * 2 + 1 = j by omega, h] at c1
    exact Or.inr ⟨e, Option.some.inj c1⟩
theorem slD_addr {w : World} {A : Option Addr} {s : List Sp} (h : SlD w A s) (h0 : s ≠ []) : ∃ g o, A = some ⟨g, o, none⟩ ∧ ∀ (j : Nat) u, (s.flatMap stC)[j]? = some u → w.cell? ⟨g, o + j, none⟩ = some u := by
  obtain ⟨p, hp⟩ : ∃ p, s[0]? = some p := by cases s with | nil => exact absurd rfl h0 | cons p s => exact ⟨p, rfl⟩
  obtain ⟨g, o, rfl, _⟩ := h 0 p hp
  refine ⟨g, o, rfl, fun j u hj => ?_⟩
  obtain ⟨q, hq, hu⟩ := stC_at hj
  obtain ⟨g', o', e, c0, c1⟩ := h (j / 2) q hq
  cases e
  rcases hu with ⟨e, rfl⟩ | ⟨e, rfl⟩
  · rw [show o + j / 2 * 2 = o + j by omega] at c0; exact c0
  · rw [show o + j / 2 * 2 + 1 = o + j by omega] at c1; exact c1
theorem stC_one {s : List Sp} : ∀ u ∈ s.flatMap stC, u.oneCell' = true := fun u hu => by
  obtain ⟨p, _, h⟩ := List.mem_flatMap.1 hu
  unfold stC at h
  simp only [List.mem_cons, List.not_mem_nil, or_false] at h
  rcases h with rfl | rfl <;> rfl
set_option maxRecDepth 100000 in
theorem run_app_srcD (w : World) (A : Option Addr) (n c : Nat) (s : List Sp) (h : SlD w A s) (hl : s.length = n) (hn : n ≤ 1000000000000) {base : Nat} {v : Value} {k : Nat} {xs : List Value} (hown : w.ownsRow base 53 2 v k xs) (hk : k + n ≤ 1099511627776) (hbase : base ≤ w.heap.size) :
    ∃ v' w', (Builtin.append_ #[29, 29] 29 #[v, .slice A n c]).run Tryz.prog w = .ok v' w' ∧ w'.ownsRow base 53 2 v' (k + n) (xs ++ s.flatMap stC) ∧ w.grownBy w' v.ownBlock := by
  by_cases h0 : n = 0
  · subst h0
    have hs : s = [] := List.eq_nil_of_length_eq_zero hl
    subst hs
    obtain ⟨i, hi, hz0, hz1, hz2⟩ := info_parts infoP
    refine ⟨v, w, ?_, by simpa using hown, World.grownBy.refl w _⟩
    rcases hown.2 with ⟨rfl, rfl⟩ | ⟨g, cap, cur, rfl, _, _, hnc, _⟩
    · cases A <;> simp [Builtin.append_, run_underlying Tryz.underlying29, sizeOf, typeInfo, hi, Builtin.lenOf, Builtin.firstCells, loadCells, loadCellsFrom]
    · cases A <;> simp [Builtin.append_, run_underlying Tryz.underlying29, sizeOf, typeInfo, hi, Builtin.lenOf, Builtin.firstCells, hnc, storeCells, loadCells, loadCellsFrom]
  · obtain ⟨g, o, rfl, hc⟩ := slD_addr h (fun e => h0 (by rw [← hl, e]; rfl))
    exact run_app_step w base v k xs hown ⟨g, o, none⟩ n c (s.flatMap stC) (by rw [stC_len, hl]) (fun j u hj => by
      have := hc j u hj
      unfold Addr.add
      split
      · subst_vars; simpa using this
      · exact this) stC_one hk hbase
theorem clone_steps (A : Option Addr) (n c : Nat) (s : List Sp) (w : World) (hs : SlD w A s) (hl : s.length = n) (hn : n ≤ 1000000000000) :
    Calls Tryz.prog 25 #[.slice A n c] w fun e w' => (∃ A' c', e = .returned (.slice A' n c') ∧ n ≤ c' ∧ w'.ownsRow w.heap.size 53 2 (.slice A' n c') n (s.flatMap stC)) ∧ Below w.heap.size w w' := by
  cases A with
  | none =>
    obtain rfl : s = [] := by
      cases s with
      | nil => rfl
      | cons p s => obtain ⟨g, o, e, _⟩ := hs 0 p rfl; cases e
    obtain rfl : n = 0 := hl.symm
    have hq : ∀ W : World, (binOp .eql 29 (.slice none 0 c) (.slice none 0 0)).run Tryz.prog W = .ok (.bool true) W := fun W => Lib.run_eql_slice_nil W _ _ none 0 c 0 0 Tryz.underlying29
    clear hs
    go_enter Tryz.func25, Tryz.ntmps25
    go_wp2
    go_ret
    exact ⟨⟨none, 0, rfl, Nat.le_refl _, rfl, Or.inl ⟨rfl, rfl⟩⟩, Below.refl _ _⟩
  | some a =>
    have hq : ∀ W : World, (binOp .eql 29 (.slice (some a) n c) (.slice none 0 0)).run Tryz.prog W = .ok (.bool false) W := fun W => Lib.run_eql_slice_nil W _ _ (some a) n c 0 0 Tryz.underlying29
    have b1 := (Below.refl w.heap.size w).alloc (Nat.le_refl _) (.cells #[] 53)
    have hm : (w.alloc (.cells #[] 53)).ownsRow w.heap.size 53 2 (.slice (some ⟨w.heap.size, 0, none⟩) 0 0) 0 [] := World.ownsRow_made _ _ _ (Nat.le_refl _) (Nat.zero_le _) rfl
    obtain ⟨v', w4, hrun, hown, hgrow⟩ := run_app_srcD _ (some a) n c s (hs.keep b1) hl hn hm (by omega) (by simp)
    rw [Nat.zero_add, List.nil_append] at hown
    obtain ⟨A4, c4, rfl, hc4⟩ := own_slice2 hown
    have HR := Lib.hid hrun
    have HF := Lib.hid (And.intro (And.intro hc4 hown) (b1.grown hgrow b1.size (fun k e => by simp [Value.ownBlock] at e; omega)))
    clear hrun hown hgrow hm b1 hs hc4
    go_enter Tryz.func25, Tryz.ntmps25
    go_wp2_with (at_builtin; refine wpList_append_run rfl (.tmp 5) (.tmp 6) 29 29 rfl rfl rfl HR.out ?_)
    go_ret
    exact ⟨⟨A4, c4, rfl, HF.out.1.1, HF.out.1.2⟩, HF.out.2⟩
end Go.Proofs.YtgjnmfmbheejoaaGreatDoor
