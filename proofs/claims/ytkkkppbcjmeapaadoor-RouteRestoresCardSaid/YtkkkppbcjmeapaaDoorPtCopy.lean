/- Copies of maps and of lists of parts; lists of parts joined. Condition: they are short. -/
import Derived.Test.YtkkkppbcjmeapaaDoorPtEq
import Derived.Test.YtkkkppbcjmeapaaDoorShelfG
namespace Go.Proofs.YtkkkppbcjmeapaaDoor
open Go.RowKit

def flatP (d : List Pt) : List Value := d.flatMap ptC
theorem flatP_one (d : List Pt) : ∀ u ∈ flatP d, u.oneCell' = true := by
  intro u hu
  obtain ⟨p, _, hp⟩ := List.mem_flatMap.1 hu
  simp [ptC] at hp
  rcases hp with rfl | rfl | rfl | rfl <;> rfl
theorem flatP_len : ∀ d : List Pt, (flatP d).length = d.length * 4
  | [] => rfl
  | p :: d => by
    show (ptC p ++ flatP d).length = _
    rw [List.length_append, flatP_len d]
    simp [ptC]; omega
theorem flatP_at : ∀ (d : List Pt) (i : Nat) (p : Pt), d[i]? = some p → (flatP d)[i * 4]? = some (.string p.f) ∧ (flatP d)[i * 4 + 1]? = some (.string p.t) ∧ (flatP d)[i * 4 + 2]? = some (.int .i64 p.g) ∧ (flatP d)[i * 4 + 3]? = some (.int .i64 p.e)
  | [], i, p, h => by simp at h
  | q :: d, 0, p, h => by simp at h; subst h; exact ⟨rfl, rfl, rfl, rfl⟩
  | q :: d, i + 1, p, h => by
    have := flatP_at d i p (by simpa using h)
    rw [show (i + 1) * 4 = i * 4 + 4 by omega]
    exact this
theorem add_off (g o j : Nat) : (⟨g, o, none⟩ : Addr).add j = ⟨g, o + j, none⟩ := by unfold Addr.add; split <;> simp_all
theorem cells_flatP {w : World} : ∀ {g o : Nat} {d : List Pt}, CellsP w g o d → ∀ (j : Nat) u, (flatP d)[j]? = some u → w.cell? ⟨g, o + j, none⟩ = some u
  | g, o, [], _, j, u, h => by simp [flatP] at h
  | g, o, p :: d, hc, j, u, h => by
    obtain ⟨c0, c1, c2, c3⟩ := hc 0 p rfl
    match j, h with
    | 0, h => cases h; exact c0
    | 1, h => cases h; simpa using c1
    | 2, h => cases h; simpa using c2
    | 3, h => cases h; simpa using c3
    | j + 4, h =>
      have := cells_flatP (g := g) (o := o + 4) (d := d) (fun i q hi => by
        have h2 := hc (i + 1) q (by simpa using hi)
        rw [show o + (i + 1) * 4 = o + 4 + i * 4 by omega] at h2
        exact h2) j u (by simpa [flatP, ptC] using h)
      rw [show o + (j + 4) = o + 4 + j by omega]
      exact this
theorem parts_own {w : World} {base n : Nat} {v : Value} {d : List Pt} (h : w.ownsRow base 89 4 v n (flatP d)) (hn : n = d.length) : PartsAt w v d := by
  subst hn
  have h0 := h
  rcases h with ⟨_, ⟨rfl, hn⟩ | ⟨g, cap, cur, rfl, _, _, hnc, _⟩⟩
  · exact Or.inl ⟨List.length_eq_zero_iff.1 hn, rfl⟩
  · refine Or.inr ⟨g, 0, cap, rfl, fun i p hi => ?_, hnc⟩
    obtain ⟨h1, h2, h3, h4⟩ := flatP_at d i p hi
    have e1 := h0.cells (g := g) rfl _ _ h1
    have e2 := h0.cells (g := g) rfl _ _ h2
    have e3 := h0.cells (g := g) rfl _ _ h3
    have e4 := h0.cells (g := g) rfl _ _ h4
    rw [add_at] at e1 e2 e3 e4
    simp only [Nat.zero_add]
    exact ⟨e1, e2, e3, e4⟩
/-- append of parts to a row of the call's own: the run's equation. -/
theorem run_app_parts (w : World) (base : Nat) (v : Value) (n : Nat) (xs : List Value) (hown : w.ownsRow base 89 4 v n xs) (x : Value) (d : List Pt) (hx : PartsAt w x d) (hn : n + d.length ≤ 1000) (hbase : base ≤ w.heap.size) :
    ∃ v' w', (Builtin.append_ #[72, 72] 72 #[v, x]).run Tryd.prog w = .ok v' w' ∧ w'.ownsRow base 89 4 v' (n + d.length) (xs ++ flatP d) ∧ w.grownBy w' v.ownBlock := by
  rcases hx with ⟨rfl, rfl⟩ | ⟨g, o, cap, rfl, hc, _⟩
  · refine ⟨v, w, ?_, by simpa [flatP] using hown, World.grownBy.refl w _⟩
    obtain ⟨i, hi, hz0, hz1, hz2⟩ := info_parts infoPt
    rcases hown.2 with ⟨rfl, rfl⟩ | ⟨g, cap, cur, rfl, _, _, hnc, _⟩
    · simp [Builtin.append_, run_underlying Tryd.underlying72, sizeOf, typeInfo, hi, Builtin.lenOf, Builtin.firstCells]
    · simp [Builtin.append_, run_underlying Tryd.underlying72, sizeOf, typeInfo, hi, Builtin.lenOf, Builtin.firstCells, hnc, storeCells]
  · exact run_app_pt w base v n xs hown ⟨g, o, none⟩ d.length cap (flatP d) (flatP_len d) (fun j u hj => by rw [add_off]; exact cells_flatP hc j u hj) (flatP_one d) hn hbase

theorem clone_any (g o cap : Nat) (d : List Pt) (w : World) (hd : d.length ≤ 900) (hc : CellsP w g o d) :
    Calls Tryd.prog 50 #[.slice (some ⟨g, o, none⟩) d.length cap] w fun e w' => ∃ v', e = .returned v' ∧ w'.ownsRow w.heap.size 89 4 v' d.length (flatP d) ∧ v' ≠ .slice none 0 0 ∧ Below w.heap.size w w' := by
  obtain ⟨i0, hi, hz0, hz1, hz2⟩ := info_parts infoPt
  exact AnyE.slices_Clone Tryd.cloneP i0 (.agg #[.string ⟨#[]⟩, .string ⟨#[]⟩, .int .i64 0, .int .i64 0]) 4 48 hi hz0 hz1 hz2 rfl (by decide) Tryd.sizeOf89 g o d.length cap (flatP d) w (flatP_len d) (by unfold maxLen; omega) (by omega) (cells_flatP hc) (flatP_one d)

/-- What Copy answers: a map of its own in the same state. -/
def CopyR (w w' : World) (d : List Pt) (e : Ending) : Prop := ∃ p, e = .returned p ∧ ((d = [] ∧ p = .pointer none) ∨ (d ≠ [] ∧ ∃ B, p = .pointer (some ⟨B, 0, none⟩) ∧ w.heap.size ≤ B ∧ MapAt w' B d))
set_option maxHeartbeats 1000000 in
theorem copy_nil (w : World) :
    Calls Tryd.prog 25 #[.pointer none] w fun e w' => e = .returned (.pointer none) ∧ w = w' := by
  go_enter Tryd.func25, Tryd.ntmps25
  go_wp2_with (go_at_call 45; refine (made_nil _).mono ?_; rintro e w1 ⟨rfl, rfl⟩)
  go_ret
  exact ⟨rfl, rfl⟩
set_option maxHeartbeats 1000000 in
theorem copy_any (B : Nat) (d : List Pt) (w : World) (h : MapAt w B d) (hd : d.length ≤ 900) :
    Calls Tryd.prog 25 #[.pointer (some ⟨B, 0, none⟩)] w fun e w' => CopyR w w' d e ∧ Below w.heap.size w w' := by
  by_cases h0 : d = []
  · subst h0
    have M := Lib.hid (made_any B [] w h)
    simp only [List.length_nil, Nat.lt_irrefl, decide_false] at M
    clear h hd
    go_enter Tryd.func25, Tryd.ntmps25
    go_wp2_with (go_at_call 45; refine M.out.mono ?_; rintro e w1 ⟨rfl, rfl⟩)
    go_ret
    exact ⟨⟨_, rfl, Or.inl ⟨rfl, rfl⟩⟩, Below.refl _ _⟩
  · have hpos : 0 < d.length := by cases d with | nil => exact absurd rfl h0 | cons p ps => simp
    have M := Lib.hid (made_any B d w h)
    rw [decide_eq_true hpos] at M
    obtain ⟨v, h1, h2⟩ := h
    have c := h1.cell
    rcases h2 with ⟨h3, _⟩ | ⟨g, o, cap, rfl, hc, _⟩
    · exact absurd h3 h0
    have CL := Lib.hid (clone_any g o cap d w hd hc)
    have H0 := Lib.hid h0
    clear hc h1 h0 hd hpos
    go_enter Tryd.func25, Tryd.ntmps25
    go_wp2_with (go_at_call 45; refine M.out.mono ?_; rintro e w1 ⟨rfl, rfl⟩)
    refine CL.out.mono ?_
    rintro e w1 ⟨v', rfl, hown, hne, hb⟩
    obtain ⟨g', cap', rfl⟩ : ∃ g' cap', v' = .slice (some ⟨g', 0, none⟩) d.length cap' := by
      rcases hown.2 with ⟨h1, _⟩ | ⟨g', cap', cur, h1, _⟩
      · exact absurd h1 hne
      · exact ⟨g', cap', h1⟩
    clear hne
    have O := Lib.hid hown
    have HB := Lib.hid hb
    clear hown hb CL M
    go_wp2_with fail
    go_ret
    exact ⟨⟨_, rfl, Or.inr ⟨H0.out, w1.heap.size, rfl, HB.out.size, _, Boxed.new w1 _ _, (parts_own O.out rfl).keep ((Below.refl _ _).alloc (Nat.le_refl _) _)⟩⟩, HB.out.alloc HB.out.size _⟩
end Go.Proofs.YtkkkppbcjmeapaaDoor
