/- Lists of parts joined to one. Condition: they are short, and some part is there. -/
import Derived.Test.YtkkkppbcjmeapaaDoorPtCopy
namespace Go.Proofs.YtkkkppbcjmeapaaDoor
open Go.RowKit

theorem PartsAt.form {w : World} {v : Value} {d : List Pt} (h : PartsAt w v d) : ∃ a c, v = .slice a d.length c := by
  rcases h with ⟨rfl, rfl⟩ | ⟨g, o, cap, rfl, _⟩
  · exact ⟨none, 0, rfl⟩
  · exact ⟨_, cap, rfl⟩
theorem flat_len_succ (ds : List (List Pt)) (k : Nat) (d : List Pt) (h : ds[k]? = some d) : (ds.take (k + 1)).flatten.length = (ds.take k).flatten.length + d.length ∧ (ds.take (k + 1)).flatten.length ≤ ds.flatten.length := by
  have e : ds.take (k + 1) = ds.take k ++ [d] := by rw [List.take_add_one, h]; rfl
  have e2 : ds.flatten = (ds.take (k + 1)).flatten ++ (ds.drop (k + 1)).flatten := by rw [← List.flatten_append, List.take_append_drop]
  refine ⟨by rw [e]; simp, ?_⟩
  have := congrArg List.length e2
  rw [List.length_append] at this
  omega
theorem flatP_succ (ds : List (List Pt)) (k : Nat) (d : List Pt) (h : ds[k]? = some d) : flatP (ds.take k).flatten ++ flatP d = flatP (ds.take (k + 1)).flatten := by
  have e : ds.take (k + 1) = ds.take k ++ [d] := by rw [List.take_add_one, h]; rfl
  rw [e]
  simp [flatP]
theorem grow_any (n : Nat) (w : World) (h0 : 0 < n) (h1 : n ≤ 1000) :
    Calls Tryd.prog 68 #[.slice none 0 0, .int .i64 n] w fun e w' => ∃ g cap, e = .returned (.slice (some ⟨g, 0, none⟩) 0 cap) ∧ w'.ownsRow w.heap.size 89 4 (.slice (some ⟨g, 0, none⟩) 0 cap) 0 [] ∧ Below w.heap.size w w' := by
  obtain ⟨i0, hi, hz0, hz1, hz2⟩ := info_parts infoPt
  refine (Any8.slices_Grow_grow Tryd.growP i0 (.agg #[.string ⟨#[]⟩, .string ⟨#[]⟩, .int .i64 0, .int .i64 0]) hi hz0 (by rw [hz1]; decide) none 0 0 n [] w (Nat.le_refl _) (by omega) (by rw [hz2]; omega) (by omega) (by simp) (fun _ => rfl) (fun a h => by cases h)).mono ?_
  rintro e w' ⟨rfl, rfl⟩
  have hG1 := grownCap_ge w (0 + n) 0 89
  have hG2 := grownCap_le_maxLen w (0 + n) 0 89 (by unfold maxLen; omega)
  refine ⟨w.heap.size, _, rfl, ?_, ((Below.refl w.heap.size w).drew).alloc (Nat.le_refl _) _⟩
  have := World.ownsRow_made (base := w.heap.size) (e := 89) (size := 4) w.drew (#[] ++ Builtin.zeroCells (Value.cells (.agg #[.string ⟨#[]⟩, .string ⟨#[]⟩, .int .i64 0, .int .i64 0])) (0 + n - 0) ++ Builtin.zeroCells (Value.cells (.agg #[.string ⟨#[]⟩, .string ⟨#[]⟩, .int .i64 0, .int .i64 0])) (grownCap w (0 + n) 0 89 - (0 + n))) (grownCap w (0 + n) 0 89) (Nat.le_refl _) hG2 (by
    rw [Array.size_append, Array.size_append, size_zeroCells, size_zeroCells]
    rw [show (Value.cells (.agg #[.string ⟨#[]⟩, .string ⟨#[]⟩, .int .i64 0, .int .i64 0])).size = 4 from rfl]
    simp only [List.size_toArray, List.length_nil, Nat.zero_add, Nat.sub_zero] at hG1 ⊢
    omega)
  exact this
theorem own_lower {w : World} {b b' : Nat} {e : TypeId} {size n : Nat} {v : Value} {xs : List Value} (h : w.ownsRow b e size v n xs) (hb : b' ≤ b) : w.ownsRow b' e size v n xs :=
  ⟨h.1, h.2.imp id (fun ⟨g, cap, cur, h1, h2, h3⟩ => ⟨g, cap, cur, h1, Nat.le_trans hb h2, h3⟩)⟩

set_option maxRecDepth 100000 in
set_option maxHeartbeats 4000000 in
theorem concat_any (G cap : Nat) (vs : List Value) (ds : List (List Pt)) (w : World) (hl : vs.length = ds.length) (hc : ∀ (i : Nat) v, vs[i]? = some v → w.cell? ⟨G, i, none⟩ = some v) (hp : ∀ (i : Nat) v d, vs[i]? = some v → ds[i]? = some d → PartsAt w v d) (hn0 : 0 < ds.flatten.length) (hn : ds.flatten.length ≤ 900) (hk : vs.length ≤ 10) :
    Calls Tryd.prog 44 #[.slice (some ⟨G, 0, none⟩) vs.length cap] w fun e w' => ∃ v, e = .returned v ∧ w'.ownsRow w.heap.size 89 4 v ds.flatten.length (flatP ds.flatten) ∧ Below w.heap.size w w' := by
  have HC := Lib.hid hc
  have HP := Lib.hid hp
  have HT : Hid (∀ k, ds.length ≤ k → ds.take k = ds) := Lib.hid (fun k h => List.take_of_length_le h)
  have HS := Lib.hid (fun k d h => flat_len_succ ds k d h)
  have HF := Lib.hid (fun k d h => flatP_succ ds k d h)
  rw [hl] at hk ⊢
  have HL := Lib.hid hl
  clear hc hp hl
  generalize hm : ds.length = m at *
  have HM := Lib.hid hm
  generalize hN : ds.flatten.length = N at *
  have HNN := Lib.hid hN
  clear hm hN
  have HGr := Lib.hid (fun W => grow_any N W hn0 (by omega))
  go_enter Tryd.func44, Tryd.ntmps44
  go_wp2_with fail
  go_loopw [11, 3] (fun i s wr => Below w.heap.size w wr ∧ ∃ k q : Nat, k ≤ m ∧ i = .int .i64 k ∧ s = .int .i64 q ∧ q ≤ N ∧ Hid (q = (ds.take k).flatten.length)) (fun i _ _ => m - (intOf i).toNat)
  case atStart => exact ⟨Below.refl _ _, 0, 0, Nat.zero_le _, rfl, rfl, Nat.zero_le _, Lib.hid rfl⟩
  case round =>
    obtain ⟨b2, k, q, hk', rfl, rfl, hqN, Q⟩ := hrel
    by_cases hlt : k < m
    · have hg : ds[k]? = some (ds[k]'(by rw [HM.out]; exact hlt)) := List.getElem?_eq_getElem _
      have hg' : vs[k]? = some (vs[k]'(by rw [HL.out]; exact hlt)) := List.getElem?_eq_getElem _
      generalize ds[k]'(by rw [HM.out]; exact hlt) = d at hg
      generalize vs[k]'(by rw [HL.out]; exact hlt) = v at hg'
      have c0 := HC.out k _ hg'
      obtain ⟨a, c, rfl⟩ := (HP.out k _ _ hg' hg).form
      have d0 := (b2.cell (lt_of_cellR c0)).trans c0
      obtain ⟨s1, s2⟩ := HS.out k _ hg
      have hq2 : q + d.length ≤ N := by rw [Q.out]; omega
      have Q2 := Lib.hid (show q + d.length = (ds.take (k + 1)).flatten.length by rw [s1, ← Q.out])
      generalize d.length = r at *
      clear hg hg' c0 s1 s2 Q HC HP HT HS HF HGr
      go_wp2_with fail
      go_roundw
      case rel => exact ⟨b2, k + 1, q + r, by omega, by go_num, by go_num, hq2, Q2⟩
      case measure => simp [intOf]; omega
    · obtain rfl : k = m := by omega
      obtain rfl : q = N := by rw [Q.out, HT.out k (Nat.le_refl _)]; exact HNN.out
      have HP2 : Hid (∀ (i : Nat) v d, vs[i]? = some v → ds[i]? = some d → PartsAt wr v d) := Lib.hid (fun i v d h1 h2 => (HP.out i v d h1 h2).keep b2)
      clear Q HS HP hk'
      go_wp2_with fail
      refine (HGr.out _).mono ?_
      rintro e w1 ⟨g, c1, rfl, hown, hb1⟩
      have own1 := Lib.hid hown
      have HS1 := Lib.hid hb1
      have B2 := Lib.hid b2
      clear hown hb1 b2 HGr
      go_wp2_with fail
      go_loopw [27, 6] (fun i s wr2 => Below wr.heap.size wr wr2 ∧ ∃ k2 : Nat, k2 ≤ k ∧ i = .int .i64 k2 ∧ wr2.ownsRow wr.heap.size 89 4 s (ds.take k2).flatten.length (flatP (ds.take k2).flatten)) (fun i _ _ => k - (intOf i).toNat)
      case atStart => exact ⟨HS1.out, 0, Nat.zero_le _, rfl, own1.out⟩
      case round =>
        obtain ⟨b4, k2, hk2, rfl, hown⟩ := hrel
        have b3 := B2.out.trans (b4.mono B2.out.size)
        by_cases hlt : k2 < k
        · have hg : ds[k2]? = some (ds[k2]'(by rw [HM.out]; exact hlt)) := List.getElem?_eq_getElem _
          have hg' : vs[k2]? = some (vs[k2]'(by rw [HL.out]; exact hlt)) := List.getElem?_eq_getElem _
          generalize ds[k2]'(by rw [HM.out]; exact hlt) = d at hg
          generalize vs[k2]'(by rw [HL.out]; exact hlt) = v at hg'
          have c0 := HC.out k2 _ hg'
          have d0 := (b3.cell (lt_of_cellR c0)).trans c0
          have hpt := (HP2.out k2 _ _ hg' hg).keep b4
          have hs2 := flat_len_succ ds k2 d hg
          obtain ⟨v', w', hrun, hown', hgrow⟩ := run_app_parts _ _ _ _ _ hown _ _ hpt (by rw [HNN.out] at hs2; omega) b4.size
          obtain ⟨a, c, rfl⟩ := hpt.form
          rw [← hs2.1, HF.out k2 _ hg] at hown'
          have B4 := Lib.hid (b4.grown hgrow b4.size (fun q e => (hown.lt q e).1))
          have R := Lib.hid hrun
          have O := Lib.hid hown'
          generalize d.length = r at *
          clear hg hg' c0 hpt hs2 hrun hown' hgrow hown b3 b4 HC HP2 HT HF own1 HS1
          go_wp2_with (at_builtin; refine wpList_append_run rfl (.tmp 31) (.tmp 32) 72 rfl rfl rfl R.out ?_)
          go_roundw
          case rel => exact ⟨B4.out, k2 + 1, by omega, by go_num, O.out⟩
          case measure => simp [intOf]; omega
        · obtain rfl : k2 = k := by omega
          rw [HT.out k2 (Nat.le_refl _)] at hown
          have O := Lib.hid hown
          clear hown HC HP2 HT HF own1 HS1 b4
          go_wp2_with fail
          go_ret
          exact ⟨_, rfl, own_lower (by have := O.out; rw [HNN.out] at this; exact this) B2.out.size, b3⟩
end Go.Proofs.YtkkkppbcjmeapaaDoor
