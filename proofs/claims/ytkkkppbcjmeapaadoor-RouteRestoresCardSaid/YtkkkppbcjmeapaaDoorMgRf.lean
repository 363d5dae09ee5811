/- Merged by program: RfMem, RfOwn, RfMove, RfMove2. -/
import Derived.Test.YtkkkppbcjmeapaaDoorRtC
import Derived.Test.YtkkkppbcjmeapaaDoorPtSt
import Derived.Test.YtkkkppbcjmeapaaDoorRefHas
import Derived.Test.YtkkkppbcjmeapaaDoorRefWithout
import Derived.Deep.RegionHeld3
import Derived.Deep.DeepFit
import Derived.BigQuiet
import Derived.Deep.QuietTactic
namespace Go.Proofs.YtkkkppbcjmeapaaDoor
section
open Go.RowKit

/-- A map of the reference in memory. -/
def RM (W : World) (C : Nat) (d : List Pt) : Prop := ∃ g cap, Whole W C 106 #[.bool true, .slice (some ⟨g, 0, none⟩) d.length cap] ∧ CellsP W g 0 d ∧ d.length ≤ cap
section
variable {W W' : World} {C B : Nat} {d : List Pt}
theorem RM.lt (h : RM W C d) : C < W.heap.size := by obtain ⟨g, cap, h1, _⟩ := h; exact h1.lt
theorem RM.keep (h : RM W C d) (hb : Below W.heap.size W W') : RM W' C d := by
  obtain ⟨g, cap, h1, h2, h3⟩ := h
  exact ⟨g, cap, h1.below hb h1.lt, h2.keep hb, h3⟩
/-- The row of a list of parts is no block of a map. -/
theorem row_not_ref {g o : Nat} {t : TypeId} {v : Value} (h : Whole W C t #[.bool true, v]) (hv : ∀ s, v ≠ .string s) (hc : CellsP W g o d) (hd : d ≠ []) : g ≠ C := by
  rintro rfl
  obtain ⟨p, hp⟩ : ∃ p, d[0]? = some p := by cases d with | nil => exact absurd rfl hd | cons p ps => exact ⟨p, rfl⟩
  have h1 := (hc 0 p hp).1
  rw [h.cell] at h1
  match o with
  | 0 => cases h1
  | 1 => exact hv p.f (by simpa using h1)
  | o + 2 => simp at h1
theorem RM.byBox {t : TypeId} {u : Value} (h : RM W C d) (hd : d ≠ []) (hu : Boxed W B t u) (hne : C ≠ B) (hg : W.grownBy W' (some B)) : RM W' C d := by
  obtain ⟨g, cap, h1, h2, h3⟩ := h
  exact ⟨g, cap, h1.other hne hg, h2.grown hg (by simp; exact parts_apart hu h2 hd), h3⟩
theorem RM.byRef {d' : List Pt} (h : RM W C d) (hd : d ≠ []) (hu : RM W B d') (hne : C ≠ B) (hg : W.grownBy W' (some B)) : RM W' C d := by
  obtain ⟨g, cap, h1, h2, h3⟩ := h
  obtain ⟨g', cap', h1', _⟩ := hu
  exact ⟨g, cap, h1.other hne hg, h2.grown hg (by simp; exact row_not_ref h1' (fun s => by simp) h2 hd), h3⟩
theorem MapAt.byRef {d' : List Pt} (h : MapAt W B d) (hu : RM W C d') (hne : B ≠ C) (hg : W.grownBy W' (some C)) : MapAt W' B d := by
  obtain ⟨v, h1, h2⟩ := h
  obtain ⟨g', cap', h1', _⟩ := hu
  refine ⟨v, h1.kept hg (by simp; exact hne), h2.grown hg (fun g o n c hv hd e => ?_)⟩
  cases e
  rcases h2 with ⟨h3, _⟩ | ⟨g2, o2, c2, h3, hc, _⟩
  · exact hd h3
  · rw [hv] at h3
    cases h3
    exact row_not_ref h1' (fun s => by simp) hc hd rfl
end
set_option maxHeartbeats 1000000 in
theorem valid_any (C : Nat) (d : List Pt) (w : World) (h : RM w C d) :
    Calls Tryd.prog 52 #[.pointer (some ⟨C, 0, none⟩)] w fun e w' => e = .returned (.bool true) ∧ w = w' := by
  obtain ⟨g, cap, h1, _⟩ := h
  have c0 := (h1.cell 0).trans (show _ = some (Value.bool true) from rfl)
  clear h1
  go_enter Tryd.func52, Tryd.ntmps52
  go_wp2
  go_ret
  exact ⟨rfl, rfl⟩
set_option maxHeartbeats 1000000 in
theorem rgroup_any (n : Int) (w : World) :
    Calls Tryd.prog 51 #[.int .i64 n] w fun e w' => e = .returned (.bool (decide (1 ≤ n ∧ n < 8))) ∧ w = w' := by
  generalize hq : decide (1 ≤ n ∧ n < 8) = q
  have HQ := Lib.hid hq
  clear hq
  by_cases h1 : 1 ≤ n <;> by_cases h2 : n < 8
  all_goals
    go_enter Tryd.func51, Tryd.ntmps51
    go_wp2
    go_ret
    exact ⟨by rw [← HQ.out]; simp [h1, h2] <;> omega, rfl⟩
set_option maxRecDepth 100000 in
set_option maxHeartbeats 4000000 in
theorem rranges_any (C : Nat) (d : List Pt) (w : World) (h : RM w C d) (hd : d.length ≤ 900) :
    Calls Tryd.prog 58 #[.pointer (some ⟨C, 0, none⟩)] w fun e w' => ∃ v, e = .returned v ∧ w'.ownsRow w.heap.size 30 2 v d.length (flatR2 d) ∧ Below w.heap.size w w' := by
  have M := Lib.hid (valid_any C d w h)
  obtain ⟨g, cap, h1, hc, _⟩ := h
  have c := (h1.cell 1).trans (show _ = some (Value.slice (some ⟨g, 0, none⟩) d.length cap) from rfl)
  have HC := Lib.hid hc
  clear h1 hc
  generalize hn : d.length = n at c hd ⊢
  have HN := Lib.hid hn
  clear hn
  go_enter Tryd.func58, Tryd.ntmps58
  go_wp2_with (go_at_call 52; refine M.out.mono ?_; rintro e w1 ⟨rfl, rfl⟩)
  go_loopw [3, 4] (fun v i wr => Below w.heap.size w wr ∧ ∃ k : Nat, k ≤ n ∧ i = .int .i64 k ∧ wr.ownsRow w.heap.size 30 2 v k (flatR2 (d.take k))) (fun _ i _ => n - (intOf i).toNat)
  case atStart => exact ⟨Below.refl _ _, 0, Nat.zero_le _, rfl, own_nil _ _ _ _⟩
  case round =>
    rename_i v0 wr
    obtain ⟨b2, k, hk, rfl, hown⟩ := hrel
    have cc := (b2.cell (lt_of_cellR c)).trans c
    by_cases hlt : k < n
    · have hg : d[k]? = some (d[k]'(by rw [HN.out]; exact hlt)) := List.getElem?_eq_getElem _
      have H4 := HC.out k _ hg
      have HS := Lib.hid (flatR2_snoc d k _ hg)
      generalize d[k]'(by rw [HN.out]; exact hlt) = p at H4 HS
      obtain ⟨c0, c1, c2, c3⟩ := H4
      have d0 := (b2.cell (lt_of_cellR c0)).trans c0
      have d1 := (b2.cell (lt_of_cellR c1)).trans c1
      have d2 := (b2.cell (lt_of_cellR c2)).trans c2
      have d3 := (b2.cell (lt_of_cellR c3)).trans c3
      simp only [Nat.zero_add] at d0 d1 d2 d3
      have bb := b2.alloc b2.size (.cells #[.string p.f, .string p.t] 30)
      have own2 := hown.alloc (.cells #[.string p.f, .string p.t] 30)
      obtain ⟨v', w', hrun, hown', hgrow⟩ := run_app_rng _ _ _ _ _ own2 ⟨wr.heap.size, 0, none⟩ 1 1 [.string p.f, .string p.t] rfl (news_at wr 30 [.string p.f, .string p.t] _ (by simp)) (by intro u hu; simp at hu; rcases hu with rfl | rfl <;> rfl) (by omega) bb.size
      have b3 := Lib.hid (bb.grown hgrow bb.size (fun q e => by exact (hown.lt q e).1))
      have R := Lib.hid hrun
      rw [HS.out] at hown'
      have O := Lib.hid hown'
      have hki : (k : Int) < n := by omega
      have hk0 : (0 : Int) ≤ k := by omega
      clear c0 c1 c2 c3 hg HC bb own2 hown hgrow hrun hown' HS b2 c
      go_wp2_with (at_builtin; refine wpList_append_run rfl (.tmp 17) (.tmp 26) 45 rfl rfl rfl R.out ?_)
      go_roundw
      case rel => exact ⟨b3.out, k + 1, by omega, by go_num, O.out⟩
      case measure => simp [intOf]; omega
    · obtain rfl : k = n := by omega
      rw [show d.take k = d from List.take_of_length_le (by rw [HN.out]; exact Nat.le_refl _)] at hown
      have O := Lib.hid hown
      clear hown c
      go_wp2
      go_ret
      exact ⟨_, rfl, O.out, b2⟩
set_option maxRecDepth 100000 in
set_option maxHeartbeats 4000000 in
theorem rgroups_any (C : Nat) (d : List Pt) (w : World) (h : RM w C d) (hd : d.length ≤ 900) :
    Calls Tryd.prog 59 #[.pointer (some ⟨C, 0, none⟩)] w fun e w' => ∃ v, e = .returned v ∧ w'.ownsRow w.heap.size 3 1 v d.length (flatG d) ∧ Below w.heap.size w w' := by
  have M := Lib.hid (valid_any C d w h)
  obtain ⟨g, cap, h1, hc, _⟩ := h
  have c := (h1.cell 1).trans (show _ = some (Value.slice (some ⟨g, 0, none⟩) d.length cap) from rfl)
  have HC := Lib.hid hc
  clear h1 hc
  generalize hn : d.length = n at c hd ⊢
  have HN := Lib.hid hn
  clear hn
  go_enter Tryd.func59, Tryd.ntmps59
  go_wp2_with (go_at_call 52; refine M.out.mono ?_; rintro e w1 ⟨rfl, rfl⟩)
  go_loopw [3, 4] (fun v i wr => Below w.heap.size w wr ∧ ∃ k : Nat, k ≤ n ∧ i = .int .i64 k ∧ wr.ownsRow w.heap.size 3 1 v k (flatG (d.take k))) (fun _ i _ => n - (intOf i).toNat)
  case atStart => exact ⟨Below.refl _ _, 0, Nat.zero_le _, rfl, own_nil _ _ _ _⟩
  case round =>
    rename_i v0 wr
    obtain ⟨b2, k, hk, rfl, hown⟩ := hrel
    have cc := (b2.cell (lt_of_cellR c)).trans c
    by_cases hlt : k < n
    · have hg : d[k]? = some (d[k]'(by rw [HN.out]; exact hlt)) := List.getElem?_eq_getElem _
      have H4 := HC.out k _ hg
      have HS := Lib.hid (flatG_snoc d k _ hg)
      generalize d[k]'(by rw [HN.out]; exact hlt) = p at H4 HS
      obtain ⟨c0, c1, c2, c3⟩ := H4
      have d0 := (b2.cell (lt_of_cellR c0)).trans c0
      have d1 := (b2.cell (lt_of_cellR c1)).trans c1
      have d2 := (b2.cell (lt_of_cellR c2)).trans c2
      have d3 := (b2.cell (lt_of_cellR c3)).trans c3
      simp only [Nat.zero_add] at d0 d1 d2 d3
      have bb := b2.alloc b2.size (.cells #[.int .i64 p.g] 3)
      have own2 := hown.alloc (.cells #[.int .i64 p.g] 3)
      obtain ⟨v', w', hrun, hown', hgrow⟩ := run_app_int _ _ _ _ _ own2 ⟨wr.heap.size, 0, none⟩ 1 1 [.int .i64 p.g] rfl (news_at wr 3 [.int .i64 p.g] _ (by simp)) (by intro u hu; simp at hu; rcases hu with rfl | rfl <;> rfl) (by omega) bb.size
      have b3 := Lib.hid (bb.grown hgrow bb.size (fun q e => by exact (hown.lt q e).1))
      have R := Lib.hid hrun
      rw [HS.out] at hown'
      have O := Lib.hid hown'
      have hki : (k : Int) < n := by omega
      have hk0 : (0 : Int) ≤ k := by omega
      clear c0 c1 c2 c3 hg HC bb own2 hown hgrow hrun hown' HS b2 c
      go_wp2_with (at_builtin; refine wpList_append_run rfl (.tmp 17) (.tmp 26) 47 rfl rfl rfl R.out ?_)
      go_roundw
      case rel => exact ⟨b3.out, k + 1, by omega, by go_num, O.out⟩
      case measure => simp [intOf]; omega
    · obtain rfl : k = n := by omega
      rw [show d.take k = d from List.take_of_length_le (by rw [HN.out]; exact Nat.le_refl _)] at hown
      have O := Lib.hid hown
      clear hown c
      go_wp2
      go_ret
      exact ⟨_, rfl, O.out, b2⟩
set_option maxRecDepth 100000 in
set_option maxHeartbeats 4000000 in
theorem repochs_any (C : Nat) (d : List Pt) (w : World) (h : RM w C d) (hd : d.length ≤ 900) :
    Calls Tryd.prog 60 #[.pointer (some ⟨C, 0, none⟩)] w fun e w' => ∃ v, e = .returned v ∧ w'.ownsRow w.heap.size 3 1 v d.length (flatE d) ∧ Below w.heap.size w w' := by
  have M := Lib.hid (valid_any C d w h)
  obtain ⟨g, cap, h1, hc, _⟩ := h
  have c := (h1.cell 1).trans (show _ = some (Value.slice (some ⟨g, 0, none⟩) d.length cap) from rfl)
  have HC := Lib.hid hc
  clear h1 hc
  generalize hn : d.length = n at c hd ⊢
  have HN := Lib.hid hn
  clear hn
  go_enter Tryd.func60, Tryd.ntmps60
  go_wp2_with (go_at_call 52; refine M.out.mono ?_; rintro e w1 ⟨rfl, rfl⟩)
  go_loopw [3, 4] (fun v i wr => Below w.heap.size w wr ∧ ∃ k : Nat, k ≤ n ∧ i = .int .i64 k ∧ wr.ownsRow w.heap.size 3 1 v k (flatE (d.take k))) (fun _ i _ => n - (intOf i).toNat)
  case atStart => exact ⟨Below.refl _ _, 0, Nat.zero_le _, rfl, own_nil _ _ _ _⟩
  case round =>
    rename_i v0 wr
    obtain ⟨b2, k, hk, rfl, hown⟩ := hrel
    have cc := (b2.cell (lt_of_cellR c)).trans c
    by_cases hlt : k < n
    · have hg : d[k]? = some (d[k]'(by rw [HN.out]; exact hlt)) := List.getElem?_eq_getElem _
      have H4 := HC.out k _ hg
      have HS := Lib.hid (flatE_snoc d k _ hg)
      generalize d[k]'(by rw [HN.out]; exact hlt) = p at H4 HS
      obtain ⟨c0, c1, c2, c3⟩ := H4
      have d0 := (b2.cell (lt_of_cellR c0)).trans c0
      have d1 := (b2.cell (lt_of_cellR c1)).trans c1
      have d2 := (b2.cell (lt_of_cellR c2)).trans c2
      have d3 := (b2.cell (lt_of_cellR c3)).trans c3
      simp only [Nat.zero_add] at d0 d1 d2 d3
      have bb := b2.alloc b2.size (.cells #[.int .i64 p.e] 3)
      have own2 := hown.alloc (.cells #[.int .i64 p.e] 3)
      obtain ⟨v', w', hrun, hown', hgrow⟩ := run_app_int _ _ _ _ _ own2 ⟨wr.heap.size, 0, none⟩ 1 1 [.int .i64 p.e] rfl (news_at wr 3 [.int .i64 p.e] _ (by simp)) (by intro u hu; simp at hu; rcases hu with rfl | rfl <;> rfl) (by omega) bb.size
      have b3 := Lib.hid (bb.grown hgrow bb.size (fun q e => by exact (hown.lt q e).1))
      have R := Lib.hid hrun
      rw [HS.out] at hown'
      have O := Lib.hid hown'
      have hki : (k : Int) < n := by omega
      have hk0 : (0 : Int) ≤ k := by omega
      clear c0 c1 c2 c3 hg HC bb own2 hown hgrow hrun hown' HS b2 c
      go_wp2_with (at_builtin; refine wpList_append_run rfl (.tmp 17) (.tmp 26) 47 rfl rfl rfl R.out ?_)
      go_roundw
      case rel => exact ⟨b3.out, k + 1, by omega, by go_num, O.out⟩
      case measure => simp [intOf]; omega
    · obtain rfl : k = n := by omega
      rw [show d.take k = d from List.take_of_length_le (by rw [HN.out]; exact Nat.le_refl _)] at hown
      have O := Lib.hid hown
      clear hown c
      go_wp2
      go_ret
      exact ⟨_, rfl, O.out, b2⟩
set_option maxRecDepth 100000 in
set_option maxHeartbeats 4000000 in
theorem rof_any (C : Nat) (d : List Pt) (g0 : Int) (w : World) (h : RM w C d) (hd : d.length ≤ 900) :
    Calls Tryd.prog 61 #[.pointer (some ⟨C, 0, none⟩), .int .i64 g0] w fun e w' => ∃ v, e = .returned v ∧ w'.ownsRow w.heap.size 30 2 v (ofL g0 d).length (flatR2 (ofL g0 d)) ∧ Below w.heap.size w w' := by
  have M := Lib.hid (valid_any C d w h)
  obtain ⟨g, cap, h1, hc, _⟩ := h
  have c := (h1.cell 1).trans (show _ = some (Value.slice (some ⟨g, 0, none⟩) d.length cap) from rfl)
  have HC := Lib.hid hc
  clear h1 hc
  generalize hn : d.length = n at c hd ⊢
  have HN := Lib.hid hn
  clear hn
  go_enter Tryd.func61, Tryd.ntmps61
  go_wp2_with (go_at_call 52; refine M.out.mono ?_; rintro e w1 ⟨rfl, rfl⟩)
  go_loopw [5, 6] (fun v i wr => Below w.heap.size w wr ∧ ∃ k : Nat, k ≤ n ∧ i = .int .i64 k ∧ wr.ownsRow w.heap.size 30 2 v (ofL g0 (d.take k)).length (flatR2 (ofL g0 (d.take k)))) (fun _ i _ => n - (intOf i).toNat)
  case atStart => exact ⟨Below.refl _ _, 0, Nat.zero_le _, rfl, own_nil _ _ _ _⟩
  case round =>
    rename_i v0 wr
    obtain ⟨b2, k, hk, rfl, hown⟩ := hrel
    have cc := (b2.cell (lt_of_cellR c)).trans c
    by_cases hlt : k < n
    · have hg : d[k]? = some (d[k]'(by rw [HN.out]; exact hlt)) := List.getElem?_eq_getElem _
      have H4 := HC.out k _ hg
      have hki : (k : Int) < n := by omega
      have hk0 : (0 : Int) ≤ k := by omega
      generalize hpp : d[k]'(by rw [HN.out]; exact hlt) = p at H4 hg
      obtain ⟨c0, c1, c2, c3⟩ := H4
      have d0 := (b2.cell (lt_of_cellR c0)).trans c0
      have d1 := (b2.cell (lt_of_cellR c1)).trans c1
      have d2 := (b2.cell (lt_of_cellR c2)).trans c2
      simp only [Nat.zero_add] at d0 d1 d2
      by_cases hq : p.g = g0
      · have HS := Lib.hid (ofL_yes g0 d k p hg hq)
        have hol := ofL_len g0 d k
        have bb := b2.alloc b2.size (.cells #[.string p.f, .string p.t] 30)
        have own2 := hown.alloc (.cells #[.string p.f, .string p.t] 30)
        obtain ⟨v', w', hrun, hown', hgrow⟩ := run_app_rng _ _ _ _ _ own2 ⟨wr.heap.size, 0, none⟩ 1 1 [.string p.f, .string p.t] rfl (news_at wr 30 [.string p.f, .string p.t] _ (by simp)) (by intro u hu; simp at hu; rcases hu with rfl | rfl <;> rfl) (by have := HN.out; omega) bb.size
        have b3 := Lib.hid (bb.grown hgrow bb.size (fun q e => by exact (hown.lt q e).1))
        have R := Lib.hid hrun
        rw [HS.out.1, HS.out.2] at hown'
        have O := Lib.hid hown'
        have q1 : (p.g == g0) = true := beq_iff_eq.2 hq
        have q2 : decide (p.g = g0) = true := decide_eq_true hq
        clear c0 c1 c2 c3 hg HC bb own2 hown hgrow hrun hown' HS b2 c hpp hol hq
        go_wp2_with (at_builtin; refine wpList_append_run rfl (.tmp 29) (.tmp 38) 45 rfl rfl rfl R.out ?_)
        go_roundw
        case rel => exact ⟨b3.out, k + 1, by omega, by go_num, O.out⟩
        case measure => simp [intOf]; omega
      · rw [← ofL_no g0 d k p hg hq] at hown
        have O := Lib.hid hown
        have q1 : (p.g == g0) = false := beq_eq_false_iff_ne.2 hq
        have q2 : decide (p.g = g0) = false := decide_eq_false hq
        clear c0 c1 c2 c3 hg HC hown c hpp
        go_wp2_with fail
        go_roundw
        case rel => exact ⟨b2, k + 1, by omega, by go_num, O.out⟩
        case measure => simp [intOf]; omega
    · obtain rfl : k = n := by omega
      rw [show d.take k = d from List.take_of_length_le (by rw [HN.out]; exact Nat.le_refl _)] at hown
      have O := Lib.hid hown
      clear hown c
      go_wp2
      go_ret
      exact ⟨_, rfl, O.out, b2⟩
theorem rmeet_tch (p : Pt) (x y : ByteArray) (w : World) (hf : p.f.size ≤ 9223372036854775807) (ht : p.t.size ≤ 9223372036854775807) (hx : x.size ≤ 9223372036854775807) (hy : y.size ≤ 9223372036854775807) :
    Calls Tryd.prog 75 #[.agg #[.string x, .string y], .agg #[.string p.f, .string p.t]] w fun e w' => (∃ a b er, e = .returned (.tuple #[.agg #[.string a, .string b], .bool (tch x y p), .int .i64 er])) ∧ Below w.heap.size w w' := by
  refine (refMeet_any x y p.f p.t w hx hy hf ht).mono ?_
  rw [← tch_sym x y p]
  rintro e w' ⟨rfl, hb⟩
  refine ⟨?_, hb⟩
  unfold meetV
  split
  · exact ⟨_, _, _, rfl⟩
  · exact ⟨_, _, _, rfl⟩
set_option maxHeartbeats 2000000 in
theorem touches_any (x y : ByteArray) (p : Pt) (w : World) (hf : p.f.size ≤ 9223372036854775807) (ht : p.t.size ≤ 9223372036854775807) (hx : x.size ≤ 9223372036854775807) (hy : y.size ≤ 9223372036854775807) :
    Calls Tryd.prog 54 #[.agg #[.string x, .string y], .agg #[.string p.f, .string p.t, .int .i64 p.g, .int .i64 p.e]] w fun e w' => e = .returned (.bool (tch x y p)) ∧ Below w.heap.size w w' := by
  have hb := ((Below.refl w.heap.size w).alloc (Nat.le_refl _) (.cells #[.string x, .string y] 30)).alloc (by simp) (.cells #[.string p.f, .string p.t, .int .i64 p.g, .int .i64 p.e] 103)
  have HB := Lib.hid hb
  have MT := Lib.hid (fun W => rmeet_tch p x y W hf ht hx hy)
  clear hb hx hy hf ht
  go_enter Tryd.func54, Tryd.ntmps54
  go_wp2_with fail
  refine (MT.out _).mono ?_
  rintro e w2 ⟨⟨a, b, er, rfl⟩, hb2⟩
  have B2 := Lib.hid (HB.out.trans (hb2.mono HB.out.size))
  clear hb2 HB MT
  go_wp2_with fail
  go_ret
  exact ⟨rfl, B2.out.alloc B2.out.size _⟩
end
section
open Go.RowKit

theorem find_at {d : List Pt} {key : ByteArray} {k : Nat} {p : Pt} (hk : d[k]? = some p) (hp : hasR p.f p.t key = true) (hl : ∀ j q, j < k → d[j]? = some q → hasR q.f q.t key = false) : d.find? (fun p => hasR p.f p.t key) = some p := by
  rw [List.find?_eq_some_iff_getElem]
  obtain ⟨h1, h2⟩ := List.getElem?_eq_some_iff.1 hk
  exact ⟨hp, k, h1, h2, fun j hj => by have := hl j _ hj (List.getElem?_eq_getElem (by omega)); simp [this]⟩
theorem findV_no {d : List Pt} {key : ByteArray} (hd : d ≠ []) (hk : isName key.data.toList = false) : findV d key = (⟨⟨#[]⟩, ⟨#[]⟩, 0, 0⟩, 2) := by
  unfold findV
  rw [if_neg hd, hk]; rfl
theorem findV_yes {d : List Pt} {key : ByteArray} {p : Pt} (hd : d ≠ []) (hk : isName key.data.toList = true) (hp : d.find? (fun p => hasR p.f p.t key) = some p) : findV d key = (p, 0) := by
  unfold findV
  rw [if_neg hd, if_pos hk, hp]; rfl
set_option maxRecDepth 100000 in
set_option maxHeartbeats 4000000 in
theorem part_any (C : Nat) (d : List Pt) (key : ByteArray) (w : World) (h : RM w C d) (hs : SmallP d) (hd : d ≠ []) (hk : key.size ≤ 9223372036854775807) (hall : isName key.data.toList = true → ∃ p, d.find? (fun p => hasR p.f p.t key) = some p) :
    Calls Tryd.prog 78 #[.pointer (some ⟨C, 0, none⟩), .string key] w fun e w' => e = .returned (.tuple #[ptV (findV d key).1, .int .i64 (findV d key).2]) ∧ Below w.heap.size w w' := by
  have b1 := (Below.refl w.heap.size w).alloc (Nat.le_refl _) (.cells #[.string ⟨#[]⟩, .string ⟨#[]⟩, .int .i64 0, .int .i64 0] 103)
  have M := Lib.hid (valid_any C d _ (h.keep b1))
  have R := Whole.new w 103 #[.string ⟨#[]⟩, .string ⟨#[]⟩, .int .i64 0, .int .i64 0]
  have N := Lib.hid (fun W => refName_any key W hk)
  cases hn : isName key.data.toList with
  | false =>
    rw [hn] at N
    rw [findV_no hd hn]
    have B1 := Lib.hid b1
    clear b1 h hall hs R
    unfold ptV
    go_enter Tryd.func78, Tryd.ntmps78
    go_wp2_with (first | (go_at_call 52; refine M.out.mono ?_; rintro e w1 ⟨rfl, rfl⟩) | (go_at_call 79; refine (N.out _).mono ?_; rintro e w1 ⟨rfl, rfl⟩))
    refine bodyPost_ret (v := .tuple #[.agg #[.string ⟨#[]⟩, .string ⟨#[]⟩, .int .i64 0, .int .i64 0], .int .i64 2]) (by simp [results, Tryd.results78, go_sem]) rfl ⟨rfl, ?_⟩
    first | exact B1.out | exact b_set4 B1.out (Nat.le_refl _) _ _ _ _ _ _ _ _
  | true =>
    rw [hn] at N
    obtain ⟨p0, hp0⟩ := hall hn
    rw [findV_yes hd hn hp0]
    have HP0 := Lib.hid hp0
    obtain ⟨g, cap, h1, hc, _⟩ := h
    have hCl := h1.lt
    have c := (h1.cell 1).trans (show _ = some (Value.slice (some ⟨g, 0, none⟩) d.length cap) from rfl)
    have HC := Lib.hid hc
    have B1 := Lib.hid b1
    have R1 := Lib.hid R
    have HS := Lib.hid hs
    have hd9 : d.length ≤ 900 := hs.1
    clear h1 hc b1 R hs hp0 hn hall hd hCl
    generalize hnn : d.length = n at c hd9
    have HN := Lib.hid hnn
    clear hnn
    go_enter Tryd.func78, Tryd.ntmps78
    go_wp2_with (first | (go_at_call 52; refine M.out.mono ?_; rintro e w1 ⟨rfl, rfl⟩) | (go_at_call 79; refine (N.out _).mono ?_; rintro e w1 ⟨rfl, rfl⟩))
    clear M N
    go_loopw [6] (fun i wr => ∃ k : Nat, k ≤ n ∧ i = .int .i64 k ∧ Hid (∀ j q, j < k → d[j]? = some q → hasR q.f q.t key = false) ∧ Hid (Below w.heap.size w wr) ∧ Hid (Whole wr w.heap.size 103 #[.string ⟨#[]⟩, .string ⟨#[]⟩, .int .i64 0, .int .i64 0])) (fun i _ => n - (intOf i).toNat)
    case atStart => exact ⟨0, Nat.zero_le _, rfl, Lib.hid (fun j q hj => absurd hj (by omega)), B1, R1⟩
    case round =>
      clear B1 R1
      obtain ⟨k, hk2, rfl, HL, BW, RW⟩ := hrel
      by_cases hlt : k < n
      · have hg : d[k]? = some (d[k]'(by rw [HN.out]; exact hlt)) := List.getElem?_eq_getElem _
        generalize d[k]'(by rw [HN.out]; exact hlt) = p at hg
        obtain ⟨z1, z2⟩ := HS.out.at hg
        have H := Lib.hid (fun W => refHas_any p.f p.t key W z1 z2 hk)
        obtain ⟨c0, c1, c2, c3⟩ := HC.out k _ hg
        have hki : (k : Int) < n := by omega
        have hk0 : (0 : Int) ≤ k := by omega
        have cc := (BW.out.cell (lt_of_cellR c)).trans c
        have d0 := (BW.out.cell (lt_of_cellR c0)).trans c0
        have d1 := (BW.out.cell (lt_of_cellR c1)).trans c1
        have d2 := (BW.out.cell (lt_of_cellR c2)).trans c2
        have d3 := (BW.out.cell (lt_of_cellR c3)).trans c3
        simp only [Nat.zero_add] at d0 d1 d2 d3
        have HG := Lib.hid hg
        clear c0 c1 c2 c3 hg z1 z2 c
        cases hh : hasR p.f p.t key with
        | false =>
          rw [hh] at H
          have HH := Lib.hid hh
          clear hh
          go_wp2_with fail
          refine (H.out _).mono ?_
          rintro e w2 ⟨rfl, hb2⟩
          have B2 := Lib.hid (BW.out.trans (hb2.mono BW.out.size))
          have R2 := Lib.hid (RW.out.below hb2 RW.out.lt)
          clear hb2 cc d0 d1 d2 d3 H
          go_wp2_with fail
          go_roundw
          case rel => exact ⟨k + 1, by omega, by go_num, Lib.hid (fun j q hj hq => by
            by_cases e : j = k
            · subst e; rw [HG.out] at hq; cases hq; exact HH.out
            · exact HL.out j q (by omega) hq), B2, R2⟩
          case measure => simp [intOf]; omega
        | true =>
          rw [hh] at H
          have HE : Hid (p0 = p) := Lib.hid (by
            have := find_at HG.out hh HL.out
            rw [HP0.out] at this
            exact Option.some.inj this)
          clear hh
          obtain ⟨pf, pt, pg, pe⟩ := p
          dsimp only at d0 d1 d2 d3 H
          go_wp2_with fail
          refine (H.out _).mono ?_
          rintro e w2 ⟨rfl, hb2⟩
          have B2 := Lib.hid (BW.out.trans (hb2.mono BW.out.size))
          have R2 := RW.out.below hb2 RW.out.lt
          have cc' := (hb2.cell (lt_of_cellR cc)).trans cc
          have e0 := (hb2.cell (lt_of_cellR d0)).trans d0
          have e1 := (hb2.cell (lt_of_cellR d1)).trans d1
          have e2 := (hb2.cell (lt_of_cellR d2)).trans d2
          have e3 := (hb2.cell (lt_of_cellR d3)).trans d3
          have r0 := R2.cell 0
          have r1 := R2.cell 1
          have r2 := R2.cell 2
          have r3 := R2.cell 3
          have s0 := R2.fr 0
          have s1 := R2.fr 1
          have s2 := R2.fr 2
          have s3 := R2.fr 3
          simp only [List.getElem?_toArray, List.getElem?_cons_succ, List.getElem?_cons_zero] at r0 r1 r2 r3
          clear hb2 cc d0 d1 d2 d3 H R2
          go_wp2_with fail
          refine bodyPost_ret (v := .tuple #[.agg #[.string pf, .string pt, .int .i64 pg, .int .i64 pe], .int .i64 0]) (by simp [results, Tryd.results78, go_sem, r0, r1, r2, r3]) rfl ⟨by rw [HE.out]; rfl, ?_⟩
          exact b_set4 B2.out (Nat.le_refl _) _ _ _ _ _ _ _ _
      · exfalso
        obtain ⟨i, hi, he⟩ := List.mem_iff_getElem.1 (List.mem_of_find?_eq_some HP0.out)
        have := HL.out i p0 (by have := HN.out; omega) (by rw [List.getElem?_eq_getElem hi, he])
        have h2 := List.find?_some HP0.out
        rw [this] at h2; cases h2
set_option maxHeartbeats 2000000 in
theorem rgrp_any (C : Nat) (d : List Pt) (key : ByteArray) (w : World) (h : RM w C d) (hs : SmallP d) (hd : d ≠ []) (hk : key.size ≤ 9223372036854775807) (hall : isName key.data.toList = true → ∃ p, d.find? (fun p => hasR p.f p.t key) = some p) :
    Calls Tryd.prog 56 #[.pointer (some ⟨C, 0, none⟩), .string key] w fun e w' => e = .returned (.tuple #[.int .i64 (findV d key).1.g, .int .i64 (findV d key).2]) ∧ Below w.heap.size w w' := by
  have P := Lib.hid (part_any C d key w h hs hd hk hall)
  clear h hs hd hk hall
  unfold ptV at P
  generalize findV d key = v at P ⊢
  obtain ⟨⟨pf, pt, pg, pe⟩, er⟩ := v
  dsimp only at P ⊢
  go_enter Tryd.func56, Tryd.ntmps56
  go_wp2_with fail
  refine P.out.mono ?_
  rintro e w1 ⟨rfl, hb⟩
  go_wp2_with fail
  go_ret2
  exact ⟨rfl, hb.alloc hb.size _⟩
set_option maxHeartbeats 2000000 in
theorem repc_any (C : Nat) (d : List Pt) (key : ByteArray) (w : World) (h : RM w C d) (hs : SmallP d) (hd : d ≠ []) (hk : key.size ≤ 9223372036854775807) (hall : isName key.data.toList = true → ∃ p, d.find? (fun p => hasR p.f p.t key) = some p) :
    Calls Tryd.prog 57 #[.pointer (some ⟨C, 0, none⟩), .string key] w fun e w' => e = .returned (.tuple #[.int .i64 (findV d key).1.e, .int .i64 (findV d key).2]) ∧ Below w.heap.size w w' := by
  have P := Lib.hid (part_any C d key w h hs hd hk hall)
  clear h hs hd hk hall
  unfold ptV at P
  generalize findV d key = v at P ⊢
  obtain ⟨⟨pf, pt, pg, pe⟩, er⟩ := v
  dsimp only at P ⊢
  go_enter Tryd.func57, Tryd.ntmps57
  go_wp2_with fail
  refine P.out.mono ?_
  rintro e w1 ⟨rfl, hb⟩
  go_wp2_with fail
  go_ret2
  exact ⟨rfl, hb.alloc hb.size _⟩
theorem keep8 {w0 W W' : World} {a0 a1 a2 a3 a4 a5 a6 : Addr} {v0 v1 v2 v3 v4 v5 v6 : Value} (h : W.cell? a0 = some v0 ∧ W.cell? a1 = some v1 ∧ W.cell? a2 = some v2 ∧ W.cell? a3 = some v3 ∧ W.cell? a4 = some v4 ∧ W.cell? a5 = some v5 ∧ W.cell? a6 = some v6 ∧ Below w0.heap.size w0 W) (hb : Below W.heap.size W W') :
    W'.cell? a0 = some v0 ∧ W'.cell? a1 = some v1 ∧ W'.cell? a2 = some v2 ∧ W'.cell? a3 = some v3 ∧ W'.cell? a4 = some v4 ∧ W'.cell? a5 = some v5 ∧ W'.cell? a6 = some v6 ∧ Below w0.heap.size w0 W' := by
  obtain ⟨h0, h1, h2, h3, h4, h5, h6, h7⟩ := h
  exact ⟨(hb.cell (lt_of_cellR h0)).trans h0, (hb.cell (lt_of_cellR h1)).trans h1, (hb.cell (lt_of_cellR h2)).trans h2, (hb.cell (lt_of_cellR h3)).trans h3, (hb.cell (lt_of_cellR h4)).trans h4, (hb.cell (lt_of_cellR h5)).trans h5, (hb.cell (lt_of_cellR h6)).trans h6, h7.trans (hb.mono h7.size)⟩
def rownV : Option Int → Int × Bool × Int
  | none => (0, false, 0)
  | some o => (o, decide (0 < o), 0)
theorem ref_ownerV {d : List Pt} {x y : ByteArray} (hd : d ≠ []) (hr : okR x y = true) : ownerV d x y = rownV (rownL x y d 0) := by
  rw [ref_owner hd hr]
  cases rownL x y d 0 <;> rfl
theorem rownL_tk {x y : ByteArray} {d : List Pt} {k : Nat} {p : Pt} {o : Int} (hp : d[k]? = some p) (h : rownL x y (d.take k) 0 = some o) : rownL x y (d.take (k + 1)) 0 = rownL x y [p] o := by
  rw [List.take_add_one, hp, rownL_snoc, h]; rfl
theorem rownL_stop {x y : ByteArray} {d : List Pt} {k : Nat} (h : rownL x y (d.take k) 0 = none) : rownL x y d 0 = none := by
  rw [← List.take_append_drop k d, rownL_snoc, h]; rfl
set_option maxRecDepth 100000 in
set_option maxHeartbeats 8000000 in
theorem rowner_any (C : Nat) (d : List Pt) (x y : ByteArray) (w : World) (h : RM w C d) (hs : SmallP d) (hd : d ≠ []) (hpos : ∀ p ∈ d, 1 ≤ p.g) (hx : x.size ≤ 9223372036854775807) (hy : y.size ≤ 9223372036854775807) :
    Calls Tryd.prog 53 #[.pointer (some ⟨C, 0, none⟩), .agg #[.string x, .string y]] w fun e w' => e = .returned (ownerE (ownerV d x y)) ∧ Below w.heap.size w w' := by
  have b1 := (Below.refl w.heap.size w).alloc (Nat.le_refl _) (.cells #[.string x, .string y] 30)
  have M := Lib.hid (valid_any C d _ (h.keep b1))
  have R := Whole.new w 30 #[.string x, .string y]
  have K := Lib.hid (fun W => refCheck_any x y W hx hy)
  have r0 := (R.cell 0).trans (show _ = some (Value.string x) from rfl)
  have r1 := (R.cell 1).trans (show _ = some (Value.string y) from rfl)
  cases hr : okR x y with
  | false =>
    rw [hr] at K
    rw [owner_bad hd hr]
    simp only [ckI] at K
    have B1 := Lib.hid b1
    clear b1 h hs R hpos hd
    unfold ownerE
    go_enter Tryd.func53, Tryd.ntmps53
    go_wp2_with (go_at_call 52; refine M.out.mono ?_; rintro e w1 ⟨rfl, rfl⟩)
    refine (K.out _).mono ?_
    rintro e w2 ⟨rfl, hb2⟩
    have B2 := Lib.hid (B1.out.trans (hb2.mono B1.out.size))
    clear hb2 r0 r1
    go_wp2_with fail
    go_ret3
    exact ⟨rfl, B2.out⟩
  | true =>
    rw [hr] at K
    rw [ref_ownerV hd hr]
    simp only [ckI] at K
    have B1 := Lib.hid b1
    have R1 := Lib.hid R
    obtain ⟨g, cap, h1, hc, _⟩ := h
    have c := (h1.cell 1).trans (show _ = some (Value.slice (some ⟨g, 0, none⟩) d.length cap) from rfl)
    have HC := Lib.hid hc
    have HS := Lib.hid hs
    have HP := Lib.hid hpos
    have hd9 : d.length ≤ 900 := hs.1
    clear b1 hs R hpos hd h1 hc
    generalize hnn : d.length = n at c hd9
    have HN := Lib.hid hnn
    generalize hV : rownV (rownL x y d 0) = V
    have HV := Lib.hid hV
    clear hnn hV
    unfold ownerE
    go_enter Tryd.func53, Tryd.ntmps53
    go_wp2_with (go_at_call 52; refine M.out.mono ?_; rintro e w1 ⟨rfl, rfl⟩)
    refine (K.out _).mono ?_
    rintro e w2 ⟨rfl, hb2⟩
    have B2 := Lib.hid (B1.out.trans (hb2.mono B1.out.size))
    have R2 := Lib.hid (R1.out.below hb2 R1.out.lt)
    clear hb2 r0 r1 B1 R1 M K
    go_wp2_with fail
    go_loopw [7, 8] (fun ov i wr => ∃ (k : Nat) (o : Int), k ≤ n ∧ ov = .int .i64 o ∧ i = .int .i64 k ∧ Hid (rownL x y (d.take k) 0 = some o) ∧ Hid (Below w.heap.size w wr) ∧ Hid (Whole wr w.heap.size 30 #[.string x, .string y])) (fun _ i _ => n - (intOf i).toNat)
    case atStart => exact ⟨0, 0, Nat.zero_le _, rfl, rfl, Lib.hid rfl, B2, R2⟩
    case round =>
      rename_i ov0 wr
      clear B2 R2
      obtain ⟨k, o, hk2, rfl, rfl, HO, BW, RW⟩ := hrel
      have cc := (BW.out.cell (lt_of_cellR c)).trans c
      by_cases hlt : k < n
      · as_aux_lemma =>
        have hg : d[k]? = some (d[k]'(by rw [HN.out]; exact hlt)) := List.getElem?_eq_getElem _
        generalize d[k]'(by rw [HN.out]; exact hlt) = p at hg
        obtain ⟨z1, z2⟩ := HS.out.at hg
        have TC := Lib.hid (fun W => touches_any x y p W z1 z2 hx hy)
        obtain ⟨c0, c1, c2, c3⟩ := HC.out k _ hg
        have hki : (k : Int) < n := by omega
        have hk0 : (0 : Int) ≤ k := by omega
        have r0 := (RW.out.cell 0).trans (show _ = some (Value.string x) from rfl)
        have r1 := (RW.out.cell 1).trans (show _ = some (Value.string y) from rfl)
        have d0 := (BW.out.cell (lt_of_cellR c0)).trans c0
        have d1 := (BW.out.cell (lt_of_cellR c1)).trans c1
        have d2 := (BW.out.cell (lt_of_cellR c2)).trans c2
        have d3 := (BW.out.cell (lt_of_cellR c3)).trans c3
        simp only [Nat.zero_add] at d0 d1 d2 d3
        have HTK := Lib.hid (rownL_tk hg HO.out)
        have hgp : 1 ≤ p.g := HP.out p (List.mem_of_getElem? hg)
        obtain ⟨pf, pt, pg, pe⟩ := p
        dsimp only at d0 d1 d2 d3 TC hgp
        have SA := Lib.hid (And.intro r0 (And.intro r1 (And.intro cc (And.intro d0 (And.intro d1 (And.intro d2 (And.intro d3 (Below.refl wr.heap.size wr))))))))
        have SB := Lib.hid (keep8 SA.out (Below.refl _ _).drew)
        clear c0 c1 c2 c3 hg z1 z2 c
        go_wp2_with fail
        go_region_held3 (fun wx => wx.cell? ⟨w.heap.size, 0, none⟩ = some (.string x) ∧ wx.cell? ⟨w.heap.size, 1, none⟩ = some (.string y) ∧ wx.cell? ⟨C, 1, none⟩ = some (.slice (some ⟨g, 0, none⟩) n cap) ∧ wx.cell? ⟨g, k * 4, none⟩ = some (.string pf) ∧ wx.cell? ⟨g, k * 4 + 1, none⟩ = some (.string pt) ∧ wx.cell? ⟨g, k * 4 + 2, none⟩ = some (.int .i64 pg) ∧ wx.cell? ⟨g, k * 4 + 3, none⟩ = some (.int .i64 pe) ∧ Below wr.heap.size wr wx)
          (first | exact SA.out | exact SB.out | (refine keep8 ?_ hb9; assumption) | assumption)
          (first | (go_at_call 54; go_fit (TC.out _); rintro e w3 ⟨rfl, hb9⟩))
        rename_i hF
        obtain ⟨_, _, f2, _, _, f5, _, f7⟩ := hF
        have B3 := Lib.hid (BW.out.trans (f7.mono BW.out.size))
        have R3 := Lib.hid (RW.out.below f7 RW.out.lt)
        clear f7 SA SB cc d0 d1 d2 d3 r0 r1 TC BW RW
        cases ht : tch x y ⟨pf, pt, pg, pe⟩ with
        | false =>
          have HN2 : Hid (rownL x y (d.take (k + 1)) 0 = some o) := Lib.hid (by rw [HTK.out, rownL, ht]; rfl)
          clear ht
          go_wp2_with fail
          go_roundw
          case rel => exact ⟨k + 1, o, by omega, rfl, by go_num, HN2, B3, R3⟩
          case measure => simp [intOf]; omega
        | true =>
          by_cases h0 : o = 0
          · have HN2 : Hid (rownL x y (d.take (k + 1)) 0 = some pg) := Lib.hid (by rw [HTK.out, rownL, if_pos ht, if_neg (by simp [h0])]; rfl)
            subst h0
            clear ht
            go_wp2_with fail
            go_roundw
            case rel => exact ⟨k + 1, pg, by omega, rfl, by go_num, HN2, B3, R3⟩
            case measure => simp [intOf]; omega
          · have q1 : (o == 0) = false := beq_eq_false_iff_ne.2 h0
            have q2 : (o != 0) = true := by simp [h0]
            have q3 : (o = 0) = False := eq_false h0
            by_cases hq : o = pg
            · have HN2 : Hid (rownL x y (d.take (k + 1)) 0 = some pg) := Lib.hid (by rw [HTK.out, rownL, if_pos ht, if_neg (by simp [hq])]; rfl)
              subst hq
              clear ht h0
              go_wp2_with fail
              go_roundw
              case rel => exact ⟨k + 1, o, by omega, rfl, by go_num, HN2, B3, R3⟩
              case measure => simp [intOf]; omega
            · have HN2 : Hid (rownL x y d 0 = none) := Lib.hid (rownL_stop (k := k + 1) (by rw [HTK.out, rownL, if_pos ht, if_pos ⟨h0, hq⟩]))
              have q4 : (o == pg) = false := beq_eq_false_iff_ne.2 hq
              have q5 : (o != pg) = true := by simp [hq]
              have q6 : (o = pg) = False := eq_false hq
              have HE : Hid (V = (0, false, 0)) := Lib.hid (by rw [← HV.out, HN2.out]; rfl)
              clear ht h0 hq
              go_wp2_with fail
              go_ret3
              exact ⟨by rw [HE.out]; rfl, B3.out⟩
      · as_aux_lemma =>
        obtain rfl : k = n := by omega
        have HO2 : Hid (rownL x y d 0 = some o) := Lib.hid (by have := HO.out; rw [List.take_of_length_le (by rw [HN.out]; exact Nat.le_refl _)] at this; exact this)
        have HE : Hid (V = (o, decide (0 < o), 0)) := Lib.hid (by rw [← HV.out, HO2.out]; rfl)
        have ho : 0 ≤ o := rownL_pos x y d 0 (by omega) HP.out o HO2.out
        clear c hlt
        by_cases h0 : o = 0
        · subst h0
          go_wp2_with fail
          go_ret3
          exact ⟨by rw [HE.out]; rfl, BW.out⟩
        · have q1 : (o == 0) = false := beq_eq_false_iff_ne.2 h0
          have q2 : (o != 0) = true := by simp [h0]
          have q3 : (o = 0) = False := eq_false h0
          have HD : Hid (decide (0 < o) = true) := Lib.hid (decide_eq_true (by omega))
          clear h0
          go_wp2_with fail
          go_ret3
          exact ⟨by rw [HE.out, HD.out]; rfl, BW.out⟩
end
section
open Go.RowKit

theorem infoRp : (Tryd.prog.info? 103).map (fun i => (i.zero, i.size, i.bytes)) = some (some (.agg #[.string ⟨#[]⟩, .string ⟨#[]⟩, .int .i64 0, .int .i64 0]), 4, 48) := by kernel_rfl
theorem run_app_rp (w : World) (base : Nat) (v : Value) (n : Nat) (xs : List Value) (hown : w.ownsRow base 103 4 v n xs) (a : Addr) (m c : Nat) (news : List Value) (hm : news.length = m * 4) (hc : ∀ j u, news[j]? = some u → w.cell? (a.add j) = some u) (h1 : ∀ u ∈ news, u.oneCell' = true) (hn : n + m ≤ 1000) (hbase : base ≤ w.heap.size) :
    ∃ v' w', (Builtin.append_ #[104, 104] 104 #[v, .slice (some a) m c]).run Tryd.prog w = .ok v' w' ∧ w'.ownsRow base 103 4 v' (n + m) (xs ++ news) ∧ w.grownBy w' v.ownBlock ∧ (v'.ownBlock = v.ownBlock ∨ v'.ownBlock = some w.heap.size) := by
  obtain ⟨i, hi, hz0, hz1, hz2⟩ := info_parts infoRp
  obtain ⟨v', w', hrun, h4, h5, _, h6⟩ := run_append_own_at (P := Tryd.prog) w base 104 104 103 i (.agg #[.string ⟨#[]⟩, .string ⟨#[]⟩, .int .i64 0, .int .i64 0]) 4 48 Tryd.underlying104 hi hz0 hz1 hz2 rfl (by decide) v n xs hown a m c news (by rw [hm]) hc h1 (by unfold maxLen; omega) (by omega) hbase
  exact ⟨v', w', hrun, h4, h5, h6⟩
/-- A row of parts: its cells. -/
theorem rows_own {w : World} {base n : Nat} {v : Value} {d : List Pt} (h : w.ownsRow base 103 4 v n (flatP d)) (hn : n = d.length) : ∃ a cap gl, v = .slice a n cap ∧ (d ≠ [] → a = some ⟨gl, 0, none⟩ ∧ base ≤ gl) ∧ CellsP w gl 0 d ∧ n ≤ cap := by
  subst hn
  have h0 := h
  rcases h with ⟨_, ⟨rfl, hn⟩ | ⟨g, cap, cur, rfl, hb, _, hnc, _⟩⟩
  · have : d = [] := List.length_eq_zero_iff.1 hn
    subst this
    exact ⟨none, 0, 0, rfl, fun h => absurd rfl h, fun i p hi => by simp at hi, Nat.le_refl _⟩
  · refine ⟨_, cap, g, rfl, fun _ => ⟨rfl, hb⟩, fun i p hi => ?_, hnc⟩
    obtain ⟨h1, h2, h3, h4⟩ := flatP_at d i p hi
    have e1 := h0.cells (g := g) rfl _ _ h1
    have e2 := h0.cells (g := g) rfl _ _ h2
    have e3 := h0.cells (g := g) rfl _ _ h3
    have e4 := h0.cells (g := g) rfl _ _ h4
    rw [add_at] at e1 e2 e3 e4
    simp only [Nat.zero_add]
    exact ⟨e1, e2, e3, e4⟩
/-- What Without leaves, by the reference. -/
theorem rwithout_tch (f t x y : ByteArray) (w : World) (hf : f.size ≤ 9223372036854775807) (ht : t.size ≤ 9223372036854775807) (hx : x.size ≤ 9223372036854775807) (hy : y.size ≤ 9223372036854775807) (h1 : okR f t = true) (h2 : okR x y = true) :
    Calls Tryd.prog 55 #[.agg #[.string f, .string t], .agg #[.string x, .string y]] w fun e w' => (∃ a cap G, e = .returned (.tuple #[.slice a (outL f t x y).length cap, .int .i64 0]) ∧ (outL f t x y ≠ [] → a = some ⟨G, 0, none⟩) ∧ CellsR w' G 0 (outL f t x y) ∧ w.heap.size ≤ G) ∧ Below w.heap.size w w' := by
  refine (refWithout_fresh f t x y w hf ht hx hy).mono ?_
  rintro e w' ⟨v, rfl, ⟨ho, hfr⟩, hb⟩
  rw [h1, h2] at ho ⊢
  simp only [Bool.and_self, if_true] at ho
  refine ⟨?_, hb⟩
  rcases ho with ⟨h3, rfl⟩ | ⟨h3, g, cap, rfl, h4⟩
  · rw [h3]
    exact ⟨none, 0, w.heap.size, rfl, fun h => absurd rfl h, fun i p hi => by simp at hi, Nat.le_refl _⟩
  · exact ⟨_, cap, g, rfl, fun _ => rfl, h4, hfr g rfl⟩
theorem owner_zero {d : List Pt} {x y : ByteArray} (hd : d ≠ []) (hr : okR x y = true) : ∃ o b, ownerV d x y = (o, b, 0) := by
  rw [ref_owner hd hr]
  split
  · exact ⟨0, false, rfl⟩
  · exact ⟨_, _, rfl⟩
set_option maxHeartbeats 4000000 in
/-- Where nothing is moved. -/
theorem rmove_no (C : Nat) (d : List Pt) (x y : ByteArray) (g : Int) (er : Int) (w : World) (h : RM w C d) (G : Good d) (hx : x.size ≤ 9223372036854775807) (hy : y.size ≤ 9223372036854775807)
    (hc : (okR x y = false ∧ er = 2) ∨ (okR x y = true ∧ ¬ (1 ≤ g ∧ g < 8) ∧ er = 2) ∨ (okR x y = true ∧ (1 ≤ g ∧ g < 8) ∧ ((ownerV d x y).2.1 = false ∨ (ownerV d x y).1 = g) ∧ er = 9)) :
    Calls Tryd.prog 35 #[.pointer (some ⟨C, 0, none⟩), .agg #[.string x, .string y], .int .i64 g] w fun e w' => e = .returned (.tuple #[.int .i64 0, .int .i64 er]) ∧ Below w.heap.size w w' := by
  have b1 := (Below.refl w.heap.size w).alloc (Nat.le_refl _) (.cells #[.string x, .string y] 30)
  have O := Lib.hid (rowner_any C d x y _ (h.keep b1) G.sm G.ne (fun p hp => (G.b p hp).1.1) hx hy)
  have R := Whole.new w 30 #[.string x, .string y]
  have r0 := (R.cell 0).trans (show _ = some (Value.string x) from rfl)
  have r1 := (R.cell 1).trans (show _ = some (Value.string y) from rfl)
  have GR := Lib.hid (fun W => rgroup_any g W)
  have B1 := Lib.hid b1
  unfold ownerE at O
  rcases hc with ⟨hr, rfl⟩ | ⟨hr, hg, rfl⟩ | ⟨hr, hg, hs, rfl⟩
  · rw [owner_bad G.ne hr] at O
    clear h G b1 R hr GR
    go_enter Tryd.func35, Tryd.ntmps35
    go_wp2_with fail
    refine O.out.mono ?_
    rintro e w1 ⟨rfl, hb⟩
    have B2 := Lib.hid (B1.out.trans (hb.mono B1.out.size))
    clear hb O r0 r1
    go_wp2_with fail
    go_ret2
    exact ⟨rfl, B2.out⟩
  · obtain ⟨o, b, hv⟩ := owner_zero G.ne hr
    rw [hv] at O
    rw [decide_eq_false hg] at GR
    clear h G b1 R hr hg hv
    go_enter Tryd.func35, Tryd.ntmps35
    go_wp2_with fail
    refine O.out.mono ?_
    rintro e w1 ⟨rfl, hb⟩
    have B2 := Lib.hid (B1.out.trans (hb.mono B1.out.size))
    clear hb O r0 r1
    go_wp2_with (go_at_call 51; refine (GR.out _).mono ?_; rintro e w2 ⟨rfl, rfl⟩)
    go_ret2
    exact ⟨rfl, B2.out⟩
  · obtain ⟨o, b, hv⟩ := owner_zero G.ne hr
    rw [hv] at O hs
    rw [decide_eq_true hg] at GR
    simp only at hs
    clear h G b1 R hr hg hv
    cases b with
    | false =>
      clear hs
      go_enter Tryd.func35, Tryd.ntmps35
      go_wp2_with fail
      refine O.out.mono ?_
      rintro e w1 ⟨rfl, hb⟩
      have B2 := Lib.hid (B1.out.trans (hb.mono B1.out.size))
      clear hb O r0 r1
      go_wp2_with (go_at_call 51; refine (GR.out _).mono ?_; rintro e w2 ⟨rfl, rfl⟩)
      go_ret2
      exact ⟨rfl, B2.out⟩
    | true =>
      obtain rfl : o = g := by simpa using hs
      clear hs
      go_enter Tryd.func35, Tryd.ntmps35
      go_wp2_with fail
      refine O.out.mono ?_
      rintro e w1 ⟨rfl, hb⟩
      have B2 := Lib.hid (B1.out.trans (hb.mono B1.out.size))
      clear hb O r0 r1
      go_wp2_with (go_at_call 51; refine (GR.out _).mono ?_; rintro e w2 ⟨rfl, rfl⟩)
      go_ret2
      exact ⟨rfl, B2.out⟩
end
section
open Go.RowKit

theorem grown_none {w w' : World} (h : Below w.heap.size w w') : w.grownBy w' none := below_grown h
theorem own_below {w0 w w' : World} {base n : Nat} {v : Value} {xs : List Value} (h : w.ownsRow base 103 4 v n xs) (hb : Below w.heap.size w w') : w'.ownsRow base 103 4 v n xs ∧ (w0 = w0) := ⟨h.kept (below_grown hb) (Classical.em _), rfl⟩
theorem pcs_at {f t x y : ByteArray} {g e : Int} {j : Nat} {a b : ByteArray} (h : (outL f t x y)[j]? = some (a, b)) : (pcs x y ⟨f, t, g, e⟩)[j]? = some ⟨a, b, g, e⟩ := by
  unfold pcs
  rw [List.getElem?_map, h]; rfl
theorem keep5 {w0 W W' : World} {a0 a1 a2 a3 : Addr} {v0 v1 v2 v3 : Value} (h : W.cell? a0 = some v0 ∧ W.cell? a1 = some v1 ∧ W.cell? a2 = some v2 ∧ W.cell? a3 = some v3 ∧ w0 = w0) (hb : Below W.heap.size W W') :
    W'.cell? a0 = some v0 ∧ W'.cell? a1 = some v1 ∧ W'.cell? a2 = some v2 ∧ W'.cell? a3 = some v3 ∧ w0 = w0 :=
  ⟨(hb.cell (lt_of_cellR h.1)).trans h.1, (hb.cell (lt_of_cellR h.2.1)).trans h.2.1, (hb.cell (lt_of_cellR h.2.2.1)).trans h.2.2.1, (hb.cell (lt_of_cellR h.2.2.2.1)).trans h.2.2.2.1, rfl⟩
theorem four_one {a b : ByteArray} {g e : Int} : ∀ u ∈ [Value.string a, .string b, .int .i64 g, .int .i64 e], u.oneCell' = true := by
  intro u hu
  simp at hu
  rcases hu with rfl | rfl | rfl | rfl <;> rfl
/-- The row grows by one part. -/
theorem app_one {W : World} {base n : Nat} {v : Value} {l : List Pt} (p : Pt) (h : W.ownsRow base 103 4 v n (flatP l)) (hn : n ≤ 900) (hb : base ≤ W.heap.size) :
    ∃ v' w', (Builtin.append_ #[104, 104] 104 #[v, .slice (some ⟨W.heap.size, 0, none⟩) 1 1]).run Tryd.prog (W.alloc (.cells #[.string p.f, .string p.t, .int .i64 p.g, .int .i64 p.e] 103)) = .ok v' w' ∧
      w'.ownsRow base 103 4 v' (n + 1) (flatP (l ++ [p])) ∧ (W.alloc (.cells #[.string p.f, .string p.t, .int .i64 p.g, .int .i64 p.e] 103)).grownBy w' v.ownBlock ∧ (v'.ownBlock = v.ownBlock ∨ v'.ownBlock = some (W.heap.size + 1)) ∧ Below base W w' := by
  obtain ⟨v', w', h1, h2, h3, h4⟩ := run_app_rp _ base v n _ (h.alloc (.cells #[.string p.f, .string p.t, .int .i64 p.g, .int .i64 p.e] 103)) ⟨W.heap.size, 0, none⟩ 1 1 [.string p.f, .string p.t, .int .i64 p.g, .int .i64 p.e] rfl (news_at W 103 [.string p.f, .string p.t, .int .i64 p.g, .int .i64 p.e] _ rfl) four_one (by omega) (by simp; omega)
  refine ⟨v', w', h1, ?_, h3, by simpa using h4, ?_⟩
  · rw [flatP_append]
    simpa [flatP, ptC] using h2
  · exact ((Below.refl base W).alloc hb (.cells #[.string p.f, .string p.t, .int .i64 p.g, .int .i64 p.e] 103)).grown h3 (by simp; omega) (fun q e => (h.lt q e).1)
theorem below_row {w w' : World} {row : Option Nat} (h : Below w.heap.size w w') : w.grownBy w' row := ⟨h.os, h.tape, h.output, h.size, fun k hk _ => h.block k hk⟩
theorem cellsP_set {w : World} {b o C i : Nat} {d : List Pt} (h : CellsP w b o d) (hne : b ≠ C) (v : Value) : CellsP (w.setCell ⟨C, i, none⟩ v) b o d := fun j p hj =>
  have e : ∀ n, (w.setCell ⟨C, i, none⟩ v).cell? ⟨b, n, none⟩ = w.cell? ⟨b, n, none⟩ := fun n => World.cell?_of_block (a := ⟨b, n, none⟩) (Below.heap_setCell w ⟨C, i, none⟩ v b hne)
  have hc := h j p hj
  ⟨(e _).trans hc.1, (e _).trans hc.2.1, (e _).trans hc.2.2.1, (e _).trans hc.2.2.2⟩
theorem grown_set {w wf : World} (hb : Below w.heap.size w wf) (C i : Nat) (v : Value) : w.grownBy (wf.setCell ⟨C, i, none⟩ v) (some C) :=
  ⟨hb.os, hb.tape, hb.output, by rw [World.size_setCell]; exact hb.size, fun k hk hne => (Below.heap_setCell wf ⟨C, i, none⟩ v k (fun e => hne (by rw [e]))).trans (hb.block k hk)⟩
/-- Whether the new part stands ahead of this one. -/
def hitB (y : ByteArray) (b : Bool) (f : ByteArray) : Bool := decide (b = false ∧ y ≠ ⟨#[]⟩ ∧ f = y)
theorem hit_put (y f : ByteArray) : hitB y true f = false := decide_eq_false (fun h => by cases h.1)
theorem hit_em {y f : ByteArray} (h : y = ⟨#[]⟩) : hitB y false f = false := decide_eq_false (fun e => e.2.1 h)
theorem hit_ne {y f : ByteArray} (h : f ≠ y) : hitB y false f = false := decide_eq_false (fun e => h e.2.2)
theorem hit_eq {y f : ByteArray} (h0 : y ≠ ⟨#[]⟩) (h : f = y) : hitB y false f = true := decide_eq_true ⟨rfl, h0, h⟩
theorem outK_zero (y : ByteArray) (q : Pt) (l : List Pt) : putK y l 0 = false ∧ outK y q l 0 = [] := ⟨rfl, by unfold outK putK; simp⟩
theorem putL_ne (y : ByteArray) (q : Pt) (l : List Pt) : putL y q l ≠ [] := by
  cases l with
  | nil => simp [putL]
  | cons p l => rw [putL]; split <;> simp
theorem str_no {a b : ByteArray} (h : a ≠ b) : (a.toList == b.toList) = false := beq_eq_false_iff_ne.2 (fun e => h (ba_eq e))
theorem str_no0 {a : ByteArray} (h : a ≠ ⟨#[]⟩) : (a.toList == ([] : List UInt8)) = false := by
  have := str_no h
  rwa [show (⟨#[]⟩ : ByteArray).toList = ([] : List UInt8) by rw [ByteArray.toList_eq]] at this
set_option maxRecDepth 100000 in
set_option maxHeartbeats 16000000 in
theorem rmove_yes (C : Nat) (d : List Pt) (x y : ByteArray) (g o : Int) (w : World) (h : RM w C d) (G : Good d) (hx : x.size ≤ 9223372036854775807) (hy : y.size ≤ 9223372036854775807)
    (hr : okR x y = true) (hg : 1 ≤ g ∧ g < 8) (hv : ownerV d x y = (o, true, 0)) (hne : o ≠ g) :
    Calls Tryd.prog 35 #[.pointer (some ⟨C, 0, none⟩), .agg #[.string x, .string y], .int .i64 g] w fun e w' => e = .returned (.tuple #[.int .i64 (moveV d x y g).1, .int .i64 (moveV d x y g).2.1]) ∧ RM w' C (moveV d x y g).2.2 ∧ w.grownBy w' (some C) := by
  have mixed : Tryd.prog.follows Departure.mixedOrders = true := by kernel_rfl
  have HV := Lib.hid (ref_move G hr hg (by rw [hv]) (by rw [hv]; exact hne))
  have b1 := (Below.refl w.heap.size w).alloc (Nat.le_refl _) (.cells #[.string x, .string y] 30)
  have hM := h.keep b1
  have O := Lib.hid (rowner_any C d x y _ hM G.sm G.ne (fun p hp => (G.b p hp).1.1) hx hy)
  rw [hv] at O
  have R := Whole.new w 30 #[.string x, .string y]
  have r0 := (R.cell 0).trans (show _ = some (Value.string x) from rfl)
  have r1 := (R.cell 1).trans (show _ = some (Value.string y) from rfl)
  have GR := Lib.hid (fun W => rgroup_any g W)
  rw [decide_eq_true hg] at GR
  have hCl := h.lt
  have HRM := Lib.hid h
  generalize moveV d x y g = V at HV ⊢
  unfold ownerE at O
  obtain ⟨gg, cap, hB, hc, _⟩ := hM
  have c := (hB.cell 1).trans (show _ = some (Value.slice (some ⟨gg, 0, none⟩) d.length cap) from rfl)
  have hd9 : d.length ≤ 64 := G.l
  have HC := Lib.hid hc
  have HBC := Lib.hid hB
  have HG := Lib.hid G
  have HR := Lib.hid hr
  have HCl := Lib.hid hCl
  have HW0 : Hid (Below w.heap.size w (w.alloc (.cells #[.string x, .string y] 30))) := Lib.hid b1
  have HSZ : Hid (w.heap.size < (w.alloc (.cells #[.string x, .string y] 30)).heap.size) := Lib.hid (by simp)
  have q1 : (o == g) = false := beq_eq_false_iff_ne.2 hne
  have q2 : (o = g) = False := eq_false hne
  have q3 : (o != g) = true := by simp [hne]
  generalize hnn : d.length = n at c hd9
  have HN := Lib.hid hnn
  clear h G hr hg hv hne b1 hB hc R hCl hnn
  go_enter Tryd.func35, Tryd.ntmps35
  go_wp2_with fail
  generalize hw0 : w.alloc (.cells #[.string x, .string y] 30) = w0 at O HC HBC HW0 HSZ c r0 r1 ⊢
  refine O.out.mono ?_
  rintro e w1 ⟨rfl, hb1⟩
  have B1 := Lib.hid hb1
  clear hb1 O hw0
  go_wp2_with (go_at_call 51; refine (GR.out _).mono ?_; rintro e w2 ⟨rfl, rfl⟩)
  clear q1 q2 q3 GR
  go_loopw [11, 12, 13] (fun ep lv i wr => ∃ k : Nat, k ≤ n ∧ i = .int .i64 k ∧ ep = .int .i64 (refE x y (d.take k)) ∧ Hid (wr.ownsRow w0.heap.size 103 4 lv (refL x y (d.take k)).length (flatP (refL x y (d.take k)))) ∧ Hid (Below w0.heap.size w0 wr)) (fun _ _ i _ => n - (intOf i).toNat)
  case atStart => exact ⟨0, Nat.zero_le _, rfl, rfl, Lib.hid (own_nil _ _ _ _), B1⟩
  case round =>
    clear B1
    obtain ⟨k, hk, rfl, rfl, OW, BW⟩ := hrel
    have cc := (BW.out.cell (lt_of_cellR c)).trans c
    by_cases hlt : k < n
    · as_aux_lemma =>
      have hp : d[k]? = some (d[k]'(by rw [HN.out]; exact hlt)) := List.getElem?_eq_getElem _
      generalize d[k]'(by rw [HN.out]; exact hlt) = p at hp
      obtain ⟨z1, z2⟩ := HG.out.sm.at hp
      have TC := Lib.hid (fun W => touches_any x y p W z1 z2 hx hy)
      have WO := Lib.hid (fun W => rwithout_tch p.f p.t x y W z1 z2 hx hy ((chT_ok HG.out.ch).2 p (List.mem_of_getElem? hp)) HR.out)
      obtain ⟨c0, c1, c2, c3⟩ := HC.out k _ hp
      have hki : (k : Int) < n := by omega
      have hk0 : (0 : Int) ≤ k := by omega
      have s0 := (BW.out.cell (lt_of_cellR r0)).trans r0
      have s1 := (BW.out.cell (lt_of_cellR r1)).trans r1
      have d0 := (BW.out.cell (lt_of_cellR c0)).trans c0
      have d1 := (BW.out.cell (lt_of_cellR c1)).trans c1
      have d2 := (BW.out.cell (lt_of_cellR c2)).trans c2
      have d3 := (BW.out.cell (lt_of_cellR c3)).trans c3
      simp only [Nat.zero_add] at d0 d1 d2 d3
      have hpe := (HG.out.b p (List.mem_of_getElem? hp)).2
      have HLS := Lib.hid (refL_snoc x y d k p hp)
      have HES := Lib.hid (refE_snoc x y d k p hp)
      have HLL := Lib.hid (show (refL x y (d.take k)).length ≤ 128 by have := refL_len x y (d.take k); rw [List.length_take] at this; omega)
      have hEb := (refE_bd x y (d.take k)).1
      have hE0 := (refE_bd x y (d.take k)).2 (fun q hq => (HG.out.b q (List.mem_of_mem_take hq)).2.1)
      have bP := (Below.refl wr.heap.size wr).alloc (Nat.le_refl _) (.cells #[.string p.f, .string p.t, .int .i64 p.g, .int .i64 p.e] 103)
      have PW := Whole.new wr 103 #[.string p.f, .string p.t, .int .i64 p.g, .int .i64 p.e]
      have t0 := (PW.cell 0).trans (show _ = some (Value.string p.f) from rfl)
      have t1 := (PW.cell 1).trans (show _ = some (Value.string p.t) from rfl)
      have t2 := (PW.cell 2).trans (show _ = some (Value.int .i64 p.g) from rfl)
      have t3 := (PW.cell 3).trans (show _ = some (Value.int .i64 p.e) from rfl)
      have s0' := cell_al (.cells #[.string p.f, .string p.t, .int .i64 p.g, .int .i64 p.e] 103) s0
      have s1' := cell_al (.cells #[.string p.f, .string p.t, .int .i64 p.g, .int .i64 p.e] 103) s1
      have PP := Lib.hid PW
      have BP := Lib.hid bP
      clear c0 c1 c2 c3 hp z1 z2 c r0 r1 bP PW
      go_wp2_with fail
      refine (TC.out _).mono ?_
      rintro e w3 ⟨rfl, hb3⟩
      have B13 := Lib.hid (BP.out.trans (hb3.mono BP.out.size))
      have B3 := Lib.hid (BW.out.trans (B13.out.mono BW.out.size))
      have O3 := Lib.hid (OW.out.kept (below_grown B13.out) (Classical.em _))
      have P3 := Lib.hid (PP.out.below hb3 PP.out.lt)
      have HP1 := Lib.hid (own_block_lt OW.out (Nat.le_refl wr.heap.size))
      have u0 := (P3.out.cell 0).trans (show _ = some (Value.string p.f) from rfl)
      have u1 := (P3.out.cell 1).trans (show _ = some (Value.string p.t) from rfl)
      have u2 := (P3.out.cell 2).trans (show _ = some (Value.int .i64 p.g) from rfl)
      have u3 := (P3.out.cell 3).trans (show _ = some (Value.int .i64 p.e) from rfl)
      have v0 := (B13.out.cell (lt_of_cellR s0)).trans s0
      have v1 := (B13.out.cell (lt_of_cellR s1)).trans s1
      have HW3 := Lib.hid (show wr.heap.size < w3.heap.size by have := hb3.size; simp at this; omega)
      clear hb3 cc d0 d1 d2 d3 s0 s1 s0' s1' t0 t1 t2 t3 TC BW OW PP BP
      generalize refE x y (d.take k) = E0 at HES hEb hE0 ⊢
      generalize refL x y (d.take k) = A at HLS HLL O3 ⊢
      cases ht : tch x y p with
      | false =>
        rw [ht] at HLS HES
        obtain ⟨v', w', hrun, hown', _, _, hbl⟩ := app_one p O3.out (by have := HLL.out; omega) B3.out.size
        have RN := Lib.hid hrun
        have ON : Hid (w'.ownsRow w0.heap.size 103 4 v' (refL x y (d.take (k + 1))).length (flatP (refL x y (d.take (k + 1))))) := Lib.hid (by
          rw [HLS.out]
          simpa using hown')
        have BN := Lib.hid (B3.out.trans hbl)
        have HE1 : Hid (refE x y (d.take (k + 1)) = E0) := Lib.hid (by rw [HES.out]; rfl)
        clear hrun hown' hbl ht HLS HES O3 B3 WO v0 v1
        go_wp2_with (at_builtin; refine wpList_append_run rfl (.tmp 61) (.tmp 63) 104 rfl rfl rfl RN.out ?_)
        go_roundw
        case rel => exact ⟨k + 1, by omega, by go_num, by rw [HE1.out], ON, BN⟩
        case measure => simp [intOf]; omega
      | true =>
        rw [ht] at HLS HES
        have HE1 : Hid (refE x y (d.take (k + 1)) = min (max E0 (p.e + 1)) 2147483648) := Lib.hid (by rw [HES.out]; rfl)
        have HL1 : Hid (refL x y (d.take (k + 1)) = A ++ pcs x y p) := Lib.hid (by rw [HLS.out]; rfl)
        have mx : ∀ ts t W, (Builtin.max_ ts t #[.int .i64 E0, .int .i64 (p.e + 1)]).run Tryd.prog W = .ok (.int .i64 (max E0 (p.e + 1))) W := fun ts t W => run_maxI ts t _ _ W
        have mn : ∀ ts t W, (Builtin.min_ ts t #[.int .i64 (max E0 (p.e + 1)), .int .i64 2147483648]).run Tryd.prog W = .ok (.int .i64 (min (max E0 (p.e + 1)) 2147483648)) W := fun ts t W => run_minI ts t _ _ W
        have hwe : IntKind.i64.wrap (p.e + 1) = p.e + 1 := IntWalk.i64_in _ (by omega)
        clear ht HLS HES
        go_wp2_with fail
        clear mx mn hwe
        generalize hE2 : min (max E0 (p.e + 1)) 2147483648 = E2 at HE1 ⊢
        clear hE2 hEb hE0
        refine (WO.out _).mono ?_
        rintro e w4 ⟨⟨ra, rcap, GG, rfl, hra, hcr, hGG⟩, hb4⟩
        have B34 := Lib.hid hb4
        have O4 := Lib.hid (O3.out.kept (below_grown hb4) (Classical.em _))
        have B4 := Lib.hid (B3.out.trans (hb4.mono B3.out.size))
        have P4 := Lib.hid (P3.out.below hb4 P3.out.lt)
        have HRA := Lib.hid hra
        have CR4 := Lib.hid hcr
        have HG1 := Lib.hid (own_block_lt O3.out hGG)
        have HGL := Lib.hid hGG
        have hol := outL_len p.f p.t x y
        have HPA := Lib.hid (fun (j : Nat) (a b : ByteArray) (h : (outL p.f p.t x y)[j]? = some (a, b)) => pcs_at (g := p.g) (e := p.e) h)
        have HPL : Hid ((pcs x y p).length = (outL p.f p.t x y).length) := Lib.hid (by unfold pcs; rw [List.length_map])
        obtain ⟨pf, pt, pg, pe⟩ := p
        dsimp only at P4 HPA HPL CR4 HRA hol HL1 ⊢
        generalize outL pf pt x y = ps at HPA HPL CR4 HRA hol ⊢
        generalize pcs x y ⟨pf, pt, pg, pe⟩ = Bs at HPA HPL HL1 ⊢
        generalize hmm : ps.length = m at HPL hol ⊢
        have HMM := Lib.hid hmm
        clear hb4 hra hcr hGG hmm u0 u1 u2 u3 v0 v1 O3 B3 P3 WO B13 B34 HW3 hpe
        generalize wr.heap.size = PB at P4 HP1 ⊢
        go_wp2_with fail
        go_loopw [12, 17] (fun lv2 j wr2 => ∃ q : Nat, q ≤ m ∧ j = .int .i64 q ∧ Hid (wr2.ownsRow w0.heap.size 103 4 lv2 (A.length + q) (flatP (A ++ Bs.take q))) ∧ Hid (Below w0.heap.size w0 wr2) ∧ Hid (Whole wr2 PB 103 #[.string pf, .string pt, .int .i64 pg, .int .i64 pe]) ∧ Hid (CellsR wr2 GG 0 ps) ∧ Hid (some PB ≠ lv2.ownBlock) ∧ Hid (some GG ≠ lv2.ownBlock)) (fun _ j _ => m - (intOf j).toNat)
        case atStart => exact ⟨0, Nat.zero_le _, rfl, Lib.hid (by simpa using O4.out), B4, P4, CR4, HP1, HG1⟩
        case round =>
          clear O4 B4 P4 CR4 HP1 HG1
          obtain ⟨q, hq, rfl, OW2, BW2, PW2, CR2, HP2, HG2⟩ := hrel
          by_cases hlq : q < m
          · as_aux_lemma =>
            obtain ⟨⟨a, b⟩, hab⟩ : ∃ ab, ps[q]? = some ab := ⟨_, List.getElem?_eq_getElem (show q < ps.length by rw [HMM.out]; exact hlq)⟩
            have hnn : ps ≠ [] := fun e => by rw [e] at hab; simp at hab
            obtain rfl := HRA.out hnn
            obtain ⟨y0, y1⟩ := CR2.out q _ hab
            simp only [Nat.zero_add] at y0 y1
            have p2 := (PW2.out.cell 2).trans (show _ = some (Value.int .i64 pg) from rfl)
            have p3 := (PW2.out.cell 3).trans (show _ = some (Value.int .i64 pe) from rfl)
            have hBq := HPA.out q a b hab
            have hqi : (q : Int) < m := by omega
            have hq0 : (0 : Int) ≤ q := by omega
            have own2 : (wr.drew).ownsRow w0.heap.size 103 4 _ (A.length + q) (flatP (A ++ Bs.take q)) := OW2.out.kept (below_grown (Below.refl _ _).drew) (Classical.em _)
            obtain ⟨v', w', hrun, hown', hgr, hbk, hbl⟩ := app_one ⟨a, b, pg, pe⟩ own2 (by have := HLL.out; omega) BW2.out.size
            have hrun' : (Builtin.append_ #[104, 104] 104 #[_, .slice (some ⟨wr.heap.size, 0, none⟩) 1 1]).run Tryd.prog (wr.alloc (.cells #[.string a, .string b, .int .i64 pg, .int .i64 pe] 103)).drew = .ok v' w' := hrun
            have RN := Lib.hid hrun'
            have hGl : GG < wr.heap.size := lt_of_cellR y0
            have hPl : PB < wr.heap.size := PW2.out.lt
            have ON : Hid (w'.ownsRow w0.heap.size 103 4 v' (A.length + (q + 1)) (flatP (A ++ Bs.take (q + 1)))) := Lib.hid (by
              rw [← take_snocL hBq]
              exact hown')
            have BN : Hid (Below w0.heap.size w0 w') := Lib.hid (BW2.out.drew.trans hbl)
            have PN : Hid (Whole w' PB 103 #[.string pf, .string pt, .int .i64 pg, .int .i64 pe]) := Lib.hid (Whole.grown (Whole.alloc (w := wr.drew) PW2.out _) hgr HP2.out)
            have CN : Hid (CellsR w' GG 0 ps) := Lib.hid (CellsR.grown (CR2.out.below ((Below.refl wr.heap.size wr).drew.alloc (Nat.le_refl _) _) (Nat.le_refl _)) hgr (fun _ => HG2.out))
            have HPN : Hid (some PB ≠ v'.ownBlock) := Lib.hid (by
              rcases hbk with e | e
              · rw [e]; exact HP2.out
              · rw [e]; intro h; injection h with h; have : PB = wr.heap.size + 1 := h; omega)
            have HGN : Hid (some GG ≠ v'.ownBlock) := Lib.hid (by
              rcases hbk with e | e
              · rw [e]; exact HG2.out
              · rw [e]; intro h; injection h with h; have : GG = wr.heap.size + 1 := h; omega)
            have SA : Hid (wr.cell? ⟨GG, q * 2, none⟩ = some (.string a) ∧ wr.cell? ⟨GG, q * 2 + 1, none⟩ = some (.string b) ∧ wr.cell? ⟨PB, 2, none⟩ = some (.int .i64 pg) ∧ wr.cell? ⟨PB, 3, none⟩ = some (.int .i64 pe)) := Lib.hid ⟨y0, y1, p2, p3⟩
            have SB : Hid ((wr.alloc (.cells #[.string a, .string b, .int .i64 pg, .int .i64 pe] 103)).cell? ⟨GG, q * 2, none⟩ = some (.string a) ∧ (wr.alloc (.cells #[.string a, .string b, .int .i64 pg, .int .i64 pe] 103)).cell? ⟨GG, q * 2 + 1, none⟩ = some (.string b) ∧ (wr.alloc (.cells #[.string a, .string b, .int .i64 pg, .int .i64 pe] 103)).cell? ⟨PB, 2, none⟩ = some (.int .i64 pg) ∧ (wr.alloc (.cells #[.string a, .string b, .int .i64 pg, .int .i64 pe] 103)).cell? ⟨PB, 3, none⟩ = some (.int .i64 pe)) := Lib.hid ⟨cell_al _ y0, cell_al _ y1, cell_al _ p2, cell_al _ p3⟩
            have SC : Hid (w'.cell? ⟨GG, q * 2, none⟩ = some (.string a) ∧ w'.cell? ⟨GG, q * 2 + 1, none⟩ = some (.string b) ∧ w'.cell? ⟨PB, 2, none⟩ = some (.int .i64 pg) ∧ w'.cell? ⟨PB, 3, none⟩ = some (.int .i64 pe)) := Lib.hid ⟨grown_cell (cell_al (w := wr.drew) _ y0) hgr HG2.out, grown_cell (cell_al (w := wr.drew) _ y1) hgr HG2.out, grown_cell (cell_al (w := wr.drew) _ p2) hgr HP2.out, grown_cell (cell_al (w := wr.drew) _ p3) hgr HP2.out⟩
            clear hrun hrun' hown' hgr hbk hbl own2 hBq hab hnn y0 y1 p2 p3 OW2 BW2 PW2 CR2 HP2 HG2 hGl hPl
            go_wp2_with fail
            go_region_held3 (fun wx => wx.cell? ⟨GG, q * 2, none⟩ = some (.string a) ∧ wx.cell? ⟨GG, q * 2 + 1, none⟩ = some (.string b) ∧ wx.cell? ⟨PB, 2, none⟩ = some (.int .i64 pg) ∧ wx.cell? ⟨PB, 3, none⟩ = some (.int .i64 pe))
              (first | exact SA.out | exact SB.out | exact SC.out | assumption)
              (first | (refine step_append_run (by rfl) (.tmp 84) (.tmp 94) 104 (by rfl) (by rfl) (by rfl) RN.out ?_))
            clear SA SB SC RN
            go_wp2_with fail
            go_roundw
            case rel => exact ⟨q + 1, by omega, by go_num, ON, BN, PN, CN, HPN, HGN⟩
            case measure => simp [intOf]; omega
          · as_aux_lemma =>
            obtain rfl : q = m := by omega
            have ON : Hid (wr.ownsRow w0.heap.size 103 4 _ (refL x y (d.take (k + 1))).length (flatP (refL x y (d.take (k + 1))))) := Lib.hid (by
              have h := OW2.out
              rw [List.take_of_length_le (by rw [HPL.out]; exact Nat.le_refl _)] at h
              rw [HL1.out, List.length_append, HPL.out]
              exact h)
            clear OW2 PW2 CR2 HP2 HG2
            go_wp2_with fail
            go_roundw
            case rel => exact ⟨k + 1, by omega, by go_num, by rw [HE1.out], ON, BW2⟩
            case measure => simp [intOf]; omega
    · as_aux_lemma =>
      obtain rfl : k = n := by omega
      have HTD := Lib.hid (show d.take k = d from List.take_of_length_le (by rw [HN.out]; exact Nat.le_refl _))
      rw [HTD.out] at OW ⊢
      have hLL : (refL x y d).length ≤ 128 := by have := refL_len x y d; have := HN.out; omega
      obtain ⟨la, lcap, gl, rfl, hla, hcl, _⟩ := rows_own OW.out rfl
      have s0 := (BW.out.cell (lt_of_cellR r0)).trans r0
      have s1 := (BW.out.cell (lt_of_cellR r1)).trans r1
      have HLA := Lib.hid hla
      have HCL := Lib.hid hcl
      generalize refE x y d = E at HV ⊢
      generalize refL x y d = L at HV hLL HLA HCL ⊢
      generalize hmm : L.length = m at hLL ⊢
      have HMM := Lib.hid hmm
      have HOZ := Lib.hid (outK_zero y ⟨x, y, g, E⟩ L)
      clear hla hcl hmm OW HTD hlt hk r0 r1 c
      go_wp2_with fail
      clear cc
      generalize wr = w3 at BW HCL s0 s1 ⊢
      go_loopw [18, 19, 20] (fun ov pv i wr => ∃ j : Nat, j ≤ m ∧ i = .int .i64 j ∧ pv = .bool (putK y L j) ∧ Hid (wr.ownsRow w3.heap.size 103 4 ov (outK y ⟨x, y, g, E⟩ L j).length (flatP (outK y ⟨x, y, g, E⟩ L j))) ∧ Hid (Below w3.heap.size w3 wr)) (fun _ _ i _ => m - (intOf i).toNat)
      case atStart => exact ⟨0, Nat.zero_le _, rfl, by rw [HOZ.out.1], Lib.hid (by rw [HOZ.out.2]; exact own_nil _ _ _ _), Lib.hid (Below.refl _ _)⟩
      case round =>
        obtain ⟨j, hj, rfl, rfl, OW, BX⟩ := hrel
        have a0 := (BX.out.cell (lt_of_cellR s0)).trans s0
        have a1 := (BX.out.cell (lt_of_cellR s1)).trans s1
        have HOL := Lib.hid (outK_len y ⟨x, y, g, E⟩ L j)
        by_cases hlj : j < m
        · as_aux_lemma =>
          have hp : L[j]? = some (L[j]'(by rw [HMM.out]; exact hlj)) := List.getElem?_eq_getElem _
          generalize L[j]'(by rw [HMM.out]; exact hlj) = p at hp
          obtain ⟨hla', hgl⟩ := HLA.out (fun e => by rw [e] at hp; simp at hp)
          subst hla'
          obtain ⟨c0, c1, c2, c3⟩ := HCL.out j _ hp
          simp only [Nat.zero_add] at c0 c1 c2 c3
          have hgl3 : gl < w3.heap.size := lt_of_cellR c0
          have hRl3 : w.heap.size < w3.heap.size := lt_of_cellR s0
          have d0 := (BX.out.cell (lt_of_cellR c0)).trans c0
          have d1 := (BX.out.cell (lt_of_cellR c1)).trans c1
          have d2 := (BX.out.cell (lt_of_cellR c2)).trans c2
          have d3 := (BX.out.cell (lt_of_cellR c3)).trans c3
          have HRD := Lib.hid (outK_round (q := ⟨x, y, g, E⟩) (y := y) hp)
          have hji : (j : Int) < m := by omega
          have hj0 : (0 : Int) ≤ j := by omega
          obtain ⟨pf, pt, pg, pe⟩ := p
          dsimp only at d0 d1 d2 d3
          clear c0 c1 c2 c3 hp HLA HCL hgl
          go_upto_region 27 with fail
          go_cut [19, 119] (fun pv cv wx => pv = .bool (putK y L j) ∧ cv = .bool (hitB y (putK y L j) pf) ∧ Hid (Below wr.heap.size wr wx))
          case first => as_aux_lemma =>
            clear OW HRD HOL HV
            cases hpu : putK y L j with
            | true =>
              have HPU := Lib.hid hpu
              have HV1 := Lib.hid (hit_put y pf)
              clear hpu
              refine wp_region_quiet_lit (by kernel_rfl) (by kernel_rfl) ?_
              repeat (any_goals (first | go_big_quiet_step (fail) | quiet_step (fail) | (refine wpQuiet_step (fun K hK => ?_); go_simp; split <;> (refine hK _ ?_; clear hK K))))
              all_goals (refine wpQuiet_nil ?_; intro _ hw'; obtain ⟨nq, hw''⟩ := hw'; subst hw'')
              go_wp2_with fail
              go_meet
              exact ⟨by rw [HPU.out], by rw [HPU.out, HV1.out], Lib.hid (b_drewN (Below.refl _ _) _)⟩
            | false =>
              have HPU := Lib.hid hpu
              clear hpu
              by_cases hy0 : y = ⟨#[]⟩
              · rw [hy0] at a1
                have HV1 := Lib.hid (hit_em (f := pf) hy0)
                clear hy0
                refine wp_region_quiet_lit (by kernel_rfl) (by kernel_rfl) ?_
                repeat (any_goals (first | go_big_quiet_step (fail) | quiet_step (fail) | (refine wpQuiet_step (fun K hK => ?_); go_simp; split <;> (refine hK _ ?_; clear hK K))))
                all_goals (refine wpQuiet_nil ?_; intro _ hw'; obtain ⟨nq, hw''⟩ := hw'; subst hw'')
                go_wp2_with fail
                go_meet
                exact ⟨by rw [HPU.out], by rw [HPU.out, HV1.out], Lib.hid (b_drewN (Below.refl _ _) _)⟩
              · have g1 := str_no hy0
                have g2 := str_no0 hy0
                have g3 : (y.toList != ([] : List UInt8)) = true := by rw [bne, g2]; rfl
                by_cases hf : pf = y
                · have HV1 := Lib.hid (hit_eq hy0 hf)
                  have g4 : (pf.toList == y.toList) = true := by rw [hf]; exact beq_self_eq_true _
                  clear hf hy0
                  go_quiet_o (fail)
                  go_wp2_with fail
                  go_meet
                  exact ⟨by rw [HPU.out], by rw [HPU.out, HV1.out], Lib.hid (b_drewN (Below.refl _ _) _)⟩
                · have HV1 := Lib.hid (hit_ne hf)
                  have g4 := str_no hf
                  clear hf hy0
                  go_quiet_o (fail)
                  go_wp2_with fail
                  go_meet
                  exact ⟨by rw [HPU.out], by rw [HPU.out, HV1.out], Lib.hid (b_drewN (Below.refl _ _) _)⟩
          case rest =>
            obtain ⟨rfl, rfl, hbx⟩ := hcut
            have b0 := (hbx.out.cell (lt_of_cellR a0)).trans a0
            have b1 := (hbx.out.cell (lt_of_cellR a1)).trans a1
            have e0 := (hbx.out.cell (lt_of_cellR d0)).trans d0
            have e1 := (hbx.out.cell (lt_of_cellR d1)).trans d1
            have e2 := (hbx.out.cell (lt_of_cellR d2)).trans d2
            have e3 := (hbx.out.cell (lt_of_cellR d3)).trans d3
            have OQ := Lib.hid (OW.out.kept (below_grown hbx.out) (Classical.em _))
            have BQ := Lib.hid (BX.out.trans (hbx.out.mono BX.out.size))
            clear hbx OW BX a0 a1 d0 d1 d2 d3
            generalize wc = wq at b0 b1 e0 e1 e2 e3 OQ BQ ⊢
            by_cases hS : putK y L j = false ∧ y ≠ ⟨#[]⟩ ∧ pf = y
            · as_aux_lemma =>
              rw [show hitB y (putK y L j) pf = true from decide_eq_true hS]
              obtain ⟨hn1, hn2⟩ := HRD.out.1 hS.1 hS.2
              obtain ⟨v5, w5, hr5, ho5, _, _, hb5⟩ := app_one ⟨x, y, g, E⟩ OQ.out (by have := HOL.out; omega) BQ.out.size
              have B5 := BQ.out.trans hb5
              have f0 := (hb5.cell (p := ⟨gl, j * 4, none⟩) hgl3).trans e0
              have f1 := (hb5.cell (p := ⟨gl, j * 4 + 1, none⟩) hgl3).trans e1
              have f2 := (hb5.cell (p := ⟨gl, j * 4 + 2, none⟩) hgl3).trans e2
              have f3 := (hb5.cell (p := ⟨gl, j * 4 + 3, none⟩) hgl3).trans e3
              obtain ⟨v6, w6, hr6, ho6, _, _, hb6⟩ := app_one ⟨pf, pt, pg, pe⟩ ho5 (by have := HOL.out; omega) B5.size
              have R5 := Lib.hid hr5
              have R6 := Lib.hid hr6
              have ON : Hid (w6.ownsRow w3.heap.size 103 4 v6 (outK y ⟨x, y, g, E⟩ L (j + 1)).length (flatP (outK y ⟨x, y, g, E⟩ L (j + 1)))) := Lib.hid (by
                rw [hn2]
                simpa using ho6)
              have BN := Lib.hid (B5.trans hb6)
              have HN1 := Lib.hid hn1
              clear hr5 hr6 ho5 ho6 hb5 hb6 B5 e0 e1 e2 e3 hn1 hn2 hS OQ BQ HRD HOL
              go_upto_region 30 with (at_builtin; refine wpList_append_run rfl (.tmp 120) (.tmp 125) 104 rfl rfl rfl R5.out ?_)
              go_wp2_with (at_builtin; refine wpList_append_run rfl (.tmp 127) (.tmp 132) 104 rfl rfl rfl R6.out ?_)
              go_roundw
              case rel => exact ⟨j + 1, by omega, by go_num, by rw [HN1.out], ON, BN⟩
              case measure => simp [intOf]; omega
            · as_aux_lemma =>
              rw [show hitB y (putK y L j) pf = false from decide_eq_false hS]
              obtain ⟨hn1, hn2⟩ := HRD.out.2 hS
              obtain ⟨v6, w6, hr6, ho6, _, _, hb6⟩ := app_one ⟨pf, pt, pg, pe⟩ OQ.out (by have := HOL.out; omega) BQ.out.size
              have R6 := Lib.hid hr6
              have ON : Hid (w6.ownsRow w3.heap.size 103 4 v6 (outK y ⟨x, y, g, E⟩ L (j + 1)).length (flatP (outK y ⟨x, y, g, E⟩ L (j + 1)))) := Lib.hid (by
                rw [hn2]
                simpa using ho6)
              have BN := Lib.hid (BQ.out.trans hb6)
              have HN1 := Lib.hid hn1
              clear hr6 ho6 hb6 b0 b1 hn1 hn2 hS OQ BQ HRD HOL
              go_wp2_with (at_builtin; refine wpList_append_run rfl (.tmp 127) (.tmp 132) 104 rfl rfl rfl R6.out ?_)
              go_roundw
              case rel => exact ⟨j + 1, by omega, by go_num, by rw [HN1.out], ON, BN⟩
              case measure => simp [intOf]; omega
        · as_aux_lemma =>
          obtain rfl : j = m := by omega
          have HEnd : Hid (putL y ⟨x, y, g, E⟩ L = if putK y L j = true then outK y ⟨x, y, g, E⟩ L j else outK y ⟨x, y, g, E⟩ L j ++ [⟨x, y, g, E⟩]) := Lib.hid (by have := outK_end y ⟨x, y, g, E⟩ L; rw [HMM.out] at this; exact this)
          clear HLA HCL hlj hj
          go_upto_if 135 with fail
          go_cut [18, 19] (fun ov _ wx => Hid (wx.ownsRow w3.heap.size 103 4 ov (putL y ⟨x, y, g, E⟩ L).length (flatP (putL y ⟨x, y, g, E⟩ L))) ∧ Hid (Below w3.heap.size w3 wx))
          case first => as_aux_lemma =>
            clear HV
            cases hpu : putK y L j with
            | true =>
              have ON := Lib.hid (show wr.ownsRow w3.heap.size 103 4 _ (putL y ⟨x, y, g, E⟩ L).length (flatP (putL y ⟨x, y, g, E⟩ L)) by rw [HEnd.out, if_pos hpu]; exact OW.out)
              clear OW
              go_wp2_with fail
              go_meet
              exact ⟨ON, BX⟩
            | false =>
              obtain ⟨v5, w5, hr5, ho5, _, _, hb5⟩ := app_one ⟨x, y, g, E⟩ OW.out (by have := HOL.out; omega) BX.out.size
              have R5 := Lib.hid hr5
              have ON := Lib.hid (show w5.ownsRow w3.heap.size 103 4 v5 (putL y ⟨x, y, g, E⟩ L).length (flatP (putL y ⟨x, y, g, E⟩ L)) by rw [HEnd.out, if_neg (by rw [hpu]; decide)]; simpa using ho5)
              have BN := Lib.hid (BX.out.trans hb5)
              clear hr5 ho5 hb5 OW BX
              go_wp2_with (at_builtin; refine wpList_append_run rfl (.tmp 136) (.tmp 141) 104 rfl rfl rfl R5.out ?_)
              go_meet
              exact ⟨ON, BN⟩
          case rest =>
            obtain ⟨OF, BF⟩ := hcut
            obtain ⟨oa, ocap, gn, rfl, hoa, hco, hcap⟩ := rows_own OF.out rfl
            obtain ⟨hoa', hgo⟩ := hoa (putL_ne _ _ _)
            subst hoa'
            have BWf := Lib.hid (BW.out.trans (BF.out.mono BW.out.size))
            have BWW := Lib.hid (HW0.out.trans (BWf.out.mono HW0.out.size))
            have HBf := Lib.hid (HBC.out.below BWf.out HBC.out.lt)
            have hgC : gn ≠ C := by have := HBC.out.lt; have := BW.out.size; omega
            have HCO := Lib.hid hco
            have HGC := Lib.hid hgC
            have HCAP := Lib.hid hcap
            clear OF BF BX OW hoa hco hgo hgC BW a0 a1 s0 s1 HBC HC hcap
            generalize wc = wf at BWf BWW HBf HCO ⊢
            generalize putL y ⟨x, y, g, E⟩ L = PL at HV HCO HCAP ⊢
            generalize hNP : PL.length = NP at HV HCAP ⊢
            have HNP := Lib.hid hNP
            clear hNP
            by_cases hgt : 64 < NP
            · have HVV := Lib.hid (HV.out.trans (if_pos hgt))
              have hgi : (64 : Int) < (NP : Int) := by omega
              clear HV hgt
              go_wp2_with fail
              go_ret2
              exact ⟨by rw [HVV.out]; rfl, by rw [HVV.out]; exact HRM.out.keep BWW.out, below_row BWW.out⟩
            · have HVV := Lib.hid (HV.out.trans (if_neg hgt))
              have hgi : (NP : Int) ≤ (64 : Int) := by omega
              have cC := (HBf.out.cell 1).trans (show _ = some (Value.slice (some ⟨gg, 0, none⟩) d.length cap) from rfl)
              have fC := HBf.out.fr 1
              clear HV hgt
              go_wp2_with fail
              go_ret2
              refine ⟨by rw [HVV.out]; rfl, ?_, grown_set BWW.out C 1 _⟩
              rw [HVV.out]
              refine ⟨gn, ocap, ?_, cellsP_set HCO.out HGC.out _, by rw [HNP.out]; exact HCAP.out⟩
              have h := HBf.out.put 1 (.slice (some ⟨gn, 0, none⟩) NP ocap)
              rw [HNP.out]
              exact h
end
end Go.Proofs.YtkkkppbcjmeapaaDoor
