/- Whether a range has a key, by the program and by the reference; memory that lay stays. Condition: the texts are no longer than an int can say. -/
import Derived.Test.YtkkkppbcjmeapaaDoorEnds2
namespace Go.Proofs.YtkkkppbcjmeapaaDoor
open Go.RowKit

theorem ends1 (b : Nat) (f t : ByteArray) (w : World) (hf : f.size ≤ 9223372036854775807) (ht : t.size ≤ 9223372036854775807) (h0 : w.cell? ⟨b, 0, none⟩ = some (.string f)) (h1 : w.cell? ⟨b, 1, none⟩ = some (.string t)) :
    Calls Tryd.prog 47 #[.slice (some ⟨b, 0, none⟩) 1 1] w fun e w' => e = .returned (.tuple #[fnV (okR f t), .int .i64 (ckI (okR f t))]) ∧ Below w.heap.size w w' := by
  have h := ends_any b 0 1 1 [(f, t)] w rfl (by decide) (fun i p hi => by
    match i with
    | 0 => cases hi; exact ⟨h0, h1⟩
    | i + 1 => cases hi) (fun p hp => by rw [List.mem_singleton] at hp; rw [hp]; exact ⟨hf, ht⟩)
  rw [show [(f, t)].all okP = okR f t by simp [okP]] at h
  exact h
theorem ends2 (b : Nat) (f t g u : ByteArray) (w : World) (hf : f.size ≤ 9223372036854775807) (ht : t.size ≤ 9223372036854775807) (hg : g.size ≤ 9223372036854775807) (hu : u.size ≤ 9223372036854775807) (h0 : w.cell? ⟨b, 0, none⟩ = some (.string f)) (h1 : w.cell? ⟨b, 1, none⟩ = some (.string t)) (h2 : w.cell? ⟨b, 2, none⟩ = some (.string g)) (h3 : w.cell? ⟨b, 3, none⟩ = some (.string u)) :
    Calls Tryd.prog 47 #[.slice (some ⟨b, 0, none⟩) 2 2] w fun e w' => e = .returned (.tuple #[fnV (okR f t && okR g u), .int .i64 (ckI (okR f t && okR g u))]) ∧ Below w.heap.size w w' := by
  have h := ends_any b 0 2 2 [(f, t), (g, u)] w rfl (by decide) (fun i p hi => by
    match i with
    | 0 => cases hi; exact ⟨h0, h1⟩
    | 1 => cases hi; exact ⟨h2, h3⟩
    | i + 2 => cases hi) (fun p hp => by
      rcases List.mem_cons.1 hp with rfl | hp
      · exact ⟨hf, ht⟩
      · rw [List.mem_singleton] at hp; rw [hp]; exact ⟨hg, hu⟩)
  rw [show [(f, t), (g, u)].all okP = (okR f t && okR g u) by simp [okP]] at h
  exact h

theorem bl_leq (x y : ByteArray) : (!Op.bytesLess y.toList x.toList) = (Op.bytesLess x.toList y.toList || x.toList == y.toList) := by
  obtain ⟨g, R⟩ := ranks [x, y]
  rw [R.lt y (by simp) x (by simp), R.lt x (by simp) y (by simp), R.eq x (by simp) y (by simp), Bool.eq_iff_iff]
  simp only [nb_iff, Bool.or_eq_true, decide_eq_true_eq]
  omega

set_option maxHeartbeats 4000000 in
theorem has_any (f t k : ByteArray) (w : World) (hf : f.size ≤ 9223372036854775807) (ht : t.size ≤ 9223372036854775807) (hk : k.size ≤ 9223372036854775807) :
    Calls Tryd.prog 17 #[.agg #[.string f, .string t], .string k] w fun e w' => e = .returned (.bool (hasR f t k)) ∧ Below w.heap.size w w' := by
  have e1 := (Whole.new w 30 #[.string f, .string t]).alloc (.cells #[.string f, .string t] 30)
  have f1 := Whole.new (w.alloc (.cells #[.string f, .string t] 30)) 30 #[.string f, .string t]
  rw [World.size_alloc] at f1
  have b1 := ((Below.refl w.heap.size w).alloc (Nat.le_refl _) (.cells #[.string f, .string t] 30)).alloc (by simp) (.cells #[.string f, .string t] 30)
  have E := ends1 (w.heap.size + 1) f t _ hf ht (f1.cell 0) (f1.cell 1)
  have hN := fun W => name_any k W hk
  have hE := fun W => end_any k t W
  have hq : hasR f t k = (okR f t && (isName k.data.toList && ((Op.bytesLess f.toList k.toList || f.toList == k.toList) && decide (endN k t < 0)))) := by unfold hasR; rw [endN_lt, bl_leq]
  generalize hasR f t k = q at hq
  generalize endN k t = n at hq hE
  generalize isName k.data.toList = m at hq hN
  generalize okR f t = o at hq E
  cases o <;> cases m <;> cases hl : Op.bytesLess f.toList k.toList <;> cases he : (f.toList == k.toList) <;> by_cases hn : n < 0
  all_goals
    have HQ := Lib.hid (hq.trans (by rw [hl, he]) : q = _)
    clear hq
    simp only [fnV, ckI] at E
    go_enter Tryd.func17, Tryd.ntmps17
    go_wp2_with fail
    refine E.mono ?_
    rintro e w1 ⟨rfl, hb⟩
    have e2 := e1.below hb e1.lt
    have b2 := b1.trans (hb.mono b1.size)
    have x0 := e2.cell 0
    have x1 := e2.cell 1
    simp only [List.getElem?_toArray, List.getElem?_cons_succ, List.getElem?_cons_zero] at x0 x1
    clear e1 f1 b1 hb E
    have b3 := fun w2 (h : Below w1.heap.size w1 w2) => b2.trans (h.mono b2.size)
    go_wp2_with (first
      | (go_at_call 48; refine (hN _).mono ?_; rintro e w2 ⟨rfl, hb2⟩; have y0 := (hb2.cell (lt_of_cellR x0)).trans x0; have y1 := (hb2.cell (lt_of_cellR x1)).trans x1)
      | (go_at_call 69; refine (hE _).mono ?_; rintro e w3 ⟨rfl, rfl⟩))
    go_ret
    exact ⟨by rw [HQ.out]; simp [hn], by first | exact b2 | exact b3 _ (by assumption)⟩
end Go.Proofs.YtkkkppbcjmeapaaDoor
