/- Maps of ranges in memory: their parts as a slice of parts, a pointer to the slice; kept where memory stays. No condition. -/
import Derived.Test.YtkkkppbcjmeapaaDoorWithout
import Derived.RangeFuncBox
import Derived.Handy
namespace Go.Proofs.YtkkkppbcjmeapaaDoor
open Go.RowKit

/-- A part: a range, its group and its epoch. -/
structure Pt where
  f : ByteArray
  t : ByteArray
  g : Int
  e : Int
def ptV (p : Pt) : Value := .agg #[.string p.f, .string p.t, .int .i64 p.g, .int .i64 p.e]
def ptC (p : Pt) : List Value := [.string p.f, .string p.t, .int .i64 p.g, .int .i64 p.e]
def CellsP (w : World) (b o : Nat) (d : List Pt) : Prop := ∀ i p, d[i]? = some p →
  w.cell? ⟨b, o + i * 4, none⟩ = some (.string p.f) ∧ w.cell? ⟨b, o + i * 4 + 1, none⟩ = some (.string p.t) ∧ w.cell? ⟨b, o + i * 4 + 2, none⟩ = some (.int .i64 p.g) ∧ w.cell? ⟨b, o + i * 4 + 3, none⟩ = some (.int .i64 p.e)
/-- A slice value holds these parts. -/
def PartsAt (w : World) (v : Value) (d : List Pt) : Prop :=
  (d = [] ∧ v = .slice none 0 0) ∨ ∃ g o cap, v = .slice (some ⟨g, o, none⟩) d.length cap ∧ CellsP w g o d ∧ d.length ≤ cap
/-- The number of the row of a pointer's block. -/
def MapAt (w : World) (B : Nat) (d : List Pt) : Prop := ∃ v, Boxed w B 74 v ∧ PartsAt w v d

theorem below_grown {w w' : World} (h : Below w.heap.size w w') : w.grownBy w' none := ⟨h.os, h.tape, h.output, h.size, fun k hk _ => h.block k hk⟩
theorem grown_cell {w w' : World} {row : Option Nat} {a : Addr} {u : Value} (h : w.cell? a = some u) (hg : w.grownBy w' row) (hne : some a.block ≠ row) : w'.cell? a = some u :=
  (World.cell?_of_block (hg.block a.block (lt_of_cellR h) hne)).trans h
theorem CellsP.grown {w w' : World} {b o : Nat} {d : List Pt} {row : Option Nat} (h : CellsP w b o d) (hg : w.grownBy w' row) (hne : some b ≠ row) : CellsP w' b o d := fun i p hi =>
  have hc := h i p hi
  ⟨grown_cell hc.1 hg hne, grown_cell hc.2.1 hg hne, grown_cell hc.2.2.1 hg hne, grown_cell hc.2.2.2 hg hne⟩
theorem CellsP.keep {w w' : World} {b o : Nat} {d : List Pt} (h : CellsP w b o d) (hb : Below w.heap.size w w') : CellsP w' b o d := h.grown (below_grown hb) (by simp)
theorem PartsAt.grown {w w' : World} {v : Value} {d : List Pt} {row : Option Nat} (h : PartsAt w v d) (hg : w.grownBy w' row) (hne : ∀ g o n c, v = .slice (some ⟨g, o, none⟩) n c → d ≠ [] → some g ≠ row) : PartsAt w' v d := by
  rcases h with h | ⟨g, o, cap, rfl, hc, hl⟩
  · exact Or.inl h
  · by_cases hd : d = []
    · subst hd; exact Or.inr ⟨g, o, cap, rfl, fun i p hi => (by simp at hi), hl⟩
    · exact Or.inr ⟨g, o, cap, rfl, hc.grown hg (hne g o _ _ rfl hd), hl⟩
theorem PartsAt.keep {w w' : World} {v : Value} {d : List Pt} (h : PartsAt w v d) (hb : Below w.heap.size w w') : PartsAt w' v d := h.grown (below_grown hb) (by simp)
theorem boxed_keep {w w' : World} {B : Nat} {t : TypeId} {v : Value} (h : Boxed w B t v) (hb : Below w.heap.size w w') : Boxed w' B t v := h.kept (below_grown hb) (by simp)
theorem MapAt.keep {w w' : World} {B : Nat} {d : List Pt} (h : MapAt w B d) (hb : Below w.heap.size w w') : MapAt w' B d := by
  obtain ⟨v, h1, h2⟩ := h
  exact ⟨v, boxed_keep h1 hb, h2.keep hb⟩
theorem MapAt.lt {w : World} {B : Nat} {d : List Pt} (h : MapAt w B d) : B < w.heap.size := h.choose_spec.1.lt
/-- A block of one cell holds no parts. -/
theorem parts_apart {w : World} {B g o : Nat} {t : TypeId} {v : Value} {d : List Pt} (h : Boxed w B t v) (hc : CellsP w g o d) (hd : d ≠ []) : g ≠ B := by
  intro e
  subst e
  obtain ⟨p, hp⟩ : ∃ p, d[0]? = some p := by cases d with | nil => exact absurd rfl hd | cons p ps => exact ⟨p, rfl⟩
  have h1 := (hc 0 p hp).2.1
  simp only [World.cell?, show w.heap[g]? = _ from h] at h1
  simp at h1
theorem MapAt.other {w w' : World} {B B' : Nat} {d : List Pt} {t : TypeId} {u : Value} (h : MapAt w B d) (hu : Boxed w B' t u) (hne : B ≠ B') (hg : w.grownBy w' (some B')) : MapAt w' B d := by
  obtain ⟨v, h1, h2⟩ := h
  refine ⟨v, h1.kept hg (fun e => hne (by cases e; rfl)), h2.grown hg ?_⟩
  rintro g o n c rfl hd e
  rcases h2 with ⟨h3, _⟩ | ⟨g', o', cap, h3, hc, _⟩
  · exact hd h3
  · cases h3; cases e; exact parts_apart hu hc hd rfl
theorem infoPt : (Tryd.prog.info? 89).map (fun i => (i.zero, i.size, i.bytes)) = some (some (.agg #[.string ⟨#[]⟩, .string ⟨#[]⟩, .int .i64 0, .int .i64 0]), 4, 48) := by kernel_rfl

set_option maxHeartbeats 1000000 in
theorem isGroup_any (n : Int) (w : World) :
    Calls Tryd.prog 41 #[.int .i64 n] w fun e w' => e = .returned (.bool (decide (1 ≤ n ∧ n < 8))) ∧ w = w' := by
  generalize hq : decide (1 ≤ n ∧ n < 8) = q
  have HQ := Lib.hid hq
  clear hq
  by_cases h1 : 1 ≤ n <;> by_cases h2 : n < 8
  all_goals
    go_enter Tryd.func41, Tryd.ntmps41
    go_wp2
    go_ret
    exact ⟨by rw [← HQ.out]; simp [h1, h2] <;> omega, rfl⟩

set_option maxHeartbeats 1000000 in
theorem made_nil (w : World) :
    Calls Tryd.prog 45 #[.pointer none] w fun e w' => e = .returned (.bool false) ∧ w = w' := by
  go_enter Tryd.func45, Tryd.ntmps45
  go_wp2
  go_ret
  exact ⟨rfl, rfl⟩
set_option maxHeartbeats 1000000 in
theorem made_any (B : Nat) (d : List Pt) (w : World) (h : MapAt w B d) :
    Calls Tryd.prog 45 #[.pointer (some ⟨B, 0, none⟩)] w fun e w' => e = .returned (.bool (decide (0 < d.length))) ∧ w = w' := by
  obtain ⟨v, h1, h2⟩ := h
  have c := h1.cell
  rcases h2 with ⟨rfl, rfl⟩ | ⟨g, o, cap, rfl, hc, _⟩
  · clear h1
    go_enter Tryd.func45, Tryd.ntmps45
    go_wp2
    go_ret
    exact ⟨rfl, rfl⟩
  · clear h1 hc
    generalize d.length = n at c ⊢
    by_cases hn : 0 < n
    all_goals
      first | rw [decide_eq_true hn] | rw [decide_eq_false hn]
      go_enter Tryd.func45, Tryd.ntmps45
      go_wp2
      go_ret
      exact ⟨rfl, rfl⟩

theorem PartsAt.one {w : World} {p : Pt} {cap : Nat} (hcap : 1 ≤ cap) : PartsAt (w.alloc (.cells #[.string p.f, .string p.t, .int .i64 p.g, .int .i64 p.e] 89)) (.slice (some ⟨w.heap.size, 0, none⟩) 1 cap) [p] :=
  Or.inr ⟨_, 0, cap, rfl, And.intro (fun i q hi => by
    have h := Whole.new w 89 #[.string p.f, .string p.t, .int .i64 p.g, .int .i64 p.e]
    match i with
    | 0 => cases hi; exact ⟨h.cell 0, h.cell 1, h.cell 2, h.cell 3⟩
    | i + 1 => cases hi) hcap⟩
/-- What New answers: a map where there is such a group. -/
def NewR (w w' : World) (n : Int) (p : Value) (er : Int) : Prop :=
  if 1 ≤ n ∧ n < 8 then er = 0 ∧ ∃ B, p = .pointer (some ⟨B, 0, none⟩) ∧ w.heap.size ≤ B ∧ MapAt w' B [⟨⟨#[]⟩, ⟨#[]⟩, n, 1⟩] else er = 2 ∧ p = .pointer none
set_option maxHeartbeats 1000000 in
theorem new_any (n : Int) (w : World) :
    Calls Tryd.prog 22 #[.int .i64 n] w fun e w' => ∃ p er, e = .returned (.tuple #[p, .int .i64 er]) ∧ NewR w w' n p er ∧ Below w.heap.size w w' := by
  have C := fun W => isGroup_any n W
  unfold NewR
  by_cases hn : 1 ≤ n ∧ n < 8
  · rw [decide_eq_true hn] at C
    have HN := Lib.hid hn
    clear hn
    go_enter Tryd.func22, Tryd.ntmps22
    go_wp2_with (go_at_call 41; refine (C _).mono ?_; rintro e w1 ⟨rfl, rfl⟩)
    go_ret2
    refine ⟨_, 0, rfl, ?_, ((Below.refl _ _).alloc (Nat.le_refl _) _).alloc (by simp) _⟩
    refine ⟨rfl, _, rfl, by simp, _, ?_, (PartsAt.one (w := w) (p := ⟨⟨#[]⟩, ⟨#[]⟩, n, 1⟩) (cap := 1) (Nat.le_refl _)).keep ((Below.refl _ _).alloc (Nat.le_refl _) _)⟩
    have := Boxed.new (w.alloc (.cells #[.string ⟨#[]⟩, .string ⟨#[]⟩, .int .i64 n, .int .i64 1] 89)) 74 (.slice (some ⟨w.heap.size, 0, none⟩) 1 1)
    simpa using this
  · rw [decide_eq_false hn] at C
    have HN := Lib.hid hn
    clear hn
    go_enter Tryd.func22, Tryd.ntmps22
    go_wp2_with (go_at_call 41; refine (C _).mono ?_; rintro e w1 ⟨rfl, rfl⟩)
    go_ret2
    refine ⟨_, 2, rfl, ?_, Below.refl _ _⟩
    exact ⟨rfl, rfl⟩
end Go.Proofs.YtkkkppbcjmeapaaDoor
