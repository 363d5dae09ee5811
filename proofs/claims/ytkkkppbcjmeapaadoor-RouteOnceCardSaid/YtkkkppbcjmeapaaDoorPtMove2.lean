/- Move, whole: of any map that is small, and of none. Condition: the map is small, texts are no longer than an int can say. -/
import Derived.Test.YtkkkppbcjmeapaaDoorPtMove
import Derived.Test.YtkkkppbcjmeapaaDoorRtB
namespace Go.Proofs.YtkkkppbcjmeapaaDoor
open Go.RowKit Go.Shelf
attribute [local go_sem] Oper.semAt_some

theorem move_any (B : Nat) (d : List Pt) (x y : ByteArray) (g : Int) (w : World) (h : MapAt w B d) (hs : SmallP d) (hd : d.length ≤ 64) (he : ∀ p ∈ d, p.e ≤ 2147483648) (hx : x.size ≤ 9223372036854775807) (hy : y.size ≤ 9223372036854775807) :
    Calls Tryd.prog 15 #[.pointer (some ⟨B, 0, none⟩), .agg #[.string x, .string y], .int .i64 g] w fun e w' => MoveR w w' B (moveV d x y g) e := by
  have no : ∀ er, (((ownerV d x y).2.2 ≠ 0 ∧ er = (ownerV d x y).2.2) ∨ ((ownerV d x y).2.2 = 0 ∧ ¬ (1 ≤ g ∧ g < 8) ∧ er = 2) ∨ ((ownerV d x y).2.2 = 0 ∧ (1 ≤ g ∧ g < 8) ∧ ((ownerV d x y).2.1 = false ∨ (ownerV d x y).1 = g) ∧ er = 9)) → moveV d x y g = (0, er, d) →
      Calls Tryd.prog 15 #[.pointer (some ⟨B, 0, none⟩), .agg #[.string x, .string y], .int .i64 g] w fun e w' => MoveR w w' B (moveV d x y g) e := fun er hno hv => by
    rw [hv]
    exact (move_no B d x y g w h hs hx hy er hno).mono fun e w' ⟨h1, h2⟩ => ⟨h1, h.keep h2, below_but B h2⟩
  by_cases h1 : (ownerV d x y).2.2 = 0
  · by_cases h2 : 1 ≤ g ∧ g < 8
    · by_cases h3 : (ownerV d x y).2.1 = false ∨ (ownerV d x y).1 = g
      · refine no 9 (Or.inr (Or.inr ⟨h1, h2, h3, rfl⟩)) ?_
        unfold moveV
        rw [if_neg (by simp [h1]), if_neg (by simpa using h2), if_pos h3]
      · have h4 : (ownerV d x y).2.1 = true := by
          cases hb : (ownerV d x y).2.1 with
          | true => rfl
          | false => exact absurd (Or.inl hb) h3
        have h5 : (ownerV d x y).1 ≠ g := fun e => h3 (Or.inr e)
        have := move_yes B d x y g w h hs hd he hx hy h1 h2 h4 h5
        unfold moveV
        rw [if_neg (by simp [h1]), if_neg (by simpa using h2), if_neg h3]
        exact this
    · refine no 2 (Or.inr (Or.inl ⟨h1, h2, rfl⟩)) ?_
      unfold moveV
      rw [if_neg (by simp [h1]), if_pos h2]
  · refine no _ (Or.inl ⟨h1, rfl⟩) ?_
    unfold moveV
    rw [if_pos h1]
set_option maxRecDepth 100000 in
set_option maxHeartbeats 4000000 in
theorem move_nil (x y : ByteArray) (g : Int) (w : World) :
    Calls Tryd.prog 15 #[.pointer none, .agg #[.string x, .string y], .int .i64 g] w fun e w' => e = .returned (.tuple #[.int .i64 0, .int .i64 1]) ∧ Below w.heap.size w w' := by
  have b1 := (Below.refl w.heap.size w).alloc (Nat.le_refl _) (.cells #[.string x, .string y] 30)
  have O := Lib.hid (owner_nil x y (w.alloc (.cells #[.string x, .string y] 30)))
  unfold ownerE at O
  dsimp only at O
  refine (callsIn_wide (n := 8)).1 ?_
  refine callsIn_of_wp_marks Tryd.func15 rfl trivial ?_ rfl
  simp only [Tryd.ntmps15, List.size_toArray, List.length_cons, List.length_nil, Nat.reduceAdd, Nat.reduceSub, Array.replicate_succ, Array.replicate_zero, List.push_toArray, List.append_toArray, List.nil_append, List.cons_append]
  gi_wp2_with (refine ⟨trivial, ?_⟩; gi_at_call 16; refine (callsIn_wide.2 O.out).mono ?_; rintro e w1 ⟨rfl, hb1⟩; have HB := Lib.hid (b1.trans (hb1.mono b1.size)); clear hb1)
  exact ⟨_, results_tmp2 rfl _ _ _, rfl, HB.out⟩
end Go.Proofs.YtkkkppbcjmeapaaDoor
