/- The examples of the chapter hold. No condition. -/
import Derived.Test.YtkkkppbcjmeapaaDoorPtMove2
import Derived.Test.YtkkkppbcjmeapaaDoorRtB
namespace Go.Proofs.YtkkkppbcjmeapaaDoor
open Go.RowKit

theorem smallP_dW0 : SmallP dW0 := ⟨by decide, fun p hp => by simp only [dW0, List.mem_singleton] at hp; subst hp; exact ⟨by decide, by decide⟩⟩
theorem smallP_dW1 : SmallP dW1 := ⟨by decide, fun p hp => by
  simp only [dW1, List.mem_cons, List.not_mem_nil, or_false] at hp
  rcases hp with rfl | rfl | rfl <;> exact ⟨by decide, by decide⟩⟩
theorem ep_dW0 : ∀ p ∈ dW0, p.e ≤ 2147483648 := fun p hp => by simp only [dW0, List.mem_singleton] at hp; subst hp; decide
theorem ep_dW1 : ∀ p ∈ dW1, p.e ≤ 2147483648 := fun p hp => by
  simp only [dW1, List.mem_cons, List.not_mem_nil, or_false] at hp
  rcases hp with rfl | rfl | rfl <;> decide
theorem fw1 : ∃ p, dW1.find? (fun p => hasR p.f p.t ⟨#[100]⟩) = some p := by simp only [hasR_run]; exact ⟨_, rfl⟩
theorem fw2 : ∃ p, dW1.find? (fun p => hasR p.f p.t ⟨#[109]⟩) = some p := by simp only [hasR_run]; exact ⟨_, rfl⟩
theorem below_gb {w w1 w2 : World} {B : Nat} (h : Below w.heap.size w w1) (hg : w1.grownBy w2 (some B)) (hB : w.heap.size ≤ B) : Below w.heap.size w w2 := h.grown hg h.size (fun q e => by cases e; exact hB)
theorem slR_five {w : World} {b : Nat} (h : Whole w b 30 #[.string ⟨#[]⟩, .string ⟨#[99]⟩, .string ⟨#[99]⟩, .string ⟨#[100]⟩, .string ⟨#[100]⟩, .string ⟨#[102]⟩, .string ⟨#[102]⟩, .string ⟨#[109]⟩, .string ⟨#[109]⟩, .string ⟨#[]⟩]) : SlR w (.slice (some ⟨b, 0, none⟩) 5 5) (rgs dW2) :=
  ⟨_, 5, rfl, fun i p hi => by
    match i with
    | 0 => cases hi; exact ⟨b, 0, rfl, h.cell 0, h.cell 1⟩
    | 1 => cases hi; exact ⟨b, 0, rfl, h.cell 2, h.cell 3⟩
    | 2 => cases hi; exact ⟨b, 0, rfl, h.cell 4, h.cell 5⟩
    | 3 => cases hi; exact ⟨b, 0, rfl, h.cell 6, h.cell 7⟩
    | 4 => cases hi; exact ⟨b, 0, rfl, h.cell 8, h.cell 9⟩
    | i + 5 => cases hi⟩
theorem slI_five {w : World} {b : Nat} (h : Whole w b 3 #[.int .i64 1, .int .i64 2, .int .i64 1, .int .i64 2, .int .i64 1]) : SlI w (.slice (some ⟨b, 0, none⟩) 5 5) (grs dW2) :=
  ⟨_, 5, rfl, fun i p hi => by
    match i with
    | 0 => cases hi; exact ⟨b, 0, rfl, h.cell 0⟩
    | 1 => cases hi; exact ⟨b, 0, rfl, h.cell 1⟩
    | 2 => cases hi; exact ⟨b, 0, rfl, h.cell 2⟩
    | 3 => cases hi; exact ⟨b, 0, rfl, h.cell 3⟩
    | 4 => cases hi; exact ⟨b, 0, rfl, h.cell 4⟩
    | i + 5 => cases hi⟩
theorem new_one (w : World) :
    Calls Tryd.prog 22 #[.int .i64 1] w fun e w' => ∃ B, e = .returned (.tuple #[.pointer (some ⟨B, 0, none⟩), .int .i64 0]) ∧ (w.heap.size ≤ B ∧ MapAt w' B dW0) ∧ Below w.heap.size w w' := by
  refine (new_any 1 w).mono ?_
  rintro e w' ⟨p, er, rfl, hn, hb⟩
  unfold NewR at hn
  rw [if_pos (by decide)] at hn
  obtain ⟨rfl, B, rfl, h1, h2⟩ := hn
  exact ⟨B, rfl, ⟨h1, h2⟩, hb⟩
set_option maxRecDepth 100000 in
set_option maxHeartbeats 4000000 in
theorem works_any (w : World) :
    Calls Tryd.prog 21 #[] w fun e w' => e = .returned (.bool true) ∧ Below w.heap.size w w' := by
  go_enter Tryd.func21, Tryd.ntmps21
  go_wp2_with fail
  refine (new_one _).mono ?_
  rintro e w1 ⟨B, rfl, ⟨hB, hM⟩, hb1⟩
  have M1 := Lib.hid hM
  have B1 := Lib.hid hb1
  clear hM hb1
  go_wp2_with fail
  refine (move_any B dW0 ⟨#[99]⟩ ⟨#[109]⟩ 2 _ M1.out smallP_dW0 (by decide) ep_dW0 (by decide) (by decide)).mono ?_
  rw [mv1]
  rintro e w2 ⟨rfl, hM, hg⟩
  have M2 := Lib.hid hM
  have B2 := Lib.hid (below_gb B1.out hg hB)
  clear hM hg M1 B1
  go_wp2_with fail
  refine (group_any B dW1 ⟨#[100]⟩ _ M2.out smallP_dW1 (by decide) (fun _ _ => fw1)).mono ?_
  rw [fv1]
  rintro e w3 ⟨rfl, hb3⟩
  have M3 := Lib.hid (M2.out.keep hb3)
  have B3 := Lib.hid (B2.out.trans (hb3.mono B2.out.size))
  clear hb3 M2 B2
  go_wp2_with fail
  refine (group_any B dW1 ⟨#[109]⟩ _ M3.out smallP_dW1 (by decide) (fun _ _ => fw2)).mono ?_
  rw [fv2]
  rintro e w4 ⟨rfl, hb4⟩
  have M4 := Lib.hid (M3.out.keep hb4)
  have B4 := Lib.hid (B3.out.trans (hb4.mono B3.out.size))
  clear hb4 M3 B3
  go_wp2_with fail
  refine (move_any B dW1 ⟨#[97]⟩ ⟨#[100]⟩ 3 _ M4.out smallP_dW1 (by decide) ep_dW1 (by decide) (by decide)).mono ?_
  rw [mv2]
  rintro e w5 ⟨rfl, hM, hg⟩
  have M5 := Lib.hid hM
  have B5 := Lib.hid (below_gb B4.out hg hB)
  clear hM hg M4 B4
  go_wp2_with fail
  refine (move_any B dW1 ⟨#[100]⟩ ⟨#[102]⟩ 1 _ M5.out smallP_dW1 (by decide) ep_dW1 (by decide) (by decide)).mono ?_
  rw [mv3]
  rintro e w6 ⟨rfl, hM, hg⟩
  have M6 := Lib.hid (hM.keep ((Below.refl w6.heap.size w6).alloc (Nat.le_refl _) (.cells #[.string ⟨#[]⟩, .string ⟨#[99]⟩, .string ⟨#[99]⟩, .string ⟨#[100]⟩, .string ⟨#[100]⟩, .string ⟨#[102]⟩, .string ⟨#[102]⟩, .string ⟨#[109]⟩, .string ⟨#[109]⟩, .string ⟨#[]⟩] 30)))
  have B6 := Lib.hid ((below_gb B5.out hg hB).alloc (below_gb B5.out hg hB).size (.cells #[.string ⟨#[]⟩, .string ⟨#[99]⟩, .string ⟨#[99]⟩, .string ⟨#[100]⟩, .string ⟨#[100]⟩, .string ⟨#[102]⟩, .string ⟨#[102]⟩, .string ⟨#[109]⟩, .string ⟨#[109]⟩, .string ⟨#[]⟩] 30))
  have R6 := Lib.hid (Whole.new w6 30 #[.string ⟨#[]⟩, .string ⟨#[99]⟩, .string ⟨#[99]⟩, .string ⟨#[100]⟩, .string ⟨#[100]⟩, .string ⟨#[102]⟩, .string ⟨#[102]⟩, .string ⟨#[109]⟩, .string ⟨#[109]⟩, .string ⟨#[]⟩])
  clear hM hg M5 B5
  go_wp2_with fail
  refine (ranges_any B dW2 _ M6.out (by decide)).mono ?_
  rintro e w7 ⟨v7, rfl, hown, hb7⟩
  have S7 := Lib.hid (slR_own hown)
  have M7 := Lib.hid (M6.out.keep hb7)
  have B7 := Lib.hid (B6.out.trans (hb7.mono B6.out.size))
  have R7 := Lib.hid (R6.out.below hb7 R6.out.lt)
  clear hown hb7 M6 B6 R6
  go_wp2_with fail
  refine (equalR_any v7 _ (rgs dW2) (rgs dW2) _ S7.out (slR_five R7.out) (by decide)).mono ?_
  rintro e w8 ⟨⟨b, rfl, hb⟩, hb8⟩
  obtain rfl : b = true := hb.2 rfl
  have M8 := Lib.hid (M7.out.keep hb8)
  have B8 := Lib.hid (B7.out.trans (hb8.mono B7.out.size))
  clear hb hb8 M7 B7 R7 S7
  go_wp2_with fail
  refine (groups_any B dW2 _ M8.out (by decide)).mono ?_
  rintro e w9 ⟨v9, rfl, hown, hb9⟩
  rw [flatG_map] at hown
  have S9 := Lib.hid ((slI_own (l := grs dW2) hown).keep ((Below.refl w9.heap.size w9).alloc (Nat.le_refl _) (.cells #[.int .i64 1, .int .i64 2, .int .i64 1, .int .i64 2, .int .i64 1] 3)))
  have B9 := Lib.hid ((B8.out.trans (hb9.mono B8.out.size)).alloc (B8.out.trans (hb9.mono B8.out.size)).size (.cells #[.int .i64 1, .int .i64 2, .int .i64 1, .int .i64 2, .int .i64 1] 3))
  have R9 := Lib.hid (Whole.new w9 3 #[.int .i64 1, .int .i64 2, .int .i64 1, .int .i64 2, .int .i64 1])
  clear hown hb9 M8 B8
  go_wp2_with fail
  refine (equalI_any v9 _ (grs dW2) (grs dW2) _ S9.out (slI_five R9.out) (by decide)).mono ?_
  rintro e w10 ⟨⟨b, rfl, hb⟩, hb10⟩
  obtain rfl : b = true := hb.2 rfl
  have B10 := Lib.hid (B9.out.trans (hb10.mono B9.out.size))
  clear hb hb10 B9 R9 S9
  go_wp2_with fail
  go_ret
  exact ⟨rfl, B10.out⟩
end Go.Proofs.YtkkkppbcjmeapaaDoor
