/- Plain facts about the order of texts: it is strict and total, and the texts of a list can be numbered in its order. No condition. -/
import Derived.Laws.Strings
import Derived.Laws.Cover1
namespace Go.Proofs.YtgeljnjcpkmlmaaGreatDoor

theorem bl_irr : ∀ x : List UInt8, Op.bytesLess x x = false
  | [] => rfl
  | a :: x => by
    unfold Op.bytesLess
    rw [bl_irr x]
    simp
theorem bl_nil (x : List UInt8) : Op.bytesLess x [] = false := by cases x <;> rfl
theorem u8_tri (a b : UInt8) : a < b ∨ a = b ∨ b < a := by
  rcases Nat.lt_trichotomy a.toNat b.toNat with h | h | h
  · exact Or.inl h
  · exact Or.inr (Or.inl (UInt8.toNat_inj.1 h))
  · exact Or.inr (Or.inr h)
theorem bl_trans : ∀ {x y z : List UInt8}, Op.bytesLess x y = true → Op.bytesLess y z = true → Op.bytesLess x z = true
  | _, [], _, h, _ => by rw [bl_nil] at h; cases h
  | _, _ :: _, [], _, h => by rw [bl_nil] at h; cases h
  | [], _ :: _, _ :: _, _, _ => rfl
  | a :: x, b :: y, c :: z, h1, h2 => by
    simp only [Op.bytesLess, Bool.or_eq_true, Bool.and_eq_true, decide_eq_true_eq, beq_iff_eq] at h1 h2 ⊢
    rcases h1 with h1 | ⟨rfl, h1⟩
    · rcases h2 with h2 | ⟨rfl, h2⟩
      · exact Or.inl (UInt8.lt_trans h1 h2)
      · exact Or.inl h1
    · rcases h2 with h2 | ⟨rfl, h2⟩
      · exact Or.inl h2
      · exact Or.inr ⟨rfl, bl_trans h1 h2⟩
theorem bl_tot : ∀ {x y : List UInt8}, Op.bytesLess x y = false → Op.bytesLess y x = false → x = y
  | [], [], _, _ => rfl
  | [], _ :: _, h, _ => by cases h
  | _ :: _, [], _, h => by cases h
  | a :: x, b :: y, h1, h2 => by
    simp only [Op.bytesLess, Bool.or_eq_false_iff, Bool.and_eq_false_iff, decide_eq_false_iff_not, beq_eq_false_iff_ne] at h1 h2
    rcases u8_tri a b with h | rfl | h
    · exact absurd h h1.1
    · rw [bl_tot (h1.2.resolve_left (fun h => h rfl)) (h2.2.resolve_left (fun h => h rfl))]
    · exact absurd h h2.1

/-- How many texts of a list lie below. -/
def rk : List (List UInt8) → List UInt8 → Nat
  | [], _ => 0
  | z :: L, x => (if Op.bytesLess z x = true then 1 else 0) + rk L x
theorem rk_le {x y : List UInt8} (h : ∀ z, Op.bytesLess z x = true → Op.bytesLess z y = true) : ∀ L : List (List UInt8), rk L x ≤ rk L y
  | [] => Nat.le_refl _
  | z :: L => by
    have ih := rk_le h L
    unfold rk
    by_cases hx : Op.bytesLess z x = true
    · rw [if_pos hx, if_pos (h z hx)]; omega
    · rw [if_neg hx]; omega
theorem rk_lt {x y : List UInt8} (h : Op.bytesLess x y = true) : ∀ {L : List (List UInt8)}, x ∈ L → rk L x < rk L y
  | z :: L, hm => by
    have hle := rk_le (x := x) (y := y) (fun z hz => bl_trans hz h) L
    unfold rk
    rcases List.mem_cons.1 hm with rfl | hm
    · rw [if_pos h, if_neg (by rw [bl_irr]; exact Bool.false_ne_true)]; omega
    · have ih := rk_lt h hm
      by_cases hx : Op.bytesLess z x = true
      · rw [if_pos hx, if_pos (bl_trans hx h)]; omega
      · rw [if_neg hx]; omega
theorem rk_nil : ∀ L, rk L [] = 0
  | [] => rfl
  | z :: L => by
    unfold rk
    rw [rk_nil L, if_neg (by rw [bl_nil]; exact Bool.false_ne_true)]

/-- A numbering of texts in their order; the empty one has the number 0. -/
structure Ranks (L : List ByteArray) (f : ByteArray → Nat) : Prop where
  lt : ∀ x ∈ L, ∀ y ∈ L, Op.bytesLess x.toList y.toList = decide (f x < f y)
  eq : ∀ x ∈ L, ∀ y ∈ L, (x.toList == y.toList) = decide (f x = f y)
  em : ∀ x ∈ L, (x.toList == ([] : List UInt8)) = decide (f x = 0)
theorem ranks (L : List ByteArray) : ∃ f, Ranks L f := by
  refine ⟨fun x => rk ([] :: L.map (·.toList)) x.toList, ?_, ?_, ?_⟩
  · intro x hx y hy
    have hx' : x.toList ∈ ([] : List UInt8) :: L.map (·.toList) := List.mem_cons_of_mem _ (List.mem_map.2 ⟨x, hx, rfl⟩)
    have hy' : y.toList ∈ ([] : List UInt8) :: L.map (·.toList) := List.mem_cons_of_mem _ (List.mem_map.2 ⟨y, hy, rfl⟩)
    cases h : Op.bytesLess x.toList y.toList with
    | true => exact (decide_eq_true (rk_lt h hx')).symm
    | false =>
      refine (decide_eq_false ?_).symm
      cases h2 : Op.bytesLess y.toList x.toList with
      | true => have := rk_lt h2 hy'; omega
      | false => rw [bl_tot h h2]; omega
  · intro x hx y hy
    have hx' : x.toList ∈ ([] : List UInt8) :: L.map (·.toList) := List.mem_cons_of_mem _ (List.mem_map.2 ⟨x, hx, rfl⟩)
    have hy' : y.toList ∈ ([] : List UInt8) :: L.map (·.toList) := List.mem_cons_of_mem _ (List.mem_map.2 ⟨y, hy, rfl⟩)
    by_cases h : x.toList = y.toList
    · rw [h]; simp
    · rw [beq_eq_false_iff_ne.2 h]
      refine (decide_eq_false ?_).symm
      cases h1 : Op.bytesLess x.toList y.toList with
      | true => have := rk_lt h1 hx'; omega
      | false =>
        cases h2 : Op.bytesLess y.toList x.toList with
        | true => have := rk_lt h2 hy'; omega
        | false => exact absurd (bl_tot h1 h2) h
  · intro x hx
    by_cases h : x.toList = []
    · rw [h, rk_nil]; rfl
    · rw [beq_eq_false_iff_ne.2 h]
      refine (decide_eq_false ?_).symm
      have hl : Op.bytesLess [] x.toList = true := by
        cases hc : x.toList with
        | nil => exact absurd hc h
        | cons a l => rfl
      have := rk_lt hl (L := [] :: L.map (·.toList)) (List.mem_cons_self ..)
      omega
end Go.Proofs.YtgeljnjcpkmlmaaGreatDoor
