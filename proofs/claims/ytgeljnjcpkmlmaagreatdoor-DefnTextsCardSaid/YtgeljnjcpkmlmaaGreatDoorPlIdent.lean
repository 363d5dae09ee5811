/- Plain words of layer 5: effects and items as numbers, which are valid, their numbers and their order. No condition. -/
import Derived.Test.YtgeljnjcpkmlmaaGreatDoorPlName
namespace Go.Proofs.YtgeljnjcpkmlmaaGreatDoor

def effOk (a b c : Int) : Prop := 1 ≤ a ∧ a ≤ 9999 ∧ 0 ≤ b ∧ b ≤ 7 ∧ 1 ≤ c ∧ c ≤ 3
instance (a b c : Int) : Decidable (effOk a b c) := by unfold effOk; infer_instance
def ckEff (a b c : Int) : Int := if effOk a b c then 0 else 2
theorem ckEff_yes {a b c : Int} (h : effOk a b c) : ckEff a b c = 0 := if_pos h
theorem ckEff_no {a b c : Int} (h : ¬ effOk a b c) : ckEff a b c = 2 := if_neg h

/-- An item: its effect (three numbers), move, in, group. -/
def itemOk (a b c m : Int) (i : Bool) (g : Int) : Prop := (1 ≤ g ∧ g ≤ 7) ∧ ((m = 0 ∧ i = false ∧ effOk a b c) ∨ (1 ≤ m ∧ m ≤ 64 ∧ a = 0 ∧ b = 0 ∧ c = 0))
instance (a b c m : Int) (i : Bool) (g : Int) : Decidable (itemOk a b c m i g) := by unfold itemOk; infer_instance
def ckItem (a b c m : Int) (i : Bool) (g : Int) : Int := if itemOk a b c m i g then 0 else 2
theorem ckItem_yes {a b c m : Int} {i : Bool} {g : Int} (h : itemOk a b c m i g) : ckItem a b c m i g = 0 := if_pos h
theorem ckItem_no {a b c m : Int} {i : Bool} {g : Int} (h : ¬ itemOk a b c m i g) : ckItem a b c m i g = 2 := if_neg h

theorem ckItem_group {a b c m : Int} {i : Bool} {g : Int} (h : ¬ (1 ≤ g ∧ g ≤ 7)) : ckItem a b c m i g = 2 := ckItem_no fun k => h k.1
theorem ckItem_eff {a b c : Int} {g : Int} (h : 1 ≤ g) (h' : g ≤ 7) : ckItem a b c 0 false g = ckEff a b c := by
  by_cases k : effOk a b c
  · exact (ckItem_yes ⟨⟨h, h'⟩, .inl ⟨rfl, rfl, k⟩⟩).trans (ckEff_yes k).symm
  · refine (ckItem_no ?_).trans (ckEff_no k).symm
    rintro ⟨_, ⟨_, _, k'⟩ | ⟨k', _⟩⟩
    · exact k k'
    · omega
theorem ckItem_in {a b c : Int} {g : Int} : ckItem a b c 0 true g = 2 := by
  refine ckItem_no ?_
  rintro ⟨_, ⟨_, k', _⟩ | ⟨k', _⟩⟩
  · cases k'
  · omega
theorem ckItem_move {a b c m : Int} {i : Bool} {g : Int} (h0 : ¬ m = 0) (h : ¬ (1 ≤ m ∧ m ≤ 64)) : ckItem a b c m i g = 2 := by
  refine ckItem_no ?_
  rintro ⟨_, ⟨k', _⟩ | ⟨k', k2, _⟩⟩
  · exact h0 k'
  · exact h ⟨k', k2⟩
theorem ckItem_both {a b c m : Int} {i : Bool} {g : Int} (h0 : ¬ m = 0) (h : ¬ (a = 0 ∧ b = 0 ∧ c = 0)) : ckItem a b c m i g = 2 := by
  refine ckItem_no ?_
  rintro ⟨_, ⟨k', _⟩ | ⟨_, _, k'⟩⟩
  · exact h0 k'
  · exact h k'

def cmpI (a b : Int) : Int := if a < b then -1 else if b < a then 1 else 0
def ordEff (a b c x y z : Int) : Int := if a ≠ x then cmpI a x else if b ≠ y then cmpI b y else cmpI c z
end Go.Proofs.YtgeljnjcpkmlmaaGreatDoor
