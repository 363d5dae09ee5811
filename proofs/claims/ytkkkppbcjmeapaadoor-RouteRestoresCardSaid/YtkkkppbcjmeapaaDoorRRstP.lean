/- What RouteRestores leans on: two restored maps, and that clearing slices made ahead of them turns neither. No condition. -/
import Derived.Test.YtkkkppbcjmeapaaDoorRtD
import Derived.Test.YtkkkppbcjmeapaaDoorRfClr
import Derived.Test.YtkkkppbcjmeapaaDoorRfRst
namespace Go.Proofs.YtkkkppbcjmeapaaDoor
open Go.RowKit Go.Shelf

/-- Parts out of three lists. -/
def zipP : List (ByteArray × ByteArray) → List Int → List Int → List Pt
  | p :: R, g :: G, e :: E => ⟨p.1, p.2, g, e⟩ :: zipP R G E
  | _, _, _ => []
theorem zipP_says : ∀ (R : List (ByteArray × ByteArray)) (G E : List Int), G.length = R.length → E.length = R.length → (zipP R G E).length = R.length ∧ rgs (zipP R G E) = R ∧ grs (zipP R G E) = G ∧ eps (zipP R G E) = E
  | [], [], [], _, _ => ⟨rfl, rfl, rfl, rfl⟩
  | p :: R, g :: G, e :: E, h1, h2 => by
    obtain ⟨a, b, c, d⟩ := zipP_says R G E (by simpa using h1) (by simpa using h2)
    refine ⟨by simp [zipP, a], ?_, ?_, ?_⟩
    · show (p.1, p.2) :: rgs (zipP R G E) = _
      rw [b]
    · show g :: grs (zipP R G E) = _
      rw [c]
    · show e :: eps (zipP R G E) = _
      rw [d]
  | [], _ :: _, _, h1, _ => by simp at h1
  | [], [], _ :: _, _, h2 => by simp at h2
  | _ :: _, [], _, h1, _ => by simp at h1
  | _ :: _, _ :: _, [], _, h2 => by simp at h2
/-- A map and the reference's, both made behind a number of blocks. -/
structure TwoC (base : Nat) (W : World) (B C : Nat) (d : List Pt) : Prop where
  m : ∃ v, Boxed W B 74 v ∧ W.ownsRow base 89 4 v d.length (flatP d)
  r : ∃ g cap, Whole W C 106 #[.bool true, .slice (some ⟨g, 0, none⟩) d.length cap] ∧ CellsP W g 0 d ∧ d.length ≤ cap ∧ base ≤ g
  hB : base ≤ B
  hC : base ≤ C
  ne : C ≠ B
theorem TwoC.grown {base : Nat} {W W' : World} {B C : Nat} {d : List Pt} {row : Option Nat} (h : TwoC base W B C d) (hg : W.grownBy W' row) (h0 : ∀ g0, row = some g0 → g0 < base) : TwoC base W' B C d := by
  obtain ⟨v, h1, h2⟩ := h.m
  obtain ⟨g, cap, h3, h4, h5, h6⟩ := h.r
  have hB := h.hB
  have hC := h.hC
  have hx : ∀ k, base ≤ k → some k ≠ row := fun k hk e => by have := h0 k e.symm; omega
  have h3' : Whole W' C 106 #[.bool true, .slice (some ⟨g, 0, none⟩) d.length cap] := (hg.block C h3.lt (hx C hC)).trans h3
  have ho : v.ownBlock = none ∨ v.ownBlock ≠ row := by
    cases hv : v.ownBlock with
    | none => exact Or.inl rfl
    | some g0 =>
      have h7 := (h2.lt g0 hv).1
      exact Or.inr (hx g0 h7)
  exact ⟨⟨v, h1.kept hg (hx B hB), h2.kept hg ho⟩, ⟨g, cap, h3', h4.grown hg (hx g h6), h5, h6⟩, hB, hC, h.ne⟩
theorem TwoC.keep {base : Nat} {W W' : World} {B C : Nat} {d : List Pt} (h : TwoC base W B C d) (hb : Below W.heap.size W W') : TwoC base W' B C d :=
  h.grown (below_grown hb) (fun g0 e => by cases e)
theorem TwoC.duo {base : Nat} {w W : World} {B C : Nat} {d : List Pt} (h : TwoC base W B C d) (hb : Below w.heap.size w W) (hw : w.heap.size ≤ base) (hG : Good d) : Duo w W B C d d := by
  obtain ⟨v, h1, h2⟩ := h.m
  obtain ⟨g, cap, h3, h4, h5, h6⟩ := h.r
  exact ⟨⟨⟨v, h1, parts_own h2 rfl⟩, hb, Nat.le_trans hw h.hB⟩, ⟨g, cap, h3, h4, h5⟩, Nat.le_trans hw h.hC, h.ne, hG, hG⟩
end Go.Proofs.YtkkkppbcjmeapaaDoor
