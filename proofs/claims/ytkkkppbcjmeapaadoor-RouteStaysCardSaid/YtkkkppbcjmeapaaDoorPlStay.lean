/- A move that is possible changes the lists: the plain law. No condition. -/
import Derived.Test.YtkkkppbcjmeapaaDoorRtB
import Derived.Test.YtkkkppbcjmeapaaDoorPtEq
namespace Go.Proofs.YtkkkppbcjmeapaaDoor

theorem find_same : ∀ {d d1 : List Pt}, rgs d = rgs d1 → grs d = grs d1 → ∀ k, (findP d k).map Pt.g = (findP d1 k).map Pt.g
  | [], [], _, _, _ => rfl
  | [], _ :: _, h, _, _ => by simp [rgs] at h
  | _ :: _, [], h, _, _ => by simp [rgs] at h
  | p :: d, q :: d1, h, h', k => by
    simp only [rgs, grs, List.map_cons, List.cons.injEq, Prod.mk.injEq] at h h'
    obtain ⟨⟨h1, h2⟩, h3⟩ := h
    obtain ⟨h4, h5⟩ := h'
    have ih := find_same (d := d) (d1 := d1) h3 h5 k
    unfold findP at ih ⊢
    rw [List.find?_cons, List.find?_cons, h1, h2]
    split
    · simp [h4]
    · exact ih
theorem moved_differs {E : Int} {d : List Pt} {acc : Nat → Int × Int} {x y : ByteArray} {g o ep : Int} (h : Acc E d acc) (hr : okR x y = true) (hx : NamedE x) (hy : NamedE y) (M : Mvd E d acc x y g o ep) (hne : o ≠ g) : ¬ (rgs (newL d x y g) = rgs d ∧ grs (newL d x y g) = grs d) := by
  rintro ⟨h1, h2⟩
  obtain ⟨k, hk, hh⟩ := key_in hr hx hy
  have hf := find_same h1 h2 (nmS k)
  obtain ⟨q, _, hq, _, ha⟩ := h.key hk
  obtain ⟨q1, _, hq1, _, ha1⟩ := M.a1.key hk
  rw [hq, hq1] at hf
  simp only [Option.map_some, Option.some.injEq] at hf
  have := (M.k1 k hk hh).1
  rw [ha] at this
  unfold accSet at ha1
  rw [if_pos hh] at ha1
  injection ha1 with e1 e2
  simp only at this
  exact hne (by rw [← this, ← hf, ← e1])
theorem moved_ep {E : Int} {d : List Pt} {acc : Nat → Int × Int} {x y : ByteArray} {g o ep : Int} (h : Acc E d acc) (hr : okR x y = true) (hx : NamedE x) (hy : NamedE y) (M : Mvd E d acc x y g o ep) : 1 < ep := by
  obtain ⟨k, hk, hh⟩ := key_in hr hx hy
  have := (M.k1 k hk hh).2
  have := h.one k hk
  omega
end Go.Proofs.YtkkkppbcjmeapaaDoor
