/- A move, and moved back: the plain law. No condition. -/
import Derived.Test.YtkkkppbcjmeapaaDoorPlOwn
namespace Go.Proofs.YtkkkppbcjmeapaaDoor

/-- Behind a move its range belongs to the group. -/
theorem owner_set {E : Int} {d : List Pt} {acc : Nat → Int × Int} {x y : ByteArray} {g e : Int} (h : Acc E d (accSet acc x y g e)) (hr : okR x y = true) (hx : NamedE x) (hy : NamedE y) : ownerV d x y = (g, true, 0) := by
  have hs : ∀ k, hasR x y (nmS k) = true → (accSet acc x y g e k).1 = g := fun k hk => by unfold accSet; rw [if_pos hk]
  rcases owner_keys h hr (Or.inl hx) hy with ⟨o, _, hv, ho⟩ | ⟨_, k, k', hk, hk', h1, h2, h3⟩
  · obtain ⟨k, hk, hh⟩ := key_in hr hx hy
    have := ho k hk hh
    rw [hs k hh] at this
    rw [hv, this]
  · exact absurd (by rw [hs k h1, hs k' h2]) h3

/-- What Owner says decides whether a move is possible; and all that the law wants of a move that is. -/
structure Mvd (E : Int) (d : List Pt) (acc : Nat → Int × Int) (x y : ByteArray) (g o ep : Int) : Prop where
  v1 : moveV d x y g = (ep, 0, newL d x y g)
  a1 : Acc (E + 1) (newL d x y g) (accSet acc x y g ep)
  l1 : (newL d x y g).length ≤ d.length + 2
  w1 : ownerV (newL d x y g) x y = (g, true, 0)
  k1 : ∀ k, k < 64 → hasR x y (nmS k) = true → (acc k).1 = o ∧ (acc k).2 < ep
  v2 : moveV (newL d x y g) x y o = (ep + 1, 0, newL (newL d x y g) x y o)
  a2 : Acc (E + 1 + 1) (newL (newL d x y g) x y o) (accSet (accSet acc x y g ep) x y o (ep + 1))
  l2 : (newL (newL d x y g) x y o).length ≤ d.length + 4
  w2 : ownerV (newL (newL d x y g) x y o) x y = (o, true, 0)
  o1 : 1 ≤ o ∧ o < 8
  e1 : 1 ≤ ep ∧ ep ≤ E + 1

theorem moved {E : Int} {d : List Pt} {acc : Nat → Int × Int} (h : Acc E d acc) (hE : E < 2147483640) (hE0 : 0 ≤ E) {x y : ByteArray} (hr : okR x y = true) (hx : NamedE x) (hy : NamedE y) {g : Int} (hg : 1 ≤ g ∧ g < 8) (hlen : d.length ≤ 60) :
    (∃ o b, ownerV d x y = (o, b, 0) ∧ (b = false ∨ o = g) ∧ moveV d x y g = (0, 9, d)) ∨ (∃ o ep, ownerV d x y = (o, true, 0) ∧ o ≠ g ∧ Mvd E d acc x y g o ep) := by
  rcases acc_move h (by omega) hE0 hr hx hy hg (by omega) with ⟨hn, hv⟩ | ⟨o, e, hs, hv, hA, hl, ho, hne, he⟩
  · left
    rcases owner_keys h hr (Or.inl hx) hy with ⟨o, _, ho, hall⟩ | ⟨ho, _⟩
    · refine ⟨o, true, ho, Or.inr ?_, hv⟩
      rcases accL_none hn with ⟨k, k', hk, hk', h1, h2, h3⟩ | ⟨k, hk, h1, h2⟩
      · exact absurd ((hall k hk h1).trans (hall k' hk' h2).symm) h3
      · rw [← hall k hk h1]; exact h2
    · exact ⟨0, false, ho, Or.inl rfl, hv⟩
  · right
    obtain ⟨s1, _⟩ := accL_some (fun k hk => (h.one k hk).1) (Nat.le_refl 64) hs
    obtain ⟨k0, hk0, hh0⟩ := key_in hr hx hy
    have hall : ∀ k, k < 64 → hasR x y (nmS k) = true → (acc k).1 = o := fun k hk hh => by
      rcases owner_keys h hr (Or.inl hx) hy with ⟨o', _, ho', hal⟩ | ⟨ho', _⟩
      · rw [ho] at ho'
        cases ho'
        exact hal k hk hh
      · rw [ho] at ho'; cases ho'
    have ho1 : 1 ≤ o ∧ o < 8 := by
      have := h.one k0 hk0
      rw [hall k0 hk0 hh0] at this
      exact ⟨this.1, this.2.1⟩
    have acc' : ∀ k, hasR x y (nmS k) = true → accSet acc x y g e k = (g, e) := fun k hk => by unfold accSet; rw [if_pos hk]
    rcases acc_move hA (by omega) (by omega) hr hx hy ho1 (by omega) with ⟨hn, _⟩ | ⟨o2, e2, hs2, hv2, hA2, hl2, ho2, hne2, he2⟩
    · rcases accL_none hn with ⟨k, k', hk, hk', h1, h2, h3⟩ | ⟨k, hk, h1, h2⟩
      · exact absurd (by rw [acc' k h1, acc' k' h2]) h3
      · rw [acc' k h1] at h2
        exact absurd h2.symm hne
    · have he2 : e2 = e + 1 := by
        obtain ⟨t1, t2⟩ := accL_some (fun k hk => (hA.one k hk).1) (Nat.le_refl 64) hs2
        have h1 := (t1 k0 hk0 hh0).2.2
        rw [acc' k0 hh0] at h1
        rcases t2 with ⟨_, h2⟩ | ⟨_, _, _, _, k', hk', hh', h3⟩
        · simp only at h1; omega
        · rw [acc' k' hh'] at h3
          simp only at h1 h3
          omega
      subst he2
      exact ⟨o, e, ho, hne, ⟨hv, hA, hl, owner_set hA hr hx hy, fun k hk hh => ⟨hall k hk hh, by have := (s1 k hk hh).2.2; omega⟩, hv2, hA2, by omega, owner_set hA2 hr hx hy, ho1, he⟩⟩
end Go.Proofs.YtkkkppbcjmeapaaDoor
