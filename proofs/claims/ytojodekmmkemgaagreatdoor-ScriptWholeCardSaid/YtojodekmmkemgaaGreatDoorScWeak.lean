/- Operations given as arguments, of any size, as memory holds them. No condition. -/
import Derived.Test.YtojodekmmkemgaaGreatDoorScLs
namespace Go.Proofs.YtojodekmmkemgaaGreatDoor
open Go.RowKit Go.Shelf

/-- An operation whose definition may have any number of steps. -/
structure OpWk (W : World) (o : Ov) (A : Option Addr) (n m : Nat) : Prop where
  len : o.d.s.length = n
  cap : n ≤ m
  big : n ≤ 9223372036854775807
  dz : DefZ o.d
  sl : SlD W A o.d.s
  z : OpZ o
theorem OpWk.keep {w w' : World} {o : Ov} {A : Option Addr} {n m : Nat} (h : OpWk w o A n m) (hb : Below w.heap.size w w') : OpWk w' o A n m := ⟨h.len, h.cap, h.big, h.dz, h.sl.keep hb, h.z⟩
theorem OpWk.small {w : World} {o : Ov} {A : Option Addr} {n m : Nat} (h : OpWk w o A n m) (hn : n ≤ 1000000000000) : OpIn w o A n m := ⟨⟨h.len, h.cap, hn, h.dz, h.sl⟩, h.z⟩
theorem OpIn.weak {w : World} {o : Ov} {A : Option Addr} {n m : Nat} (h : OpIn w o A n m) : OpWk w o A n m := ⟨h.d.len, h.d.le, Nat.le_trans h.d.big (by decide), h.d.z, h.d.s, h.z⟩
/-- A slice of such operations. -/
def SlOw (W : World) (A : Option Addr) (l : List Oq) : Prop := ∀ (i : Nat) q, l[i]? = some q → ∃ g o, A = some ⟨g, o, none⟩ ∧ W.rangeAt g (o + i * 10) (qL q) ∧ OpWk W q.o q.A q.n q.m
theorem SlOw.keep {w w' : World} {A : Option Addr} {l : List Oq} (h : SlOw w A l) (hb : Below w.heap.size w w') : SlOw w' A l := fun i q hi => by
  obtain ⟨g, o, rfl, hr, hq⟩ := h i q hi
  exact ⟨g, o, rfl, range_keep hr hb, hq.keep hb⟩
theorem SlOw.small {w : World} {A : Option Addr} {l : List Oq} (h : SlOw w A l) (hn : ∀ q ∈ l, q.n ≤ 1000000000000) : SlO w A l := fun i q hi => by
  obtain ⟨g, o, rfl, hr, hq⟩ := h i q hi
  exact ⟨g, o, rfl, hr, hq.small (hn q (List.mem_of_getElem? hi))⟩
end Go.Proofs.YtojodekmmkemgaaGreatDoor
