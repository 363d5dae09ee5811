/- What Cover returns at every list of allowed ranges whose beginnings are distinct; memory that lay stays. Condition: no more than 64 ranges, no text longer than an int can say. -/
import Derived.Test.YthngliafkhalfaaDoorCoverAll
import Derived.Test.YthngliafkhalfaaDoorWorks6
namespace Go.Proofs.YthngliafkhalfaaDoor
open Go.RowKit Go.Sort

def toBA (p : LR) : ByteArray × ByteArray := (⟨p.1.toArray⟩, ⟨p.2.toArray⟩)
theorem half_lt {j n : Nat} (h : j < n * 2) : j / 2 < n := by omega
theorem cells_flat {w : World} {b o : Nat} {d : List LR} (h : CellsR w b o (d.map toBA)) : ∀ j u, (flatR d)[j]? = some u → w.cell? ⟨b, o + j, none⟩ = some u := fun j u hj => by
  have hlt : j < d.length * 2 := by
    have := (List.getElem?_eq_some_iff.1 hj).1
    rw [flatR_len] at this
    exact this
  rw [flatR_get d j hlt] at hj
  have hi := half_lt hlt
  obtain ⟨h0, h1⟩ := h (j / 2) (toBA d[j / 2]) (by rw [List.getElem?_map, List.getElem?_eq_getElem hi]; rfl)
  rw [getElem!_pos d.toArray (j / 2) (by simpa using hi)] at hj
  have e1 : d.toArray[j / 2]'(by simpa using hi) = d[j / 2] := by simp
  rw [e1] at hj
  rw [← hj]
  rcases Nat.mod_two_eq_zero_or_one j with e | e
  · rw [e, show o + j = o + j / 2 * 2 by omega]
    exact h0
  · rw [e, show o + j = o + j / 2 * 2 + 1 by omega]
    exact h1
theorem cells_of_holds {w : World} {g : Nat} {d' : Array LR} {s : List LR} (h : HoldsK encR 2 w g 0 d') (hs : d'.toList = s) : CellsR w g 0 (s.map toBA) := fun i p hi => by
  subst hs
  rw [List.getElem?_map] at hi
  obtain ⟨q, hq, rfl⟩ := Option.map_eq_some_iff.1 hi
  obtain ⟨hlt, he⟩ := List.getElem?_eq_some_iff.1 hq
  have hlt' : i < d'.size := by simpa using hlt
  have h0 := (h.cell (i := i) (c := 0) hlt' (by decide)).1
  have h1 := (h.cell (i := i) (c := 1) hlt' (by decide)).1
  rw [getElem!_pos d' i hlt'] at h0 h1
  have e1 : d'[i] = q := by rw [← he]; simp
  rw [e1] at h0 h1
  exact ⟨by rw [show 0 + i * 2 = 0 + i * 2 + 0 by omega]; exact h0, h1⟩
end Go.Proofs.YthngliafkhalfaaDoor
