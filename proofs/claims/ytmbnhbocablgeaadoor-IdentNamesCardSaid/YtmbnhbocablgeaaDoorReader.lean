/- What the reader of ident does: it takes words and numbers away; nothing but the reader's own two cells, and what is new, changes. Conditions: the reader lies in a block of its own; the text is no longer than 1,000,000 bytes. -/
import Derived.Test.YtmbnhbocablgeaaDoorPlReadI
import Derived.Test.YtmbnhbocablgeaaDoorShelf
import Derived.Test.YtmbnhbocablgeaaDoorText
import Derived.Deep.OwnRows
import Derived.Laws.Rows
namespace Go.Proofs.YtmbnhbocablgeaaDoor
open Go.RowKit

/-- A reader lies in block g: l is left, k: nothing was wrong. -/
def Rd (w : World) (g : Nat) (l : List UInt8) (k : Bool) : Prop := w.heap[g]? = some (.cells #[.string ⟨l.toArray⟩, .bool k] 68 (0, 0))
section
variable {w w' : World} {g : Nat} {l : List UInt8} {k : Bool}
theorem Rd.c0 (h : Rd w g l k) : w.cell? ⟨g, 0, none⟩ = some (.string ⟨l.toArray⟩) := cell_of_row w g 0 _ _ (0, 0) h
theorem Rd.c1 (h : Rd w g l k) : w.cell? ⟨g, 1, none⟩ = some (.bool k) := cell_of_row w g 1 _ _ (0, 0) h
theorem Rd.fr (h : Rd w g l k) (i : Nat) : w.frozen? ⟨g, i, none⟩ = false := by unfold Rd at h; simp [World.frozen?, h]
theorem Rd.lt (h : Rd w g l k) : g < w.heap.size := by
  rcases Nat.lt_or_ge g w.heap.size with hlt | hge
  · exact hlt
  · unfold Rd at h; rw [Array.getElem?_eq_none hge] at h; cases h
theorem Rd.set0 (h : Rd w g l k) (l' : List UInt8) : Rd (w.setCell ⟨g, 0, none⟩ (.string ⟨l'.toArray⟩)) g l' k := by
  unfold Rd at h ⊢
  simp [World.setCell, Array.getElem?_modify, h]
theorem Rd.set1 (h : Rd w g l k) (k' : Bool) : Rd (w.setCell ⟨g, 1, none⟩ (.bool k')) g l k' := by
  unfold Rd at h ⊢
  simp [World.setCell, Array.getElem?_modify, h]
theorem Rd.below (h : Rd w g l k) {B : Nat} (hb : Below B w w') (hg : g < B) : Rd w' g l k := (hb.block g hg).trans h
theorem Rd.new (w : World) (l : List UInt8) (k : Bool) : Rd (w.alloc (.cells #[.string ⟨l.toArray⟩, .bool k] 68)) w.heap.size l k := heap_alloc_new w _
end
/-- Only block g, and what is new, has changed. -/
abbrev Only (g : Nat) (w w' : World) : Prop := w.grownBy w' (some g)
theorem Only.set {w : World} {g i : Nat} (v : Value) : Only g w (w.setCell ⟨g, i, none⟩ v) :=
  ⟨rfl, rfl, rfl, by simp, fun j _ hne => Below.heap_setCell w _ v j (fun e => hne (by rw [e]))⟩
theorem Only.refl (g : Nat) (w : World) : Only g w w := World.grownBy.refl w _
theorem Only.trans {g : Nat} {a b c : World} (h : Only g a b) (k : Only g b c) : Only g a c :=
  ⟨k.os.trans h.os, k.tape.trans h.tape, k.output.trans h.output, Nat.le_trans h.size k.size, fun i hi hne => (k.block i (Nat.lt_of_lt_of_le hi h.size) hne).trans (h.block i hi hne)⟩
theorem Only.of_below {g : Nat} {a b : World} (h : Below a.heap.size a b) : Only g a b := ⟨h.os, h.tape, h.output, h.size, fun i hi _ => h.block i hi⟩
theorem Only.below {g : Nat} {a w w' : World} {B : Nat} (h : Only g w w') (hb : Below B a w) (hg : B ≤ g) (hB : B ≤ w.heap.size) : Below B a w' :=
  hb.grown h hB (fun k e => by cases e; exact hg)

set_option maxHeartbeats 800000 in
theorem word_any (g : Nat) (l : List UInt8) (k : Bool) (p : ByteArray) (w : World) (h : Rd w g l k) :
    Calls Tryd.prog 44 #[.pointer (some ⟨g, 0, none⟩), .string p] w fun e w' => e = .returned (.bool (Lib.hasPrefix l p.data.toList)) ∧ Rd w' g (rWord p.data.toList (l, k)).1 k ∧ Only g w w' := by
  have c0 := h.c0
  have f0 := h.fr 0
  have hC := fun w => Tryd.strings_CutPrefix ⟨l.toArray⟩ p w
  by_cases hp : Lib.hasPrefix l p.data.toList = true
  · have hR : Rd (w.setCell ⟨g, 0, none⟩ (.string ⟨(rWord p.data.toList (l, k)).1.toArray⟩)) g (rWord p.data.toList (l, k)).1 k := h.set0 _
    simp only [rWord] at hR ⊢
    simp only [hp] at hC ⊢
    have HR := Lib.hid hR
    clear h hR hp
    generalize Lib.trimPrefix l p.data.toList = t at hC HR ⊢
    go_enter Tryd.func44, Tryd.ntmps44
    go_wp2_with fail
    refine (hC _).mono ?_
    rintro e w1 ⟨rfl, rfl⟩
    go_wp2
    go_ret
    exact ⟨rfl, HR.out, Only.set _⟩
  · have hp : Lib.hasPrefix l p.data.toList = false := by simpa using hp
    have ht : Lib.trimPrefix l p.data.toList = l := by unfold Lib.trimPrefix; rw [hp]; rfl
    simp only [rWord]
    simp only [hp, ht] at hC ⊢
    have HR := Lib.hid h
    clear h hp ht
    go_enter Tryd.func44, Tryd.ntmps44
    go_wp2_with fail
    refine (hC _).mono ?_
    rintro e w1 ⟨rfl, rfl⟩
    go_wp2
    go_ret
    exact ⟨rfl, HR.out, Only.refl _ _⟩

set_option maxHeartbeats 800000 in
theorem need_any (g : Nat) (l : List UInt8) (k : Bool) (p : ByteArray) (w : World) (h : Rd w g l k) :
    Calls Tryd.prog 46 #[.pointer (some ⟨g, 0, none⟩), .string p] w fun e w' => e = .returned (.tuple #[]) ∧ Rd w' g (rNeed p.data.toList (l, k)).1 (rNeed p.data.toList (l, k)).2 ∧ Only g w w' := by
  have hW := word_any g l k p w h
  simp only [rWord, rNeed] at hW ⊢
  generalize Lib.trimPrefix l p.data.toList = t at hW ⊢
  clear h
  cases hp : Lib.hasPrefix l p.data.toList <;> rw [hp] at hW
  · clear hp
    simp only [Bool.false_and]
    go_enter Tryd.func46, Tryd.ntmps46
    go_wp2_with fail
    refine hW.mono ?_
    rintro e w1 ⟨rfl, hR, hO⟩
    have c1 := hR.c1
    have f1 := hR.fr 1
    have HR := Lib.hid (hR.set1 false)
    clear hR
    go_wp2
    go_end0
    exact ⟨rfl, HR.out, hO.trans (Only.set _)⟩
  · clear hp
    simp only [Bool.true_and]
    go_enter Tryd.func46, Tryd.ntmps46
    go_wp2_with fail
    refine hW.mono ?_
    rintro e w1 ⟨rfl, hR, hO⟩
    have c1 := hR.c1
    have f1 := hR.fr 1
    have HR := Lib.hid (hR.set1 k)
    clear hR
    go_wp2
    go_end0
    exact ⟨rfl, HR.out, hO.trans (Only.set _)⟩
end Go.Proofs.YtmbnhbocablgeaaDoor
