/- What ends returns over a slice of ranges: a function and whether all are allowed; memory that lay stays. Condition: the ends are no longer than an int can say. -/
import Derived.Test.YtkkkppbcjmeapaaDoorEnds
namespace Go.Proofs.YtkkkppbcjmeapaaDoor
open Go.RowKit

/-- Ranges as a slice's cells hold them. -/
def CellsR (w : World) (b o : Nat) (ps : List (ByteArray × ByteArray)) : Prop :=
  ∀ i p, ps[i]? = some p → w.cell? ⟨b, o + i * 2, none⟩ = some (.string p.1) ∧ w.cell? ⟨b, o + i * 2 + 1, none⟩ = some (.string p.2)
theorem lt_of_cellR {w : World} {p : Addr} {v : Value} (h : w.cell? p = some v) : p.block < w.heap.size := by
  rcases Nat.lt_or_ge p.block w.heap.size with hlt | hge
  · exact hlt
  · unfold World.cell? at h
    rw [Array.getElem?_eq_none hge] at h
    cases h
def fitR (p : ByteArray × ByteArray) : Prop := p.1.size ≤ 9223372036854775807 ∧ p.2.size ≤ 9223372036854775807
def okP (p : ByteArray × ByteArray) : Bool := okR p.1 p.2
/-- The function, if all ranges are allowed. -/
def fnV : Bool → Value
  | true => .func (.func 69) #[] #[]
  | false => .nilFunc

set_option maxRecDepth 100000 in
set_option maxHeartbeats 4000000 in
theorem ends_any (b o n cap : Nat) (ps : List (ByteArray × ByteArray)) (w : World) (hn : ps.length = n) (hn2 : n ≤ 1000000) (hc : CellsR w b o ps) (hfit : ∀ p ∈ ps, fitR p) :
    Calls Tryd.prog 47 #[.slice (some ⟨b, o, none⟩) n cap] w fun e w' => e = .returned (.tuple #[fnV (ps.all okP), .int .i64 (ckI (ps.all okP))]) ∧ Below w.heap.size w w' := by
  have HC := Lib.hid hc
  have HF := Lib.hid hfit
  have HN := Lib.hid hn
  generalize hq : ps.all okP = q
  have HQ := Lib.hid hq
  have b1 := Below.refl w.heap.size w
  clear hc hfit hn hq
  go_enter Tryd.func47, Tryd.ntmps47
  go_wp2_with fail
  go_loopw [9] (fun v wr => Below w.heap.size w wr ∧ ∃ k : Nat, k ≤ n ∧ v = .int .i64 k ∧ Hid ((ps.take k).all okP = true)) (fun v _ => n - (intOf v).toNat)
  case atStart => exact ⟨b1, 0, Nat.zero_le _, rfl, Lib.hid rfl⟩
  case round =>
    clear b1
    obtain ⟨b2, k, hk, rfl, hall⟩ := hrel
    by_cases hlt : k < n
    · have hlt' : k < ps.length := by rw [HN.out]; exact hlt
      have hg : ps[k]? = some ps[k] := List.getElem?_eq_getElem hlt'
      obtain ⟨c0, c1⟩ := HC.out k _ hg
      have f0 := HF.out _ (List.getElem_mem hlt')
      have hsn : ps.take (k + 1) = ps.take k ++ [ps[k]] := List.take_succ_eq_append_getElem hlt'
      have hno := fun (h : okP ps[k] = false) => Lib.hid (show ps.all okP = false from List.all_eq_false.2 ⟨_, List.getElem_mem hlt', by rw [h]; exact Bool.false_ne_true⟩)
      generalize ps[k] = p at c0 c1 f0 hsn hno
      obtain ⟨f, t⟩ := p
      obtain ⟨h1, h2⟩ := f0
      have d0 := (b2.cell (lt_of_cellR c0)).trans c0
      have d1 := (b2.cell (lt_of_cellR c1)).trans c1
      clear c0 c1 HC HF HN
      cases hok : okP (f, t) with
      | true =>
        have hall' := Lib.hid (show (ps.take (k + 1)).all okP = true by rw [hsn, List.all_append, hall.out, List.all_cons, hok]; rfl)
        have C := fun W => check_any f t W h1 h2
        rw [show okR f t = true from hok] at C
        clear hno hsn hall
        go_wp2_with fail
        refine (C _).mono ?_
        rintro e w3 ⟨rfl, hb⟩
        have b3 := ((b2.alloc b2.size (.cells #[.string f, .string t] 30)).trans (hb.mono (by have := b2.size; simp; omega)))
        clear d0 d1 b2 hb C
        go_wp2_with fail
        go_roundw
        case rel => exact ⟨b3, k + 1, by omega, by go_num, hall'⟩
        case measure => simp [intOf]; omega
      | false =>
        obtain rfl : q = false := by rw [← HQ.out]; exact (hno hok).out
        have C := fun W => check_any f t W h1 h2
        rw [show okR f t = false from hok] at C
        clear hno hsn hall
        go_wp2_with fail
        refine (C _).mono ?_
        rintro e w3 ⟨rfl, hb⟩
        have b3 := ((b2.alloc b2.size (.cells #[.string f, .string t] 30)).trans (hb.mono (by have := b2.size; simp; omega)))
        clear d0 d1 b2 hb C
        go_wp2_with fail
        go_ret2
        exact ⟨rfl, b3⟩
    · obtain rfl : q = true := by rw [← HQ.out, ← List.take_of_length_le (show ps.length ≤ k by rw [HN.out]; omega)]; exact hall.out
      clear hall HC HF HN HQ
      go_wp2_with fail
      go_ret2
      exact ⟨rfl, b2⟩
end Go.Proofs.YtkkkppbcjmeapaaDoor
