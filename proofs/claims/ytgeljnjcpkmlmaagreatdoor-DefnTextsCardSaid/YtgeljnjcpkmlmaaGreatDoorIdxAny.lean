/- Where a sign stands in a word: strings.IndexAny at "+-", for words of whatever bytes. Condition: the word is short enough. -/
import Derived.Test.YtgeljnjcpkmlmaaGreatDoorDfEnv
import Derived.Laws.RangeAny
import Derived.Laws.Runes
import Derived.Lib.QuoteLoop
import Derived.Shelf.Strings.Runes
import Derived.Shelf.Strings.IndexAnyAll
import Derived.Maps.Range
import Derived.BigQuiet
import Derived.WalkMore
namespace Go.Proofs.YtgeljnjcpkmlmaaGreatDoor
open Go.RowKit Go.Shelf

def putO (w : World) (b : Nat) (o : Obj) : World := { w with heap := w.heap.setIfInBounds b o }
/-- A step of a range over a text, wherever the iterator lies. -/
theorem next_at {P : Program} {W : World} {b : Nat} {s : ByteArray} {pos : Nat} (ty : TypeId) (hb : W.heap[b]? = some (.stringIter s pos)) (h : pos < s.size) :
    (Instr.next (.pointer (some ⟨b, 0, none⟩)) true ty).run P W = .ok (.tuple #[.bool true, .int .i64 pos, .int .i32 (Utf8.decode s pos).1]) (putO W b (.stringIter s (pos + (Utf8.decode s pos).2))) := by
  simp only [Instr.next, getObj, setObj, Sem.run_bind, Sem.run, hb, Result.andThen, h, if_true]
  simp [goInt, putO]
theorem next_end {P : Program} {W : World} {b : Nat} {s : ByteArray} {pos : Nat} (ty : TypeId) (hb : W.heap[b]? = some (.stringIter s pos)) (h : ¬ pos < s.size) :
    (Instr.next (.pointer (some ⟨b, 0, none⟩)) true ty).run P W = .ok (.tuple #[.bool false]) W := by
  simp [Instr.next, getObj, Sem.run, hb, h]
theorem putO_at {W : World} {b : Nat} {o o' : Obj} (hb : W.heap[b]? = some o) : (putO W b o').heap[b]? = some o' := by
  obtain ⟨h, _⟩ := Array.getElem?_eq_some_iff.1 hb
  simp [putO, h]
theorem below_putO {w W : World} {b : Nat} (o : Obj) (h : Below w.heap.size w W) (hb : w.heap.size ≤ b) : Below w.heap.size w (putO W b o) :=
  ⟨h.os, h.tape, h.output, by simpa [putO] using h.size, fun k hk => by
    have : b ≠ k := by omega
    simp only [putO]
    rw [Array.getElem?_setIfInBounds_ne this]
    exact h.block k hk⟩
abbrev pm : ByteArray := ⟨#[43, 45]⟩
theorem idxByte_any (s : ByteArray) (c : Int) (w : World) : Calls Tryz.prog 164 #[.string s, .int .u8 c] w fun e w' => e = .returned (.int .i64 (Lib.indexByte s.data.toList c.toNat.toUInt8)) ∧ w' = w :=
  Any.strings_IndexByte { Tryz.lays153 with } s c w
theorem valid_any (r : Int) (hv : Utf8.valid r = true) (w : World) : Calls Tryz.prog 165 #[.int .i32 r] w fun e w' => e = .returned (.bool true) ∧ w' = w := by
  rw [validRune_eq] at hv
  have h := of_decide_eq_true hv
  clear hv
  by_cases h1 : r < 55296
  · have h0 : 0 ≤ r := by omega
    clear h
    go_enter Tryz.func165, Tryz.ntmps165
    go_wp2
    go_ret
    exact ⟨rfl, rfl⟩
  · have h0 : 0 ≤ r := by omega
    have h2 : 57343 < r := by omega
    have h3 : r ≤ 1114111 := by omega
    clear h
    go_enter Tryz.func165, Tryz.ntmps165
    go_wp2
    go_ret
    exact ⟨rfl, rfl⟩
set_option maxRecDepth 100000 in
set_option maxHeartbeats 4000000 in
theorem idxRune_any (r : Int) (hv : Utf8.valid r = true) (w : World) : Calls Tryz.prog 135 #[.string pm, .int .i32 r] w fun e w' => (∃ n : Int, e = .returned (.int .i64 n)) ∧ Below w.heap.size w w' := by
  have h0 : 0 ≤ r := by have := of_decide_eq_true ((validRune_eq r).symm.trans hv); omega
  by_cases h1 : r < 128
  · refine (Any.strings_IndexRune_ascii { Tryz.lays153 with } pm r w h0 h1).mono ?_
    rintro e w' ⟨rfl, rfl⟩
    exact ⟨⟨_, rfl⟩, Below.refl _ _⟩
  by_cases h2 : r = 65533
  · subst h2
    have B0 := Lib.hid ((Below.refl _ w).alloc (Nat.le_refl _) (.stringIter pm 0))
    have I0 : Hid ((w.iter pm 0).heap[w.heap.size]? = some (.stringIter pm 0)) := Lib.hid (World.iter_heap w pm 0)
    go_enter Tryz.func135, Tryz.ntmps135
    go_wp2_with fail
    go_loopg [5, 6] 2 (fun g _ _ wx => ∃ i : Nat, i + g = 2 ∧ Hid (wx.heap[w.heap.size]? = some (.stringIter pm i)) ∧ Hid (Below w.heap.size w wx))
    case atStart => exact ⟨0, by omega, I0, B0⟩
    case round =>
      clear I0 B0
      obtain ⟨i, hig, HI, HB⟩ := hrel
      cases gk with
      | zero =>
        obtain rfl : i = 2 := by omega
        have hnx := fun ty => next_end (P := Tryz.prog) ty HI.out (by decide)
        go_wp2_with fail
        go_ret
        exact ⟨⟨_, rfl⟩, HB.out⟩
      | succ g =>
        have hi : i < pm.size := by show i < 2; omega
        have hnx := fun ty => next_at (P := Tryz.prog) ty HI.out hi
        obtain ⟨q, hq, hq2⟩ : ∃ q : Nat, Utf8.decode pm i = (q, 1) ∧ q < 100 := by
          obtain rfl | rfl : i = 0 ∨ i = 1 := by omega
          · exact ⟨43, by decide, by decide⟩
          · exact ⟨45, by decide, by decide⟩
        rw [hq] at hnx
        dsimp only at hnx
        have hqe : ((q : Int) == 65533) = false := by rw [beq_eq_false_iff_ne]; omega
        have HN := Lib.hid (putO_at (o' := .stringIter pm (i + 1)) HI.out)
        have HB2 := Lib.hid (below_putO (.stringIter pm (i + 1)) HB.out (Nat.le_refl _))
        clear hq hi
        go_wp2_with fail
        go_roundg g
        case measure => omega
        case rel => exact ⟨i + 1, by omega, HN, HB2⟩
  · obtain ⟨e2, e4, el⟩ := encode_facts r hv (by omega)
    have VR := Lib.hid (valid_any r hv)
    have h2b : (r == 65533) = false := by rw [beq_eq_false_iff_ne]; exact h2
    have hlt : ¬ r < 128 := h1
    generalize hps : Utf8.encode r = ps at e2 e4 el
    clear hv h1 h2
    have hw1 : IntKind.i64.wrap ((ps.size : Int) - 1) = (ps.size : Int) - 1 := IntWalk.i64_in _ (by omega)
    have hwr : IntKind.i32.wrap r = r ∨ True := Or.inr trivial
    clear hwr
    by_cases h3 : ps.size = 2
    · have hlt1 : 1 < ps.size := by omega
      obtain ⟨b, hb⟩ : ∃ b : UInt8, ps[1]'hlt1 = b := ⟨_, rfl⟩
      have hb128 : 128 ≤ b.toNat := by
        have := el (by omega)
        simp only [h3] at this
        rw [← hb]; exact this
      have hne : ((((pm[1]'(by decide)).toNat : Nat) : Int) != (b.toNat : Int)) = true := by
        rw [bne_iff_ne, show (pm[1]'(by decide)).toNat = 45 from rfl]; omega
      clear hw1
      have HX : Hid (∀ W : World, Calls Tryz.prog 164 #[.string ByteArray.empty, .int .u8 (b.toNat : Int)] W fun e w' => e = .returned (.int .i64 (-1)) ∧ w' = W) := Lib.hid (fun W => idxByte_any ByteArray.empty b.toNat W)
      have hhi : (1 : Int) < 2 := by omega
      go_enter Tryz.func135, Tryz.ntmps135
      go_wp2_with (go_at_call 165; refine (VR.out _).mono ?_; rintro e w1 ⟨rfl, rfl⟩)
      go_step3
      go_wp2_with fail
      go_loopw [9] (fun i wr => i = .int .i64 1 ∧ wr = w1) (fun _ _ => 0)
      case atStart => exact ⟨by first | rfl | (rw [h3]; rfl), rfl⟩
      case round =>
        obtain ⟨rfl, rfl⟩ := hrel
        go_wp2_with fail
        go_step3
        go_wp2_with fail
        go_quiet (fail)
        go_wp2_with fail
        have BQ := Lib.hid (b_drewN (Below.refl wr.heap.size wr) nq)
        generalize wr.drewN nq = wq at BQ ⊢
        have hwx : IntKind.i64.wrap 2 = 2 := by decide
        go_quiet (exact Calls.quiet_of_same (HX.out _))
        go_wp2_with fail
        rw [Exit.noGoto_ret]
        go_big_unhide
        simp only [Exit.inBlock, Exit.noGoto, Exit.then]
        go_ret
        exact ⟨⟨_, rfl⟩, b_drewN BQ.out _⟩
    · have h3' : ¬ ((ps.size : Int) - 1 < 2) := by omega
      go_enter Tryz.func135, Tryz.ntmps135
      go_wp2_with (go_at_call 165; refine (VR.out _).mono ?_; rintro e w1 ⟨rfl, rfl⟩)
      go_step3
      go_wp2_with fail
      go_loopw [9] (fun i wr => i = .int .i64 ((ps.size : Int) - 1) ∧ wr = w1) (fun _ _ => 0)
      case atStart => exact ⟨by first | rfl | (rw [hps, hw1]) | (rw [hw1]), rfl⟩
      case round =>
        obtain ⟨rfl, rfl⟩ := hrel
        go_wp2_with fail
        rw [Exit.noGoto_ret]
        go_ret
        exact ⟨⟨_, rfl⟩, Below.refl _ _⟩
end Go.Proofs.YtgeljnjcpkmlmaaGreatDoor
