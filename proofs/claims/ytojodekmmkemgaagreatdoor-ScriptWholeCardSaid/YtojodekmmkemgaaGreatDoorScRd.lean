/- The reader of lines. Conditions: the line is short; the types' shapes lie as the program's start lays them. -/
import Derived.Test.YtojodekmmkemgaaGreatDoorScPr
import Derived.Test.YtojodekmmkemgaaGreatDoorPsS
import Derived.Test.YtojodekmmkemgaaGreatDoorRgP
import Derived.Defers
import Derived.Recover
namespace Go.Proofs.YtojodekmmkemgaaGreatDoor
open Go.RowKit Go.Shelf

theorem cut32 (l : List UInt8) : Lib.cut l [32] = (firstW l, (restW l).getD [], (restW l).isSome) := by
  have hb := cutW_back l
  have hn := firstW_no l
  obtain ⟨f, hf⟩ : ∃ f, f = firstW l := ⟨_, rfl⟩
  obtain ⟨o, ho⟩ : ∃ o, o = restW l := ⟨_, rfl⟩
  rw [← hf] at hb hn ⊢
  rw [← ho] at hb ⊢
  clear hf ho
  subst hb
  cases o with
  | none =>
    show Lib.cut (f ++ []) [32] = _
    rw [List.append_nil]
    unfold Lib.cut
    rw [Lib.index_one, indexByte_no hn, if_neg (by decide)]
    rfl
  | some r =>
    show Lib.cut (f ++ 32 :: r) [32] = _
    unfold Lib.cut
    rw [Lib.index_one, indexByte_skip r hn, if_pos (by omega)]
    simp
/-- What a reader that is wrong panics with. -/
def pvM : PanicEntry := { v := .iface 101 (.agg #[]), recovered := false }
theorem need_yes (w : World) : Calls Tryz.prog 101 #[.bool true] w fun e w' => e = .returned (.tuple #[]) ∧ w = w' := by
  go_enter Tryz.func101, Tryz.ntmps101
  go_wp2
  go_end0
  exact ⟨rfl, rfl⟩
theorem need_no (w : World) : Calls Tryz.prog 101 #[.bool false] w fun e w' => e = .panicked [pvM] ∧ w = w' := by
  go_enter Tryz.func101, Tryz.ntmps101
  go_wp2
  exact ⟨rfl, rfl, rfl⟩
/-- The reader in memory: what is left of the line; none: there is nothing any more. -/
def RdO (W : World) (R : Nat) : Option (List UInt8) → Prop
  | some l => Whole W R 105 #[.string ⟨l.toArray⟩, .bool false]
  | none => ∃ x, Whole W R 105 #[.string x, .bool true]
theorem RdO.keep {W W' : World} {R : Nat} {o : Option (List UInt8)} (h : RdO W R o) (hb : Below W.heap.size W W') : RdO W' R o := by
  cases o with
  | some l => exact Whole.keep h hb
  | none =>
    obtain ⟨x, hx⟩ := h
    exact ⟨x, hx.keep hb⟩
theorem RdO.lt {W : World} {R : Nat} {o : Option (List UInt8)} (h : RdO W R o) : R < W.heap.size := by
  cases o with
  | some l => exact Whole.lt h
  | none =>
    obtain ⟨x, hx⟩ := h
    exact hx.lt
theorem RdO.grown {W W' : World} {R : Nat} {o : Option (List UInt8)} {row : Option Nat} (h : RdO W R o) (hg : W.grownBy W' row) (hr : some R ≠ row) : RdO W' R o := by
  cases o with
  | some l => exact Whole.grown h hg hr
  | none =>
    obtain ⟨x, hx⟩ := h
    exact ⟨x, hx.grown hg hr⟩
theorem gr_trans {A B C : World} {r : Option Nat} (h : A.grownBy B r) (k : B.grownBy C r) : A.grownBy C r :=
  ⟨k.os.trans h.os, k.tape.trans h.tape, k.output.trans h.output, Nat.le_trans h.size k.size, fun b hb hr => (k.block b (Nat.lt_of_lt_of_le hb h.size) hr).trans (h.block b hb hr)⟩
theorem gr_below {A B : World} {r : Option Nat} (h : Below A.heap.size A B) : A.grownBy B r := ⟨h.os, h.tape, h.output, h.size, fun k hk _ => h.block k hk⟩
theorem gr_to {B0 : Nat} {w0 A B : World} {R : Nat} (h : A.grownBy B (some R)) (hb : Below B0 w0 A) (hR : B0 ≤ R) (hs : B0 ≤ A.heap.size) : Below B0 w0 B := hb.grown h hs (fun k e => by cases e; exact hR)
/-- What a reading call may do to memory: it turns the reader alone. -/
def GR (R : Nat) (A B : World) : Prop := A.grownBy B (some R)
theorem rd_put {w : World} {R : Nat} {a b : Value} (h : Whole w R 105 #[a, b]) (a' b' : Value) : Whole ((w.setCell ⟨R, 0, none⟩ a').setCell ⟨R, 1, none⟩ b') R 105 #[a', b'] := by
  have := (h.put 0 a').put 1 b'
  exact this
set_option maxHeartbeats 2000000 in
theorem part_yes (l : List UInt8) (R : Nat) (w : World) (hsh : w.ShapedOpen Tryz.prog) (hl : l.length ≤ 1000000) (h : RdO w R (some l)) :
    Calls Tryz.prog 100 #[.pointer (some ⟨R, 0, none⟩)] w fun e w' => e = .returned (.string ⟨(firstW l).toArray⟩) ∧ RdO w' R (restW l) ∧ GR R w w' := by
  have h : Whole w R 105 #[.string ⟨l.toArray⟩, .bool false] := h
  have CT := Tryz.strings_Cut_shaped ⟨l.toArray⟩ ⟨#[32]⟩ w hsh (by rw [Lib.size_mk]; omega)
  have CT : Calls Tryz.prog 130 #[.string ⟨l.toArray⟩, .string ⟨#[32]⟩] w fun e w' => e = .returned (.tuple #[.string ⟨(firstW l).toArray⟩, .string ⟨((restW l).getD []).toArray⟩, .bool (restW l).isSome]) ∧ ∃ q, w' = w.drewN q := CT.mono (fun e w' hh => by
    have h0 := cut32 l
    obtain ⟨he, hw⟩ := hh
    refine ⟨?_, hw⟩
    rw [he]
    show Ending.returned (.tuple #[.string ⟨(Lib.cut l [32]).1.toArray⟩, .string ⟨(Lib.cut l [32]).2.1.toArray⟩, .bool (Lib.cut l [32]).2.2]) = _
    rw [h0])
  have x0 : w.cell? ⟨R, 0, none⟩ = some (.string ⟨l.toArray⟩) := h.cell 0
  have x1 : w.cell? ⟨R, 1, none⟩ = some (.bool false) := h.cell 1
  have f0 : w.frozen? ⟨R, 0, none⟩ = false := h.fr 0
  have f1 : w.frozen? ⟨R, 1, none⟩ = false := h.fr 1
  have HW := Lib.hid (fun q => (show Whole (w.drewN q) R 105 #[.string ⟨l.toArray⟩, .bool false] from h))
  generalize (⟨(firstW l).toArray⟩ : ByteArray) = fw at CT ⊢
  have CT := Lib.hid CT
  clear h hsh hl
  generalize restW l = o at CT ⊢
  cases o with
  | some r =>
    have CT := Lib.hid CT.out
    go_enter Tryz.func100, Tryz.ntmps100
    go_wp2_with (first
      | (go_at_call 101; refine (need_yes _).mono ?_; rintro e wa ⟨rfl, rfl⟩)
      | (go_at_call 130; refine CT.out.mono ?_; rintro e wb ⟨rfl, q, rfl⟩))
    go_ret
    refine ⟨rfl, rd_put (HW.out q) (.string ⟨r.toArray⟩) (.bool false), ?_⟩
    exact grown_set (grown_set (show w.grownBy (w.drewN q) (some R) from ⟨rfl, rfl, rfl, Nat.le_refl _, fun _ _ _ => rfl⟩) 0 _) 1 _
  | none =>
    have CT := Lib.hid CT.out
    go_enter Tryz.func100, Tryz.ntmps100
    go_wp2_with (first
      | (go_at_call 101; refine (need_yes _).mono ?_; rintro e wa ⟨rfl, rfl⟩)
      | (go_at_call 130; refine CT.out.mono ?_; rintro e wb ⟨rfl, q, rfl⟩))
    go_ret
    refine ⟨rfl, ⟨_, rd_put (HW.out q) (.string ⟨#[]⟩) (.bool true)⟩, ?_⟩
    exact grown_set (grown_set (show w.grownBy (w.drewN q) (some R) from ⟨rfl, rfl, rfl, Nat.le_refl _, fun _ _ _ => rfl⟩) 0 _) 1 _
set_option maxHeartbeats 2000000 in
theorem part_no (R : Nat) (w : World) (h : RdO w R none) :
    Calls Tryz.prog 100 #[.pointer (some ⟨R, 0, none⟩)] w fun e w' => e = .panicked [pvM] ∧ w = w' := by
  obtain ⟨x, h⟩ := h
  have x1 : w.cell? ⟨R, 1, none⟩ = some (.bool true) := h.cell 1
  clear h
  go_enter Tryz.func100, Tryz.ntmps100
  go_wp2_with (go_at_call 101; refine (need_no _).mono ?_; rintro e wa ⟨rfl, rfl⟩)
  exact ⟨rfl, rfl, rfl⟩
set_option maxHeartbeats 2000000 in
theorem all_yes (l : List UInt8) (R : Nat) (w : World) (h : RdO w R (some l)) :
    Calls Tryz.prog 104 #[.pointer (some ⟨R, 0, none⟩)] w fun e w' => e = .returned (.string ⟨l.toArray⟩) ∧ RdO w' R none ∧ GR R w w' := by
  have h : Whole w R 105 #[.string ⟨l.toArray⟩, .bool false] := h
  have x0 : w.cell? ⟨R, 0, none⟩ = some (.string ⟨l.toArray⟩) := h.cell 0
  have x1 : w.cell? ⟨R, 1, none⟩ = some (.bool false) := h.cell 1
  have f1 : w.frozen? ⟨R, 1, none⟩ = false := h.fr 1
  have HW := Lib.hid h
  clear h
  go_enter Tryz.func104, Tryz.ntmps104
  go_wp2_with (go_at_call 101; refine (need_yes _).mono ?_; rintro e wa ⟨rfl, rfl⟩)
  go_ret
  exact ⟨rfl, ⟨_, HW.out.put 1 (.bool true)⟩, grown_set (World.grownBy.refl w (some R)) 1 _⟩
set_option maxHeartbeats 2000000 in
theorem all_no (R : Nat) (w : World) (h : RdO w R none) :
    Calls Tryz.prog 104 #[.pointer (some ⟨R, 0, none⟩)] w fun e w' => e = .panicked [pvM] ∧ w = w' := by
  obtain ⟨x, h⟩ := h
  have x1 : w.cell? ⟨R, 1, none⟩ = some (.bool true) := h.cell 1
  clear h
  go_enter Tryz.func104, Tryz.ntmps104
  go_wp2_with (go_at_call 101; refine (need_no _).mono ?_; rintro e wa ⟨rfl, rfl⟩)
  exact ⟨rfl, rfl, rfl⟩
end Go.Proofs.YtojodekmmkemgaaGreatDoor
