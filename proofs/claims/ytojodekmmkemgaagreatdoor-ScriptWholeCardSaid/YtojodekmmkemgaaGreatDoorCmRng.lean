/- Ranges' texts, by the program and by the reference; memory that lay stays. Condition: texts are no longer than an int can say. -/
import Derived.Test.YtojodekmmkemgaaGreatDoorEnds
import Derived.Test.YtojodekmmkemgaaGreatDoorPlS
import Derived.Laws.Concat
namespace Go.Proofs.YtojodekmmkemgaaGreatDoor.Rg
open Go.RowKit

theorem okS_sz {x : ByteArray} (h : okS x = true) : x.size ≤ 16 := by
  unfold okS at h
  rw [Bool.or_eq_true, ByteArray.toList_eq] at h
  rw [Lib.size_eq]
  rcases h with h | h
  · have : x.data.toList = [] := by simpa using h
    rw [this]; decide
  · unfold isName at h
    simp only [Bool.and_eq_true, decide_eq_true_eq] at h
    exact h.2.1
theorem add_any (a b : ByteArray) (h : a.size + b.size ≤ 9223372036854775807) : ∃ c : ByteArray, c.data.toList = a.data.toList ++ b.data.toList ∧ c.size = a.size + b.size ∧ ∀ W : World, (Op.stringOp .add a b).run Tryz.prog W = .ok (.string c) W :=
  ⟨a ++ b, by simp, by simp, fun W => run_string_add_sum (P := Tryz.prog) (w := W) a b h⟩

set_option maxHeartbeats 4000000 in
theorem text_yes (f t : ByteArray) (w : World) (h : okR f t = true) :
    Calls Tryz.prog 57 #[.agg #[.string f, .string t]] w fun e w' => (∃ x : ByteArray, x.data.toList = rtxt f.data.toList t.data.toList ∧ e = .returned (.tuple #[.string x, .int .i64 0])) ∧ Below w.heap.size w w' := by
  have s1 := okS_sz (okR_left h)
  have s2 := okS_sz (okR_right h)
  have CK := fun W => check_any f t W (by omega) (by omega)
  rw [h] at CK
  simp only [ckI] at CK
  obtain ⟨c1, e1, z1, q1⟩ := add_any ⟨#[91]⟩ f (by show 1 + f.size ≤ _; omega)
  obtain ⟨c2, e2, z2, q2⟩ := add_any c1 ⟨#[44]⟩ (by rw [z1]; show 1 + f.size + 1 ≤ _; omega)
  obtain ⟨c3, e3, z3, q3⟩ := add_any c2 t (by rw [z2, z1]; show 1 + f.size + 1 + t.size ≤ _; omega)
  obtain ⟨c4, e4, z4, q4⟩ := add_any c3 ⟨#[41]⟩ (by rw [z3, z2, z1]; show 1 + f.size + 1 + t.size + 1 ≤ _; omega)
  have HX := Lib.hid (show c4.data.toList = rtxt f.data.toList t.data.toList by rw [e4, e3, e2, e1]; unfold rtxt; simp)
  have A0 := Whole.new w 29 #[.string f, .string t]
  have b0 := (Below.refl w.heap.size w).alloc (Nat.le_refl _) (.cells #[.string f, .string t] 29)
  clear e1 e2 e3 e4 z1 z2 z3 z4 h s1 s2
  go_enter Tryz.func57, Tryz.ntmps57
  go_wp2_with fail
  refine (CK _).mono ?_
  rintro e w1 ⟨rfl, hb⟩
  have x0 := (A0.below hb A0.lt).cell 0
  have x1 := (A0.below hb A0.lt).cell 1
  simp only [List.getElem?_toArray, List.getElem?_cons_succ, List.getElem?_cons_zero] at x0 x1
  go_wp2_with fail
  go_ret2
  exact ⟨⟨c4, HX.out, rfl⟩, b0.trans (hb.mono b0.size)⟩
set_option maxHeartbeats 4000000 in
theorem text_no (f t : ByteArray) (w : World) (hf : f.size ≤ 9223372036854775807) (ht : t.size ≤ 9223372036854775807) (h : okR f t = false) :
    Calls Tryz.prog 57 #[.agg #[.string f, .string t]] w fun e w' => e = .returned (.tuple #[.string ⟨#[]⟩, .int .i64 2]) ∧ Below w.heap.size w w' := by
  have CK := fun W => check_any f t W hf ht
  rw [h] at CK
  simp only [ckI] at CK
  have b0 := (Below.refl w.heap.size w).alloc (Nat.le_refl _) (.cells #[.string f, .string t] 29)
  go_enter Tryz.func57, Tryz.ntmps57
  go_wp2_with fail
  refine (CK _).mono ?_
  rintro e w1 ⟨rfl, hb⟩
  go_wp2_with fail
  go_ret2
  exact ⟨rfl, b0.trans (hb.mono b0.size)⟩
set_option maxHeartbeats 4000000 in
theorem refText_yes (f t : ByteArray) (w : World) (h : okR f t = true) :
    Calls Tryz.prog 61 #[.agg #[.string f, .string t]] w fun e w' => (∃ x : ByteArray, x.data.toList = rtxt f.data.toList t.data.toList ∧ e = .returned (.tuple #[.string x, .int .i64 0])) ∧ Below w.heap.size w w' := by
  have s1 := okS_sz (okR_left h)
  have s2 := okS_sz (okR_right h)
  have CK := fun W => refCheck_any f t W (by omega) (by omega)
  rw [h] at CK
  simp only [ckI] at CK
  obtain ⟨c1, e1, z1, q1⟩ := add_any ⟨#[91]⟩ f (by show 1 + f.size ≤ _; omega)
  obtain ⟨c2, e2, z2, q2⟩ := add_any c1 ⟨#[44]⟩ (by rw [z1]; show 1 + f.size + 1 ≤ _; omega)
  obtain ⟨c3, e3, z3, q3⟩ := add_any c2 t (by rw [z2, z1]; show 1 + f.size + 1 + t.size ≤ _; omega)
  obtain ⟨c4, e4, z4, q4⟩ := add_any c3 ⟨#[41]⟩ (by rw [z3, z2, z1]; show 1 + f.size + 1 + t.size + 1 ≤ _; omega)
  have HX := Lib.hid (show c4.data.toList = rtxt f.data.toList t.data.toList by rw [e4, e3, e2, e1]; unfold rtxt; simp)
  have A0 := Whole.new w 29 #[.string f, .string t]
  have b0 := (Below.refl w.heap.size w).alloc (Nat.le_refl _) (.cells #[.string f, .string t] 29)
  clear e1 e2 e3 e4 z1 z2 z3 z4 h s1 s2
  go_enter Tryz.func61, Tryz.ntmps61
  go_wp2_with fail
  refine (CK _).mono ?_
  rintro e w1 ⟨rfl, hb⟩
  have x0 := (A0.below hb A0.lt).cell 0
  have x1 := (A0.below hb A0.lt).cell 1
  simp only [List.getElem?_toArray, List.getElem?_cons_succ, List.getElem?_cons_zero] at x0 x1
  go_wp2_with fail
  go_ret2
  exact ⟨⟨c4, HX.out, rfl⟩, b0.trans (hb.mono b0.size)⟩
set_option maxHeartbeats 4000000 in
theorem refText_no (f t : ByteArray) (w : World) (hf : f.size ≤ 9223372036854775807) (ht : t.size ≤ 9223372036854775807) (h : okR f t = false) :
    Calls Tryz.prog 61 #[.agg #[.string f, .string t]] w fun e w' => e = .returned (.tuple #[.string ⟨#[]⟩, .int .i64 2]) ∧ Below w.heap.size w w' := by
  have CK := fun W => refCheck_any f t W hf ht
  rw [h] at CK
  simp only [ckI] at CK
  have b0 := (Below.refl w.heap.size w).alloc (Nat.le_refl _) (.cells #[.string f, .string t] 29)
  go_enter Tryz.func61, Tryz.ntmps61
  go_wp2_with fail
  refine (CK _).mono ?_
  rintro e w1 ⟨rfl, hb⟩
  go_wp2_with fail
  go_ret2
  exact ⟨rfl, b0.trans (hb.mono b0.size)⟩
end Go.Proofs.YtojodekmmkemgaaGreatDoor.Rg
