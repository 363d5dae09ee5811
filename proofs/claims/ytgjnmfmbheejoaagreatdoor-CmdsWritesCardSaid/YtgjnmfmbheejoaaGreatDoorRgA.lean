/- Merged by program: Check, Ends, CmRng. -/
import Derived.Test.YtgjnmfmbheejoaaGreatDoorBaA
import Derived.Test.YtgjnmfmbheejoaaGreatDoorPlC
import Derived.Laws.Concat
namespace Go.Proofs.YtgjnmfmbheejoaaGreatDoor.Rg
section
open Go.RowKit

theorem okR_no1 {f t : ByteArray} (h : okS f = false) : okR f t = false := by unfold okR; rw [h]; rfl
theorem okR_no2 {f t : ByteArray} (h : okS t = false) : okR f t = false := by unfold okR; rw [h]; simp
theorem okR_val {f t : ByteArray} (h1 : okS f = true) (h2 : okS t = true) : okR f t = !(!(t.toList == ([] : List UInt8)) && (Op.bytesLess t.toList f.toList || t.toList == f.toList)) := by
  obtain ⟨g, R⟩ := ranks [f, t]
  rw [okR_num R (by simp) (by simp), h1, h2, R.em t (by simp), R.lt t (by simp) f (by simp), R.eq t (by simp) f (by simp), Bool.eq_iff_iff]
  simp only [Bool.true_and, nb_iff, Bool.and_eq_true, Bool.or_eq_true, decide_eq_true_eq]
  omega

theorem okS_em {f : ByteArray} (h : (f.toList == ([] : List UInt8)) = true) : okS f = true := by unfold okS; rw [h]; rfl
theorem okS_nm {f : ByteArray} {b : Bool} (h : (f.toList == ([] : List UInt8)) = false) (h2 : isName f.data.toList = b) : okS f = b := by unfold okS; rw [h, h2]; rfl

set_option maxHeartbeats 4000000 in
theorem check_any (f t : ByteArray) (w : World) (hf : f.size ≤ 9223372036854775807) (ht : t.size ≤ 9223372036854775807) :
    Calls Tryz.prog 172 #[.agg #[.string f, .string t]] w fun e w' => e = .returned (.int .i64 (ckI (okR f t))) ∧ Below w.heap.size w w' := by
  have C1 := Lib.hid (fun W => name_any f W hf)
  have C2 := Lib.hid (fun W => name_any t W ht)
  generalize hq : ckI (okR f t) = q
  have HQ := Lib.hid hq
  clear hq
  have b1 := ((Below.refl w.heap.size w).alloc (Nat.le_refl _) (.cells #[.string f, .string t] 28)).alloc (by simp) (.cells #[.string f, .string t] 9)
  have e1 := (Whole.new w 28 #[.string f, .string t]).alloc (.cells #[.string f, .string t] 9)
  have f1 := Whole.new (w.alloc (.cells #[.string f, .string t] 28)) 9 #[.string f, .string t]
  rw [World.size_alloc] at f1
  go_enter Tryz.func172, Tryz.ntmps172
  go_wp2_with fail
  go_loopw [11] (fun v wr => Below w.heap.size w wr ∧ Whole wr w.heap.size 28 #[.string f, .string t] ∧ Whole wr (w.heap.size + 1) 9 #[.string f, .string t] ∧ (v = .int .i64 0 ∨ (v = .int .i64 1 ∧ Hid (okS f = true)) ∨ (v = .int .i64 2 ∧ Hid (okS f = true ∧ okS t = true)))) (fun v _ => (2 - intOf v).toNat)
  case atStart => exact ⟨b1, e1, f1, Or.inl rfl⟩
  case round =>
    clear b1 e1 f1
    obtain ⟨b2, e2, f2, hrel⟩ := hrel
    have x0 := e2.cell 0
    have x1 := e2.cell 1
    have y0 := f2.cell 0
    have y1 := f2.cell 1
    simp only [List.getElem?_toArray, List.getElem?_cons_succ, List.getElem?_cons_zero] at x0 x1 y0 y1
    rcases hrel with rfl | ⟨rfl, h1⟩ | ⟨rfl, h12⟩
    · cases hE : (f.toList == ([] : List UInt8)) with
      | true =>
        have hok := Lib.hid (okS_em hE)
        go_wp2_with fail
        go_roundw
        case rel => exact ⟨b2, e2, f2, Or.inr (Or.inl ⟨by go_num, hok⟩)⟩
        case measure => simp [intOf]
      | false =>
        cases hN : isName f.data.toList with
        | true =>
          have hok := Lib.hid (okS_nm hE hN)
          rw [hN] at C1
          go_wp2_with fail
          refine (C1.out _).mono ?_
          rintro e w3 ⟨rfl, hb⟩
          go_wp2_with fail
          go_roundw
          case rel => exact ⟨b2.trans (hb.mono b2.size), e2.below hb e2.lt, f2.below hb f2.lt, Or.inr (Or.inl ⟨by go_num, hok⟩)⟩
          case measure => simp [intOf]
        | false =>
          have hno := Lib.hid (okR_no1 (okS_nm hE hN) : okR f t = false)
          rw [hN] at C1
          go_wp2_with fail
          refine (C1.out _).mono ?_
          rintro e w3 ⟨rfl, hb⟩
          go_wp2_with fail
          go_ret
          exact ⟨by rw [← HQ.out, hno.out]; rfl, b2.trans (hb.mono b2.size)⟩
    · cases hE : (t.toList == ([] : List UInt8)) with
      | true =>
        have hok := Lib.hid (okS_em hE)
        go_wp2_with fail
        go_roundw
        case rel => exact ⟨b2, e2, f2, Or.inr (Or.inr ⟨by go_num, Lib.hid ⟨h1.out, hok.out⟩⟩)⟩
        case measure => simp [intOf]
      | false =>
        cases hN : isName t.data.toList with
        | true =>
          have hok := Lib.hid (okS_nm hE hN)
          rw [hN] at C2
          go_wp2_with fail
          refine (C2.out _).mono ?_
          rintro e w3 ⟨rfl, hb⟩
          go_wp2_with fail
          go_roundw
          case rel => exact ⟨b2.trans (hb.mono b2.size), e2.below hb e2.lt, f2.below hb f2.lt, Or.inr (Or.inr ⟨by go_num, Lib.hid ⟨h1.out, hok.out⟩⟩)⟩
          case measure => simp [intOf]
        | false =>
          have hno := Lib.hid (okR_no2 (okS_nm hE hN) : okR f t = false)
          rw [hN] at C2
          go_wp2_with fail
          refine (C2.out _).mono ?_
          rintro e w3 ⟨rfl, hb⟩
          go_wp2_with fail
          go_ret
          exact ⟨by rw [← HQ.out, hno.out]; rfl, b2.trans (hb.mono b2.size)⟩
    · have hv := Lib.hid (okR_val h12.out.1 h12.out.2)
      clear C1 C2 h12 y0 y1 f2
      cases hE : (t.toList == ([] : List UInt8)) with
      | true =>
        go_wp2_with fail
        go_ret
        exact ⟨by rw [← HQ.out, hv.out, hE]; rfl, b2⟩
      | false =>
        cases hL : Op.bytesLess t.toList f.toList <;> cases hS : (t.toList == f.toList)
        all_goals
          go_wp2_with fail
          go_ret
          exact ⟨by rw [← HQ.out, hv.out, hE, hL, hS]; rfl, b2⟩
end
section
open Go.RowKit

theorem okR_val2 {f t : ByteArray} (h1 : okS f = true) (h2 : okS t = true) : okR f t = !(!(t.toList == ([] : List UInt8)) && !Op.bytesLess f.toList t.toList) := by
  obtain ⟨g, R⟩ := ranks [f, t]
  rw [okR_num R (by simp) (by simp), h1, h2, R.em t (by simp), R.lt f (by simp) t (by simp), Bool.eq_iff_iff]
  simp only [Bool.true_and, nb_iff, Bool.and_eq_true, decide_eq_true_eq]
  omega

set_option maxHeartbeats 4000000 in
theorem refCheck_any (f t : ByteArray) (w : World) (hf : f.size ≤ 9223372036854775807) (ht : t.size ≤ 9223372036854775807) :
    Calls Tryz.prog 134 #[.agg #[.string f, .string t]] w fun e w' => e = .returned (.int .i64 (ckI (okR f t))) ∧ Below w.heap.size w w' := by
  have b1 := (Below.refl w.heap.size w).alloc (Nat.le_refl _) (.cells #[.string f, .string t] 28)
  have hq : okR f t = ((f.toList == ([] : List UInt8) || isName f.data.toList) && ((t.toList == ([] : List UInt8) || isName t.data.toList) && (t.toList == ([] : List UInt8) || Op.bytesLess f.toList t.toList))) := rfl
  generalize okR f t = q at hq
  cases hE : (f.toList == ([] : List UInt8)) <;> cases hN : isName f.data.toList <;> cases hF : (t.toList == ([] : List UInt8)) <;> cases hM : isName t.data.toList <;> cases hL : Op.bytesLess f.toList t.toList
  all_goals
    rw [hE, hN, hF, hM, hL] at hq
    have HQ := Lib.hid hq
    clear hq
    go_enter Tryz.func134, Tryz.ntmps134
    go_wp2_with (go_at_call 137; refine (refName_any _ _ (by assumption)).mono ?_; rintro e w1 ⟨rfl, rfl⟩)
    go_ret
    exact ⟨by rw [HQ.out]; rfl, b1⟩

end
section
open Go.RowKit

theorem okS_sz {x : ByteArray} (h : okS x = true) : x.size ≤ 16 := by
  unfold okS at h
  rw [Bool.or_eq_true, ByteArray.toList_eq] at h
  rw [Lib.size_eq]
  rcases h with h | h
  · have : x.data.toList = [] := by simpa using h
    rw [this]; decide
  · unfold isName at h
    simp only [Bool.and_eq_true, decide_eq_true_eq] at h
    exact h.2.1
theorem add_any (a b : ByteArray) (h : a.size + b.size ≤ 9223372036854775807) : ∃ c : ByteArray, c.data.toList = a.data.toList ++ b.data.toList ∧ c.size = a.size + b.size ∧ ∀ W : World, (Op.stringOp .add a b).run Tryz.prog W = .ok (.string c) W :=
  ⟨a ++ b, by simp, by simp, fun W => run_string_add_sum (P := Tryz.prog) (w := W) a b h⟩

set_option maxHeartbeats 4000000 in
theorem text_yes (f t : ByteArray) (w : World) (h : okR f t = true) :
    Calls Tryz.prog 176 #[.agg #[.string f, .string t]] w fun e w' => (∃ x : ByteArray, x.data.toList = rtxt f.data.toList t.data.toList ∧ e = .returned (.tuple #[.string x, .int .i64 0])) ∧ Below w.heap.size w w' := by
  have s1 := okS_sz (okR_left h)
  have s2 := okS_sz (okR_right h)
  have CK := fun W => check_any f t W (by omega) (by omega)
  rw [h] at CK
  simp only [ckI] at CK
  obtain ⟨c1, e1, z1, q1⟩ := add_any ⟨#[91]⟩ f (by show 1 + f.size ≤ _; omega)
  obtain ⟨c2, e2, z2, q2⟩ := add_any c1 ⟨#[44]⟩ (by rw [z1]; show 1 + f.size + 1 ≤ _; omega)
  obtain ⟨c3, e3, z3, q3⟩ := add_any c2 t (by rw [z2, z1]; show 1 + f.size + 1 + t.size ≤ _; omega)
  obtain ⟨c4, e4, z4, q4⟩ := add_any c3 ⟨#[41]⟩ (by rw [z3, z2, z1]; show 1 + f.size + 1 + t.size + 1 ≤ _; omega)
  have HX := Lib.hid (show c4.data.toList = rtxt f.data.toList t.data.toList by rw [e4, e3, e2, e1]; unfold rtxt; simp)
  have A0 := Whole.new w 28 #[.string f, .string t]
  have b0 := (Below.refl w.heap.size w).alloc (Nat.le_refl _) (.cells #[.string f, .string t] 28)
  clear e1 e2 e3 e4 z1 z2 z3 z4 h s1 s2
  go_enter Tryz.func176, Tryz.ntmps176
  go_wp2_with fail
  refine (CK _).mono ?_
  rintro e w1 ⟨rfl, hb⟩
  have x0 := (A0.below hb A0.lt).cell 0
  have x1 := (A0.below hb A0.lt).cell 1
  simp only [List.getElem?_toArray, List.getElem?_cons_succ, List.getElem?_cons_zero] at x0 x1
  go_wp2_with fail
  go_ret2
  exact ⟨⟨c4, HX.out, rfl⟩, b0.trans (hb.mono b0.size)⟩
set_option maxHeartbeats 4000000 in
theorem text_no (f t : ByteArray) (w : World) (hf : f.size ≤ 9223372036854775807) (ht : t.size ≤ 9223372036854775807) (h : okR f t = false) :
    Calls Tryz.prog 176 #[.agg #[.string f, .string t]] w fun e w' => e = .returned (.tuple #[.string ⟨#[]⟩, .int .i64 2]) ∧ Below w.heap.size w w' := by
  have CK := fun W => check_any f t W hf ht
  rw [h] at CK
  simp only [ckI] at CK
  have b0 := (Below.refl w.heap.size w).alloc (Nat.le_refl _) (.cells #[.string f, .string t] 28)
  go_enter Tryz.func176, Tryz.ntmps176
  go_wp2_with fail
  refine (CK _).mono ?_
  rintro e w1 ⟨rfl, hb⟩
  go_wp2_with fail
  go_ret2
  exact ⟨rfl, b0.trans (hb.mono b0.size)⟩
set_option maxHeartbeats 4000000 in
theorem refText_yes (f t : ByteArray) (w : World) (h : okR f t = true) :
    Calls Tryz.prog 78 #[.agg #[.string f, .string t]] w fun e w' => (∃ x : ByteArray, x.data.toList = rtxt f.data.toList t.data.toList ∧ e = .returned (.tuple #[.string x, .int .i64 0])) ∧ Below w.heap.size w w' := by
  have s1 := okS_sz (okR_left h)
  have s2 := okS_sz (okR_right h)
  have CK := fun W => refCheck_any f t W (by omega) (by omega)
  rw [h] at CK
  simp only [ckI] at CK
  obtain ⟨c1, e1, z1, q1⟩ := add_any ⟨#[91]⟩ f (by show 1 + f.size ≤ _; omega)
  obtain ⟨c2, e2, z2, q2⟩ := add_any c1 ⟨#[44]⟩ (by rw [z1]; show 1 + f.size + 1 ≤ _; omega)
  obtain ⟨c3, e3, z3, q3⟩ := add_any c2 t (by rw [z2, z1]; show 1 + f.size + 1 + t.size ≤ _; omega)
  obtain ⟨c4, e4, z4, q4⟩ := add_any c3 ⟨#[41]⟩ (by rw [z3, z2, z1]; show 1 + f.size + 1 + t.size + 1 ≤ _; omega)
  have HX := Lib.hid (show c4.data.toList = rtxt f.data.toList t.data.toList by rw [e4, e3, e2, e1]; unfold rtxt; simp)
  have A0 := Whole.new w 28 #[.string f, .string t]
  have b0 := (Below.refl w.heap.size w).alloc (Nat.le_refl _) (.cells #[.string f, .string t] 28)
  clear e1 e2 e3 e4 z1 z2 z3 z4 h s1 s2
  go_enter Tryz.func78, Tryz.ntmps78
  go_wp2_with fail
  refine (CK _).mono ?_
  rintro e w1 ⟨rfl, hb⟩
  have x0 := (A0.below hb A0.lt).cell 0
  have x1 := (A0.below hb A0.lt).cell 1
  simp only [List.getElem?_toArray, List.getElem?_cons_succ, List.getElem?_cons_zero] at x0 x1
  go_wp2_with fail
  go_ret2
  exact ⟨⟨c4, HX.out, rfl⟩, b0.trans (hb.mono b0.size)⟩
set_option maxHeartbeats 4000000 in
theorem refText_no (f t : ByteArray) (w : World) (hf : f.size ≤ 9223372036854775807) (ht : t.size ≤ 9223372036854775807) (h : okR f t = false) :
    Calls Tryz.prog 78 #[.agg #[.string f, .string t]] w fun e w' => e = .returned (.tuple #[.string ⟨#[]⟩, .int .i64 2]) ∧ Below w.heap.size w w' := by
  have CK := fun W => refCheck_any f t W hf ht
  rw [h] at CK
  simp only [ckI] at CK
  have b0 := (Below.refl w.heap.size w).alloc (Nat.le_refl _) (.cells #[.string f, .string t] 28)
  go_enter Tryz.func78, Tryz.ntmps78
  go_wp2_with fail
  refine (CK _).mono ?_
  rintro e w1 ⟨rfl, hb⟩
  go_wp2_with fail
  go_ret2
  exact ⟨rfl, b0.trans (hb.mono b0.size)⟩
end
end Go.Proofs.YtgjnmfmbheejoaaGreatDoor.Rg
