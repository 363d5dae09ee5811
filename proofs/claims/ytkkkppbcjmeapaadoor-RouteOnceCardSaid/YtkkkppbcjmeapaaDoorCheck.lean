/- What Check of ranges and of the reference return: whether the range is allowed; memory that lay stays. Condition: the ends are no longer than an int can say. -/
import Derived.Test.YtkkkppbcjmeapaaDoorName
import Derived.Test.YtkkkppbcjmeapaaDoorRefName
import Derived.Test.YtkkkppbcjmeapaaDoorRtA
import Derived.Test.YtkkkppbcjmeapaaDoorWhole
namespace Go.Proofs.YtkkkppbcjmeapaaDoor
open Go.RowKit

theorem okR_no1 {f t : ByteArray} (h : okS f = false) : okR f t = false := by unfold okR; rw [h]; rfl
theorem okR_no2 {f t : ByteArray} (h : okS t = false) : okR f t = false := by unfold okR; rw [h]; simp
theorem okR_val {f t : ByteArray} (h1 : okS f = true) (h2 : okS t = true) : okR f t = !(!(t.toList == ([] : List UInt8)) && (Op.bytesLess t.toList f.toList || t.toList == f.toList)) := by
  obtain ⟨g, R⟩ := ranks [f, t]
  rw [okR_num R (by simp) (by simp), h1, h2, R.em t (by simp), R.lt t (by simp) f (by simp), R.eq t (by simp) f (by simp), Bool.eq_iff_iff]
  simp only [Bool.true_and, nb_iff, Bool.and_eq_true, Bool.or_eq_true, decide_eq_true_eq]
  omega

theorem okS_em {f : ByteArray} (h : (f.toList == ([] : List UInt8)) = true) : okS f = true := by unfold okS; rw [h]; rfl
theorem okS_nm {f : ByteArray} {b : Bool} (h : (f.toList == ([] : List UInt8)) = false) (h2 : isName f.data.toList = b) : okS f = b := by unfold okS; rw [h, h2]; rfl

set_option maxHeartbeats 4000000 in
theorem check_any (f t : ByteArray) (w : World) (hf : f.size ≤ 9223372036854775807) (ht : t.size ≤ 9223372036854775807) :
    Calls Tryd.prog 46 #[.agg #[.string f, .string t]] w fun e w' => e = .returned (.int .i64 (ckI (okR f t))) ∧ Below w.heap.size w w' := by
  have C1 := Lib.hid (fun W => name_any f W hf)
  have C2 := Lib.hid (fun W => name_any t W ht)
  generalize hq : ckI (okR f t) = q
  have HQ := Lib.hid hq
  clear hq
  have b1 := ((Below.refl w.heap.size w).alloc (Nat.le_refl _) (.cells #[.string f, .string t] 30)).alloc (by simp) (.cells #[.string f, .string t] 9)
  have e1 := (Whole.new w 30 #[.string f, .string t]).alloc (.cells #[.string f, .string t] 9)
  have f1 := Whole.new (w.alloc (.cells #[.string f, .string t] 30)) 9 #[.string f, .string t]
  rw [World.size_alloc] at f1
  go_enter Tryd.func46, Tryd.ntmps46
  go_wp2_with fail
  go_loopw [11] (fun v wr => Below w.heap.size w wr ∧ Whole wr w.heap.size 30 #[.string f, .string t] ∧ Whole wr (w.heap.size + 1) 9 #[.string f, .string t] ∧ (v = .int .i64 0 ∨ (v = .int .i64 1 ∧ Hid (okS f = true)) ∨ (v = .int .i64 2 ∧ Hid (okS f = true ∧ okS t = true)))) (fun v _ => (2 - intOf v).toNat)
  case atStart => exact ⟨b1, e1, f1, Or.inl rfl⟩
  case round =>
    clear b1 e1 f1
    obtain ⟨b2, e2, f2, hrel⟩ := hrel
    have x0 := e2.cell 0
    have x1 := e2.cell 1
    have y0 := f2.cell 0
    have y1 := f2.cell 1
    simp only [List.getElem?_toArray, List.getElem?_cons_succ, List.getElem?_cons_zero] at x0 x1 y0 y1
    rcases hrel with rfl | ⟨rfl, h1⟩ | ⟨rfl, h12⟩
    · cases hE : (f.toList == ([] : List UInt8)) with
      | true =>
        have hok := Lib.hid (okS_em hE)
        go_wp2_with fail
        go_roundw
        case rel => exact ⟨b2, e2, f2, Or.inr (Or.inl ⟨by go_num, hok⟩)⟩
        case measure => simp [intOf]
      | false =>
        cases hN : isName f.data.toList with
        | true =>
          have hok := Lib.hid (okS_nm hE hN)
          rw [hN] at C1
          go_wp2_with fail
          refine (C1.out _).mono ?_
          rintro e w3 ⟨rfl, hb⟩
          go_wp2_with fail
          go_roundw
          case rel => exact ⟨b2.trans (hb.mono b2.size), e2.below hb e2.lt, f2.below hb f2.lt, Or.inr (Or.inl ⟨by go_num, hok⟩)⟩
          case measure => simp [intOf]
        | false =>
          have hno := Lib.hid (okR_no1 (okS_nm hE hN) : okR f t = false)
          rw [hN] at C1
          go_wp2_with fail
          refine (C1.out _).mono ?_
          rintro e w3 ⟨rfl, hb⟩
          go_wp2_with fail
          go_ret
          exact ⟨by rw [← HQ.out, hno.out]; rfl, b2.trans (hb.mono b2.size)⟩
    · cases hE : (t.toList == ([] : List UInt8)) with
      | true =>
        have hok := Lib.hid (okS_em hE)
        go_wp2_with fail
        go_roundw
        case rel => exact ⟨b2, e2, f2, Or.inr (Or.inr ⟨by go_num, Lib.hid ⟨h1.out, hok.out⟩⟩)⟩
        case measure => simp [intOf]
      | false =>
        cases hN : isName t.data.toList with
        | true =>
          have hok := Lib.hid (okS_nm hE hN)
          rw [hN] at C2
          go_wp2_with fail
          refine (C2.out _).mono ?_
          rintro e w3 ⟨rfl, hb⟩
          go_wp2_with fail
          go_roundw
          case rel => exact ⟨b2.trans (hb.mono b2.size), e2.below hb e2.lt, f2.below hb f2.lt, Or.inr (Or.inr ⟨by go_num, Lib.hid ⟨h1.out, hok.out⟩⟩)⟩
          case measure => simp [intOf]
        | false =>
          have hno := Lib.hid (okR_no2 (okS_nm hE hN) : okR f t = false)
          rw [hN] at C2
          go_wp2_with fail
          refine (C2.out _).mono ?_
          rintro e w3 ⟨rfl, hb⟩
          go_wp2_with fail
          go_ret
          exact ⟨by rw [← HQ.out, hno.out]; rfl, b2.trans (hb.mono b2.size)⟩
    · have hv := Lib.hid (okR_val h12.out.1 h12.out.2)
      clear C1 C2 h12 y0 y1 f2
      cases hE : (t.toList == ([] : List UInt8)) with
      | true =>
        go_wp2_with fail
        go_ret
        exact ⟨by rw [← HQ.out, hv.out, hE]; rfl, b2⟩
      | false =>
        cases hL : Op.bytesLess t.toList f.toList <;> cases hS : (t.toList == f.toList)
        all_goals
          go_wp2_with fail
          go_ret
          exact ⟨by rw [← HQ.out, hv.out, hE, hL, hS]; rfl, b2⟩
end Go.Proofs.YtkkkppbcjmeapaaDoor
