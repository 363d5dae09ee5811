/- Whether a range has a key, and what a text is read as, by the reference; memory that lay stays. Condition: the texts are no longer than an int can say. -/
import Derived.Test.YtkkkppbcjmeapaaDoorHas
import Derived.Test.YtkkkppbcjmeapaaDoorAB
namespace Go.Proofs.YtkkkppbcjmeapaaDoor
open Go.RowKit

theorem hasR_ref (f t k : ByteArray) : hasR f t k = (okR f t && (isName k.data.toList && (!Op.bytesLess k.toList f.toList && (t.toList == ([] : List UInt8) || Op.bytesLess k.toList t.toList)))) := by
  unfold hasR
  cases hn : isName k.data.toList with
  | false => simp
  | true =>
    obtain ⟨g, R⟩ := ranks [f, t, k]
    have hp := name_pos R (x := k) (by simp) hn
    rw [endLt_num R (by simp) (by simp), R.lt k (by simp) f (by simp), R.em t (by simp), R.lt k (by simp) t (by simp)]
    congr 3
    rw [Bool.eq_iff_iff]
    simp only [Bool.or_eq_true, decide_eq_true_eq]
    omega

set_option maxHeartbeats 4000000 in
theorem refHas_any (f t k : ByteArray) (w : World) (hf : f.size ≤ 9223372036854775807) (ht : t.size ≤ 9223372036854775807) (hk : k.size ≤ 9223372036854775807) :
    Calls Tryd.prog 91 #[.agg #[.string f, .string t], .string k] w fun e w' => e = .returned (.bool (hasR f t k)) ∧ Below w.heap.size w w' := by
  have e1 := Whole.new w 30 #[.string f, .string t]
  have b1 := (Below.refl w.heap.size w).alloc (Nat.le_refl _) (.cells #[.string f, .string t] 30)
  have hN := fun W => refName_any k W hk
  have hC := fun W => refCheck_any f t W hf ht
  have hq := hasR_ref f t k
  generalize hasR f t k = q at hq
  generalize isName k.data.toList = m at hq hN
  generalize okR f t = o at hq hC
  cases o <;> cases m <;> cases hl : Op.bytesLess k.toList f.toList <;> cases he : (t.toList == ([] : List UInt8)) <;> cases hn : Op.bytesLess k.toList t.toList
  all_goals
    have HQ := Lib.hid (hq.trans (by rw [hl, he, hn]) : q = _)
    clear hq
    simp only [ckI] at hC
    go_enter Tryd.func91, Tryd.ntmps91
    go_wp2_with fail
    refine (hC _).mono ?_
    rintro e w1 ⟨rfl, hb⟩
    have b2 := b1.trans (hb.mono b1.size)
    have x0 := (e1.below hb e1.lt).cell 0
    have x1 := (e1.below hb e1.lt).cell 1
    simp only [List.getElem?_toArray, List.getElem?_cons_succ, List.getElem?_cons_zero] at x0 x1
    clear e1 b1 hb hC
    go_wp2_with (go_at_call 79; refine (hN _).mono ?_; rintro e w2 ⟨rfl, rfl⟩)
    go_ret
    exact ⟨by rw [HQ.out]; rfl, b2⟩

end Go.Proofs.YtkkkppbcjmeapaaDoor
