/- RangesBack returns true; memory that lay stays. Condition: the types' shapes lie as the program's start lays them. -/
import Derived.Test.YthngliafkhalfaaDoorRText
import Derived.Test.YthngliafkhalfaaDoorLKeys
namespace Go.Proofs.YthngliafkhalfaaDoor
open Go.RowKit

/-- One range that a statement has boxed. -/
def A1 (w0 w : World) (f t : ByteArray) : Prop := Below w0.heap.size w0 w ∧ Whole w w0.heap.size 23 #[.string f, .string t]
section
variable {w0 w w' : World} {f t : ByteArray}
theorem A1.below (h : A1 w0 w f t) (hb : Below w.heap.size w w') : A1 w0 w' f t := ⟨h.1.trans (hb.mono h.1.size), h.2.below hb h.2.lt⟩
theorem A1.alloc (h : A1 w0 w f t) (o : Obj) : A1 w0 (w.alloc o) f t := h.below ((Below.refl _ _).alloc (Nat.le_refl _) o)
theorem A1.c0 (h : A1 w0 w f t) : w.cell? ⟨w0.heap.size, 0, none⟩ = some (.string f) := h.2.cell 0
theorem A1.c1 (h : A1 w0 w f t) : w.cell? ⟨w0.heap.size, 1, none⟩ = some (.string t) := h.2.cell 1
theorem A1.last (h : A1 w0 w f t) (hb : Below w.heap.size w w') : Below w0.heap.size w0 w' := h.1.trans (hb.mono h.1.size)
theorem A1.shaped {P : Program} (h : A1 w0 w f t) (hs : w0.ShapedOpen P) : w.ShapedOpen P := shaped_below hs h.1
end
theorem A1.start (w : World) (f t : ByteArray) : A1 w (w.alloc (.cells #[.string f, .string t] 23)) f t := ⟨(Below.refl w.heap.size w).alloc (Nat.le_refl _) _, Whole.new w _ _⟩

set_option maxRecDepth 100000 in
set_option maxHeartbeats 16000000 in
theorem back_walk (f t s : ByteArray) (w : World) (hf : f.size ≤ 9223372036854775807) (ht : t.size ≤ 9223372036854775807) (hsh : w.ShapedOpen Tryd.prog) :
    Calls Tryd.prog 7 #[.agg #[.string f, .string t], .string s] w fun e w' => e = .returned (.bool true) ∧ Below w.heap.size w w' := by
  have HS := Lib.hid hsh
  have a := A1.start w f t
  have x0 := a.c0
  have x1 := a.c1
  clear hsh
  cases hs1 : sh f t with
  | false =>
    go_enter Tryd.func7, Tryd.ntmps7
    go_wp2_with (first
      | (go_at_call 11; refine (short_any _ _ _).mono ?_; rintro e w1 ⟨rfl, hb⟩; replace a := a.below hb)
      | (go_at_call 12; refine (works_any _ (a.shaped HS.out)).mono ?_; rintro e w2 ⟨rfl, hb2⟩; have bF := a.last hb2))
    go_ret
    exact ⟨rfl, bF⟩
  | true =>
  by_cases hss : s.size ≤ 100
  · have hss' : ((s.size : Nat) : Int) ≤ 100 := by omega
    have hP := fun W hW => parse_any s W (by omega) hW
    unfold parseV at hP
    cases hT : isTxt s.data.toList with
    | false =>
      rw [hT] at hP
      simp only [Bool.false_eq_true, if_false] at hP
      cases ho : okR f t with
      | false =>
        go_enter Tryd.func7, Tryd.ntmps7
        go_wp2_with fail
        refine (short_any _ _ _).mono ?_
        rintro e w1 ⟨rfl, hb⟩
        replace a := a.below hb
        clear x0 x1 hb
        have x0 := a.c0
        have x1 := a.c1
        go_wp2_with fail
        refine (text_no f t _ hf ht ho).mono ?_
        rintro e w2 ⟨rfl, hb⟩
        replace a := a.below hb
        clear x0 x1 hb
        have x0 := a.c0
        have x1 := a.c1
        have CK := fun W => check_any f t W hf ht
        rw [ho] at CK
        simp only [ckI] at CK
        go_wp2_with fail
        refine (CK _).mono ?_
        rintro e w3 ⟨rfl, hb⟩
        replace a := a.below hb
        clear x0 x1 hb CK
        go_wp2_with fail
        refine (hP _ (a.shaped HS.out)).mono ?_
        rintro e w5 ⟨rfl, hb⟩
        have B := Whole.new w5 23 #[.string ⟨#[]⟩, .string ⟨#[]⟩]
        replace a := (a.below hb).alloc (.cells #[.string ⟨#[]⟩, .string ⟨#[]⟩] 23)
        have y0 := B.cell 0
        have y1 := B.cell 1
        simp only [List.getElem?_toArray, List.getElem?_cons_succ, List.getElem?_cons_zero] at y0 y1
        have N := eq_self ⟨#[]⟩ ⟨#[]⟩
        clear hb
        go_wp2_with (go_at_call 12; refine (works_any _ (a.shaped HS.out)).mono ?_; rintro e w2 ⟨rfl, hb2⟩; have bF := a.last hb2)
        go_ret
        exact ⟨rfl, bF⟩
      | true =>
        go_enter Tryd.func7, Tryd.ntmps7
        go_wp2_with fail
        refine (short_any _ _ _).mono ?_
        rintro e w1 ⟨rfl, hb⟩
        replace a := a.below hb
        clear x0 x1 hb
        have x0 := a.c0
        have x1 := a.c1
        go_wp2_with fail
        refine (text_yes f t _ ho).mono ?_
        rintro e w2 ⟨⟨x, hx, rfl⟩, hb⟩
        replace a := a.below hb
        clear x0 x1 hb
        have x0 := a.c0
        have x1 := a.c1
        have CK := fun W => check_any f t W hf ht
        rw [ho] at CK
        simp only [ckI] at CK
        have hxs : x.size ≤ 1000000 := by
          have s1 := okS_sz (okR_left ho)
          have s2 := okS_sz (okR_right ho)
          rw [Lib.size_eq] at s1 s2 ⊢
          rw [hx]
          unfold rtxt
          simp only [List.length_cons, List.length_append, List.length_nil]
          omega
        have PX := fun W hW => parse_any x W hxs hW
        rw [parseV_txt ho hx] at PX
        have N := ne_self f t
        clear hx hxs
        go_wp2_with fail
        refine (CK _).mono ?_
        rintro e w3 ⟨rfl, hb⟩
        replace a := a.below hb
        clear x0 x1 hb CK
        go_wp2_with fail
        refine (PX _ (a.shaped HS.out)).mono ?_
        rintro e w4 ⟨rfl, hb⟩
        have B := Whole.new w4 23 #[.string f, .string t]
        replace a := (a.below hb).alloc (.cells #[.string f, .string t] 23)
        clear hb PX
        have x0 := a.c0
        have x1 := a.c1
        have y0 := B.cell 0
        have y1 := B.cell 1
        simp only [List.getElem?_toArray, List.getElem?_cons_succ, List.getElem?_cons_zero] at y0 y1
        go_wp2_with fail
        clear x0 x1 y0 y1 B N
        refine (hP _ (a.shaped HS.out)).mono ?_
        rintro e w5 ⟨rfl, hb⟩
        have B := Whole.new w5 23 #[.string ⟨#[]⟩, .string ⟨#[]⟩]
        replace a := (a.below hb).alloc (.cells #[.string ⟨#[]⟩, .string ⟨#[]⟩] 23)
        have y0 := B.cell 0
        have y1 := B.cell 1
        simp only [List.getElem?_toArray, List.getElem?_cons_succ, List.getElem?_cons_zero] at y0 y1
        have N := eq_self ⟨#[]⟩ ⟨#[]⟩
        clear hb
        go_wp2_with (go_at_call 12; refine (works_any _ (a.shaped HS.out)).mono ?_; rintro e w2 ⟨rfl, hb2⟩; have bF := a.last hb2)
        go_ret
        exact ⟨rfl, bF⟩
    | true =>
      rw [hT] at hP
      simp only [if_true] at hP
      obtain ⟨hT1, hok2⟩ := txt_back hT
      have HZ := Lib.hid (fun (z : ByteArray) (hz : z.data.toList = rtxt (⟨(cutF s.data.toList).toArray⟩ : ByteArray).data.toList (⟨(cutT s.data.toList).toArray⟩ : ByteArray).data.toList) => (ba_eq (by rw [ByteArray.toList_eq, ByteArray.toList_eq, hz]; exact hT1.symm) : z = s))
      clear hT1
      generalize (⟨(cutF s.data.toList).toArray⟩ : ByteArray) = cf at hP hok2 HZ
      generalize (⟨(cutT s.data.toList).toArray⟩ : ByteArray) = ct at hP hok2 HZ
      cases ho : okR f t with
      | false =>
        go_enter Tryd.func7, Tryd.ntmps7
        go_wp2_with fail
        refine (short_any _ _ _).mono ?_
        rintro e w1 ⟨rfl, hb⟩
        replace a := a.below hb
        clear x0 x1 hb
        have x0 := a.c0
        have x1 := a.c1
        go_wp2_with fail
        refine (text_no f t _ hf ht ho).mono ?_
        rintro e w2 ⟨rfl, hb⟩
        replace a := a.below hb
        clear x0 x1 hb
        have x0 := a.c0
        have x1 := a.c1
        have CK := fun W => check_any f t W hf ht
        rw [ho] at CK
        simp only [ckI] at CK
        go_wp2_with fail
        refine (CK _).mono ?_
        rintro e w3 ⟨rfl, hb⟩
        replace a := a.below hb
        clear x0 x1 hb CK
        go_wp2_with fail
        refine (hP _ (a.shaped HS.out)).mono ?_
        rintro e w5 ⟨rfl, hb⟩
        have B := Whole.new w5 23 #[.string cf, .string ct]
        replace a := (a.below hb).alloc (.cells #[.string cf, .string ct] 23)
        have y0 := B.cell 0
        have y1 := B.cell 1
        simp only [List.getElem?_toArray, List.getElem?_cons_succ, List.getElem?_cons_zero] at y0 y1
        clear hb
        go_wp2_with fail
        refine (text_yes cf ct _ hok2).mono ?_
        rintro e w6 ⟨⟨z, hz, rfl⟩, hb⟩
        obtain rfl : z = s := HZ.out z hz
        replace a := a.below hb
        clear hb y0 y1
        go_wp2_with (go_at_call 12; refine (works_any _ (a.shaped HS.out)).mono ?_; rintro e w2 ⟨rfl, hb2⟩; have bF := a.last hb2)
        go_ret
        exact ⟨rfl, bF⟩
      | true =>
        go_enter Tryd.func7, Tryd.ntmps7
        go_wp2_with fail
        refine (short_any _ _ _).mono ?_
        rintro e w1 ⟨rfl, hb⟩
        replace a := a.below hb
        clear x0 x1 hb
        have x0 := a.c0
        have x1 := a.c1
        go_wp2_with fail
        refine (text_yes f t _ ho).mono ?_
        rintro e w2 ⟨⟨x, hx, rfl⟩, hb⟩
        replace a := a.below hb
        clear x0 x1 hb
        have x0 := a.c0
        have x1 := a.c1
        have CK := fun W => check_any f t W hf ht
        rw [ho] at CK
        simp only [ckI] at CK
        have hxs : x.size ≤ 1000000 := by
          have s1 := okS_sz (okR_left ho)
          have s2 := okS_sz (okR_right ho)
          rw [Lib.size_eq] at s1 s2 ⊢
          rw [hx]
          unfold rtxt
          simp only [List.length_cons, List.length_append, List.length_nil]
          omega
        have PX := fun W hW => parse_any x W hxs hW
        rw [parseV_txt ho hx] at PX
        have N := ne_self f t
        clear hx hxs
        go_wp2_with fail
        refine (CK _).mono ?_
        rintro e w3 ⟨rfl, hb⟩
        replace a := a.below hb
        clear x0 x1 hb CK
        go_wp2_with fail
        refine (PX _ (a.shaped HS.out)).mono ?_
        rintro e w4 ⟨rfl, hb⟩
        have B := Whole.new w4 23 #[.string f, .string t]
        replace a := (a.below hb).alloc (.cells #[.string f, .string t] 23)
        clear hb PX
        have x0 := a.c0
        have x1 := a.c1
        have y0 := B.cell 0
        have y1 := B.cell 1
        simp only [List.getElem?_toArray, List.getElem?_cons_succ, List.getElem?_cons_zero] at y0 y1
        go_wp2_with fail
        clear x0 x1 y0 y1 B N
        refine (hP _ (a.shaped HS.out)).mono ?_
        rintro e w5 ⟨rfl, hb⟩
        have B := Whole.new w5 23 #[.string cf, .string ct]
        replace a := (a.below hb).alloc (.cells #[.string cf, .string ct] 23)
        have y0 := B.cell 0
        have y1 := B.cell 1
        simp only [List.getElem?_toArray, List.getElem?_cons_succ, List.getElem?_cons_zero] at y0 y1
        clear hb
        go_wp2_with fail
        refine (text_yes cf ct _ hok2).mono ?_
        rintro e w6 ⟨⟨z, hz, rfl⟩, hb⟩
        obtain rfl : z = s := HZ.out z hz
        replace a := a.below hb
        clear hb y0 y1
        go_wp2_with (go_at_call 12; refine (works_any _ (a.shaped HS.out)).mono ?_; rintro e w2 ⟨rfl, hb2⟩; have bF := a.last hb2)
        go_ret
        exact ⟨rfl, bF⟩
  · go_enter Tryd.func7, Tryd.ntmps7
    go_wp2_with (first
      | (go_at_call 11; refine (short_any _ _ _).mono ?_; rintro e w1 ⟨rfl, hb⟩; replace a := a.below hb)
      | (go_at_call 12; refine (works_any _ (a.shaped HS.out)).mono ?_; rintro e w2 ⟨rfl, hb2⟩; have bF := a.last hb2))
    go_ret
    exact ⟨rfl, bF⟩
end Go.Proofs.YthngliafkhalfaaDoor
