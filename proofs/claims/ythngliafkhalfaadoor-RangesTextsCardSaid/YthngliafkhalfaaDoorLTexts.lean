/- RangesTexts returns true; memory that lay stays. Condition: the types' shapes lie as the program's start lays them. -/
import Derived.Test.YthngliafkhalfaaDoorRefRParse
import Derived.Test.YthngliafkhalfaaDoorLBack
import Derived.Deep.RegionHeld3
namespace Go.Proofs.YthngliafkhalfaaDoor
open Go.RowKit

section
variable {w wc w2 : World} {n p q r : Nat} {f t xa xb : ByteArray}
theorem texts_keep (hH : wc.cell? ⟨p, 0, none⟩ = some (.string f) ∧ wc.cell? ⟨p, 1, none⟩ = some (.string t) ∧ wc.cell? ⟨q, 0, none⟩ = some (.string xa) ∧ wc.cell? ⟨q, 1, none⟩ = some (.string xb) ∧ wc.cell? ⟨r, 0, none⟩ = some (.string xa) ∧ wc.cell? ⟨r, 1, none⟩ = some (.string xb) ∧ wc.ShapedOpen Tryd.prog ∧ Below n w wc ∧ p < wc.heap.size ∧ q < wc.heap.size ∧ r < wc.heap.size ∧ n ≤ wc.heap.size) (hb : Below wc.heap.size wc w2) : w2.cell? ⟨p, 0, none⟩ = some (.string f) ∧ w2.cell? ⟨p, 1, none⟩ = some (.string t) ∧ w2.cell? ⟨q, 0, none⟩ = some (.string xa) ∧ w2.cell? ⟨q, 1, none⟩ = some (.string xb) ∧ w2.cell? ⟨r, 0, none⟩ = some (.string xa) ∧ w2.cell? ⟨r, 1, none⟩ = some (.string xb) ∧ w2.ShapedOpen Tryd.prog ∧ Below n w w2 ∧ p < w2.heap.size ∧ q < w2.heap.size ∧ r < w2.heap.size ∧ n ≤ w2.heap.size := by
  obtain ⟨h0, h1, h2, h3, h4, h5, hp, hw, l1, l2, l3, l5⟩ := hH
  exact ⟨(hb.cell l1).trans h0, (hb.cell l1).trans h1, (hb.cell l2).trans h2, (hb.cell l2).trans h3, (hb.cell l3).trans h4, (hb.cell l3).trans h5, shaped_below hp hb, hw.trans (hb.mono l5), Nat.lt_of_lt_of_le l1 hb.size, Nat.lt_of_lt_of_le l2 hb.size, Nat.lt_of_lt_of_le l3 hb.size, Nat.le_trans l5 hb.size⟩
theorem texts_shaped (hH : wc.cell? ⟨p, 0, none⟩ = some (.string f) ∧ wc.cell? ⟨p, 1, none⟩ = some (.string t) ∧ wc.cell? ⟨q, 0, none⟩ = some (.string xa) ∧ wc.cell? ⟨q, 1, none⟩ = some (.string xb) ∧ wc.cell? ⟨r, 0, none⟩ = some (.string xa) ∧ wc.cell? ⟨r, 1, none⟩ = some (.string xb) ∧ wc.ShapedOpen Tryd.prog ∧ Below n w wc ∧ p < wc.heap.size ∧ q < wc.heap.size ∧ r < wc.heap.size ∧ n ≤ wc.heap.size) : wc.ShapedOpen Tryd.prog := hH.2.2.2.2.2.2.1
theorem texts_below (hH : wc.cell? ⟨p, 0, none⟩ = some (.string f) ∧ wc.cell? ⟨p, 1, none⟩ = some (.string t) ∧ wc.cell? ⟨q, 0, none⟩ = some (.string xa) ∧ wc.cell? ⟨q, 1, none⟩ = some (.string xb) ∧ wc.cell? ⟨r, 0, none⟩ = some (.string xa) ∧ wc.cell? ⟨r, 1, none⟩ = some (.string xb) ∧ wc.ShapedOpen Tryd.prog ∧ Below n w wc ∧ p < wc.heap.size ∧ q < wc.heap.size ∧ r < wc.heap.size ∧ n ≤ wc.heap.size) : Below n w wc := hH.2.2.2.2.2.2.2.1
end
theorem text_both (f t : ByteArray) (hf : f.size ≤ 9223372036854775807) (ht : t.size ≤ 9223372036854775807) : ∃ (x : ByteArray) (e1 : Int), (∀ W : World, Calls Tryd.prog 18 #[.agg #[.string f, .string t]] W fun e w' => e = .returned (.tuple #[.string x, .int .i64 e1]) ∧ Below W.heap.size W w') ∧ (∀ W : World, Calls Tryd.prog 19 #[.agg #[.string f, .string t]] W fun e w' => e = .returned (.tuple #[.string x, .int .i64 e1]) ∧ Below W.heap.size W w') := by
  cases ho : okR f t with
  | false => exact ⟨⟨#[]⟩, 2, fun W => text_no f t W hf ht ho, fun W => refText_no f t W hf ht ho⟩
  | true =>
    refine ⟨⟨(rtxt f.data.toList t.data.toList).toArray⟩, 0, fun W => (text_yes f t W ho).mono ?_, fun W => (refText_yes f t W ho).mono ?_⟩
    all_goals
      rintro e w' ⟨⟨x, hx, rfl⟩, hb⟩
      refine ⟨?_, hb⟩
      rw [← hx, ba_mk]
theorem parseV_form (l : List UInt8) : ∃ (xa xb : ByteArray) (e2 : Int), parseV l = .tuple #[.agg #[.string xa, .string xb], .int .i64 e2] := by
  unfold parseV
  cases isTxt l
  · exact ⟨_, _, _, rfl⟩
  · exact ⟨_, _, _, rfl⟩

set_option maxRecDepth 100000 in
set_option maxHeartbeats 16000000 in
theorem texts_walk (f t k s : ByteArray) (w : World) (hf : f.size ≤ 9223372036854775807) (ht : t.size ≤ 9223372036854775807) (hk : k.size ≤ 9223372036854775807) (hsh : w.ShapedOpen Tryd.prog) :
    Calls Tryd.prog 6 #[.agg #[.string f, .string t], .string k, .string s] w fun e w' => e = .returned (.bool true) ∧ Below w.heap.size w w' := by
  have HS := Lib.hid hsh
  have a := A1.start w f t
  have x0 := a.c0
  have x1 := a.c1
  clear hsh
  cases hs1 : sh f t with
  | false =>
    go_enter Tryd.func6, Tryd.ntmps6
    go_wp2_with (first
      | (go_at_call 11; refine (short_any _ _ _).mono ?_; rintro e w1 ⟨rfl, hb⟩; replace a := a.below hb)
      | (go_at_call 12; refine (works_any _ (a.shaped HS.out)).mono ?_; rintro e w2 ⟨rfl, hb2⟩; have bF := a.last hb2))
    go_ret
    exact ⟨rfl, bF⟩
  | true =>
  by_cases hks : k.size ≤ 100
  · by_cases hss : s.size ≤ 100
    · have hP := fun W hW => parse_any s W (by omega) hW
      have hQ := fun W => refParse_any s W (by omega)
      obtain ⟨xa, xb, e2, hv⟩ := parseV_form s.data.toList
      rw [hv] at hP hQ
      obtain ⟨x, e1, hE, hF⟩ := text_both f t hf ht
      have hC := fun W => check_any f t W hf ht
      have hD := fun W => refCheck_any f t W hf ht
      have hH := fun W => has_any f t k W hf ht hk
      have hJ := fun W => refHas_any f t k W hf ht hk
      generalize ckI (okR f t) = c at hC hD
      generalize hasR f t k = h at hH hJ
      have HP := Lib.hid hP
      have HQ := Lib.hid hQ
      have HE := Lib.hid hE
      have HF := Lib.hid hF
      have HC := Lib.hid hC
      have HD := Lib.hid hD
      have HH := Lib.hid hH
      have HJ := Lib.hid hJ
      have N := eq_self xa xb
      clear hP hQ hE hF hC hD hH hJ hv hf ht hk
      go_enter Tryd.func6, Tryd.ntmps6
      go_wp2_with fail
      refine (short_any _ _ _).mono ?_
      rintro e w1 ⟨rfl, hb⟩
      replace a := a.below hb
      clear x0 x1 hb
      have x0 := a.c0
      have x1 := a.c1
      go_wp2_with fail
      refine (HE.out _).mono ?_
      rintro e w2 ⟨rfl, hb⟩
      replace a := a.below hb
      clear x0 x1 hb
      have x0 := a.c0
      have x1 := a.c1
      go_wp2_with fail
      refine (HF.out _).mono ?_
      rintro e w3 ⟨rfl, hb⟩
      replace a := a.below hb
      clear x0 x1 hb
      go_wp2_with fail
      refine (HP.out _ (a.shaped HS.out)).mono ?_
      rintro e w4 ⟨rfl, hb⟩
      have B := Whole.new w4 23 #[.string xa, .string xb]
      replace a := (a.below hb).alloc (.cells #[.string xa, .string xb] 23)
      clear hb
      go_wp2_with fail
      refine (HQ.out _).mono ?_
      rintro e w5 ⟨rfl, hb⟩
      have D := Whole.new w5 23 #[.string xa, .string xb]
      replace B := (B.below hb B.lt).alloc (.cells #[.string xa, .string xb] 23)
      replace a := (a.below hb).alloc (.cells #[.string xa, .string xb] 23)
      clear hb
      have hS : (w5.alloc (.cells #[.string xa, .string xb] 23)).drew.cell? ⟨w.heap.size, 0, none⟩ = some (.string f) ∧ (w5.alloc (.cells #[.string xa, .string xb] 23)).drew.cell? ⟨w.heap.size, 1, none⟩ = some (.string t) ∧ (w5.alloc (.cells #[.string xa, .string xb] 23)).drew.cell? ⟨w4.heap.size, 0, none⟩ = some (.string xa) ∧ (w5.alloc (.cells #[.string xa, .string xb] 23)).drew.cell? ⟨w4.heap.size, 1, none⟩ = some (.string xb) ∧ (w5.alloc (.cells #[.string xa, .string xb] 23)).drew.cell? ⟨w5.heap.size, 0, none⟩ = some (.string xa) ∧ (w5.alloc (.cells #[.string xa, .string xb] 23)).drew.cell? ⟨w5.heap.size, 1, none⟩ = some (.string xb) ∧ (w5.alloc (.cells #[.string xa, .string xb] 23)).drew.ShapedOpen Tryd.prog ∧ Below w.heap.size w (w5.alloc (.cells #[.string xa, .string xb] 23)).drew ∧ w.heap.size < (w5.alloc (.cells #[.string xa, .string xb] 23)).drew.heap.size ∧ w4.heap.size < (w5.alloc (.cells #[.string xa, .string xb] 23)).drew.heap.size ∧ w5.heap.size < (w5.alloc (.cells #[.string xa, .string xb] 23)).drew.heap.size ∧ w.heap.size ≤ (w5.alloc (.cells #[.string xa, .string xb] 23)).drew.heap.size :=
        ⟨a.c0, a.c1, B.cell 0, B.cell 1, D.cell 0, D.cell 1, shaped_below (a.shaped HS.out) (Below.refl _ _).drew, a.1.drew, a.2.lt, B.lt, D.lt, a.1.size⟩
      clear a B D
      go_wp2_with fail
      go_region_held3 (fun w' => w'.cell? ⟨w.heap.size, 0, none⟩ = some (.string f) ∧ w'.cell? ⟨w.heap.size, 1, none⟩ = some (.string t) ∧ w'.cell? ⟨w4.heap.size, 0, none⟩ = some (.string xa) ∧ w'.cell? ⟨w4.heap.size, 1, none⟩ = some (.string xb) ∧ w'.cell? ⟨w5.heap.size, 0, none⟩ = some (.string xa) ∧ w'.cell? ⟨w5.heap.size, 1, none⟩ = some (.string xb) ∧ w'.ShapedOpen Tryd.prog ∧ Below w.heap.size w w' ∧ w.heap.size < w'.heap.size ∧ w4.heap.size < w'.heap.size ∧ w5.heap.size < w'.heap.size ∧ w.heap.size ≤ w'.heap.size)
        (first | exact hS | (refine texts_keep ?_ hb2; assumption) | assumption)
        (first | (go_at_call 15; refine (HC.out _).mono ?_; rintro e w2 ⟨rfl, hb2⟩) | (go_at_call 22; refine (HD.out _).mono ?_; rintro e w2 ⟨rfl, hb2⟩) | (go_at_call 16; refine (HH.out _).mono ?_; rintro e w2 ⟨rfl, hb2⟩) | (go_at_call 23; refine (HJ.out _).mono ?_; rintro e w2 ⟨rfl, hb2⟩) | (go_at_call 12; refine (works_any _ ?_).mono ?_; (apply texts_shaped; assumption); rintro e w2 ⟨rfl, hb2⟩))
      go_wp2
      go_ret
      exact ⟨rfl, texts_below (by assumption)⟩
    · go_enter Tryd.func6, Tryd.ntmps6
      go_wp2_with (first
        | (go_at_call 11; refine (short_any _ _ _).mono ?_; rintro e w1 ⟨rfl, hb⟩; replace a := a.below hb)
        | (go_at_call 12; refine (works_any _ (a.shaped HS.out)).mono ?_; rintro e w2 ⟨rfl, hb2⟩; have bF := a.last hb2))
      go_ret
      exact ⟨rfl, bF⟩
  · go_enter Tryd.func6, Tryd.ntmps6
    go_wp2_with (first
      | (go_at_call 11; refine (short_any _ _ _).mono ?_; rintro e w1 ⟨rfl, hb⟩; replace a := a.below hb)
      | (go_at_call 12; refine (works_any _ (a.shaped HS.out)).mono ?_; rintro e w2 ⟨rfl, hb2⟩; have bF := a.last hb2))
    go_ret
    exact ⟨rfl, bF⟩
end Go.Proofs.YthngliafkhalfaaDoor
