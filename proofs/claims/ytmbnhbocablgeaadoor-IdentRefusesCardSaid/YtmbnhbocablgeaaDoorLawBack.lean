/- IdentBack returns true; memory that lay stays. Condition: the table of powers of ten lies as its initialiser lays it. -/
import Derived.Test.YtmbnhbocablgeaaDoorPlBack
import Derived.Test.YtmbnhbocablgeaaDoorWorks
namespace Go.Proofs.YtmbnhbocablgeaaDoor
open Go.RowKit

set_option maxHeartbeats 800000 in
theorem made_any (p q r : Int) (w : World) (p0 : 0 ≤ p) (p1 : p ≤ 65535) (q0 : 0 ≤ q) (q1 : q ≤ 255) (r0 : 0 ≤ r) (r1 : r ≤ 255) :
    Calls Tryd.prog 34 #[.int .u16 p, .int .u8 q, .int .u8 r] w fun e w' => e = .returned (.agg #[.int .i64 (1 + p % 9999), .int .i64 (q % 8), .int .i64 (1 + r % 3)]) ∧ Below w.heap.size w w' := by
  go_enter Tryd.func34, Tryd.ntmps34
  go_wp2
  refine bodyPost_ret (v := .agg #[.int .i64 (1 + p % 9999), .int .i64 (q % 8), .int .i64 (1 + r % 3)]) (by simp [results, Tryd.results34, go_sem]) rfl ⟨rfl, ?_⟩
  go_grown

theorem list_str {s : ByteArray} {l : List UInt8} (h : l = s.data.toList) : (⟨l.toArray⟩ : ByteArray) = s := by subst h; rfl

set_option maxHeartbeats 4000000 in
theorem back_law (p q r : Int) (s : ByteArray) (w : World) (p0 : 0 ≤ p) (p1 : p ≤ 65535) (q0 : 0 ≤ q) (q1 : q ≤ 255) (r0 : 0 ≤ r) (r1 : r ≤ 255) (hs : s.size ≤ 9223372036854775807) (hp : Pow w) :
    Calls Tryd.prog 11 #[.int .u16 p, .int .u8 q, .int .u8 r, .string s] w fun e w' => e = .returned (.bool true) ∧ Below w.heap.size w w' := by
  have hM := Lib.hid (fun W => made_any p q r W p0 p1 q0 q1 r0 r1)
  have hv : effOk (1 + p % 9999) (q % 8) (1 + r % 3) := by unfold effOk; omega
  generalize 1 + p % 9999 = a at hM hv
  generalize q % 8 = b at hM hv
  generalize 1 + r % 3 = c at hM hv
  have hE := Lib.hid (fun W hp => effect_yes a b c W hp hv)
  have hC := Lib.hid (fun W => checkEffect_any a b c W)
  rw [ckEff_yes hv] at hC
  obtain ⟨z1, z2, z3⟩ := effText_shape hv
  have hzs : (⟨(effText a b c).toArray⟩ : ByteArray).size = (effText a b c).length := Lib.size_mk _
  have hB := Lib.hid (fun W => parseEffect_any ⟨(effText a b c).toArray⟩ W (by rw [hzs]; omega))
  rw [show pEffR (ByteArray.mk (effText a b c).toArray).data.toList = (⟨a, b, c⟩, 0) from pEffR_some (pEff_text hv)] at hB
  have hK := Lib.hid (fun W => Tryd.strings_Count_one ⟨(effText a b c).toArray⟩ 47 W)
  rw [show Lib.countByte (ByteArray.mk (effText a b c).toArray).data.toList 47 = 2 from z3] at hK
  rw [← hzs] at z1 z2
  generalize (⟨(effText a b c).toArray⟩ : ByteArray) = t at hE hB hK z1 z2
  clear z3 hzs hv
  go_enter Tryd.func11, Tryd.ntmps11
  go_wp2_with fail
  refine (hM.out _).mono ?_
  rintro e w1 ⟨rfl, hb1⟩
  have b1 := hb1.alloc hb1.size (.cells #[.int .i64 a, .int .i64 b, .int .i64 c] 23)
  have B1 := Whole.new w1 23 #[.int .i64 a, .int .i64 b, .int .i64 c]
  have hp1 := hp.below b1
  clear hb1
  go_wp2_with fail
  refine (hE.out _ hp1).mono ?_
  rintro e w2 ⟨rfl, hb2⟩
  have b2 := b1.trans (hb2.mono b1.size)
  have B2 := B1.below hb2 B1.lt
  clear hb2 B1 b1 hp1
  go_wp2_with fail
  refine (hB.out _).mono ?_
  rintro e w3 ⟨rfl, hb3⟩
  have b3 := (b2.trans (hb3.mono b2.size)).alloc (Nat.le_trans b2.size hb3.size) (.cells #[.int .i64 a, .int .i64 b, .int .i64 c] 23)
  have B3 := (B2.below hb3 B2.lt).alloc (.cells #[.int .i64 a, .int .i64 b, .int .i64 c] 23)
  have C3 := Whole.new w3 23 #[.int .i64 a, .int .i64 b, .int .i64 c]
  have x0 := B3.cell 0
  have x1 := B3.cell 1
  have x2 := B3.cell 2
  have y0 := C3.cell 0
  have y1 := C3.cell 1
  have y2 := C3.cell 2
  simp only [List.getElem?_toArray, List.getElem?_cons_succ, List.getElem?_cons_zero] at x0 x1 x2 y0 y1 y2
  clear hb3 b2 B2 B3 C3
  go_wp2_with fail
  refine (hC.out _).mono ?_
  rintro e w4 ⟨rfl, hb4⟩
  have b4 := b3.trans (hb4.mono b3.size)
  clear hb4 b3 x0 x1 x2 y0 y1 y2
  go_wp2_with fail
  refine (hK.out _).mono ?_
  rintro e w5 ⟨rfl, rfl⟩
  by_cases h100 : s.size ≤ 100
  · have hP := Lib.hid (fun W => parseEffect_any s W (by omega))
    cases hq : pEff s.data.toList with
    | none =>
      rw [pEffR_none hq] at hP
      clear hq
      go_wp2_with fail
      refine (hP.out _).mono ?_
      rintro e w6 ⟨rfl, hb6⟩
      have b6 := (b4.trans (hb6.mono b4.size)).alloc (Nat.le_trans b4.size hb6.size) (.cells #[.int .i64 0, .int .i64 0, .int .i64 0] 23)
      have C3 := Whole.new w6 23 #[.int .i64 0, .int .i64 0, .int .i64 0]
      have y0 := C3.cell 0
      have y1 := C3.cell 1
      have y2 := C3.cell 2
      simp only [List.getElem?_toArray, List.getElem?_cons_succ, List.getElem?_cons_zero] at y0 y1 y2
      have hp6 := hp.below b6
      clear hb6 b4 C3
      go_wp2_with fail
      refine (works_any _ hp6).mono ?_
      rintro e w7 ⟨rfl, hb7⟩
      go_wp2
      go_ret
      exact ⟨rfl, b6.trans (hb7.mono b6.size)⟩
    | some v =>
      rw [pEffR_some hq] at hP
      obtain ⟨hv, ht⟩ := pEff_some hq
      obtain ⟨x, y, z⟩ := v
      dsimp only at hv ht
      have hF := Lib.hid (fun W hp => effect_yes x y z W hp hv)
      rw [list_str ht] at hF
      clear hq hv ht
      go_wp2_with fail
      refine (hP.out _).mono ?_
      rintro e w6 ⟨rfl, hb6⟩
      have b6 := (b4.trans (hb6.mono b4.size)).alloc (Nat.le_trans b4.size hb6.size) (.cells #[.int .i64 x, .int .i64 y, .int .i64 z] 23)
      have C3 := Whole.new w6 23 #[.int .i64 x, .int .i64 y, .int .i64 z]
      have y0 := C3.cell 0
      have y1 := C3.cell 1
      have y2 := C3.cell 2
      simp only [List.getElem?_toArray, List.getElem?_cons_succ, List.getElem?_cons_zero] at y0 y1 y2
      have hp6 := hp.below b6
      clear hb6 b4 C3
      go_wp2_with fail
      refine (hF.out _ hp6).mono ?_
      rintro e w7 ⟨rfl, hb7⟩
      have b7 := b6.trans (hb7.mono b6.size)
      have hp7 := hp.below b7
      clear hb7 b6 hp6 y0 y1 y2
      go_wp2_with fail
      refine (works_any _ hp7).mono ?_
      rintro e w8 ⟨rfl, hb8⟩
      go_wp2
      go_ret
      exact ⟨rfl, b7.trans (hb8.mono b7.size)⟩
  · have hp4 := hp.below b4
    go_wp2_with fail
    refine (works_any _ hp4).mono ?_
    rintro e w6 ⟨rfl, hb6⟩
    go_wp2
    go_ret
    exact ⟨rfl, b4.trans (hb6.mono b4.size)⟩
end Go.Proofs.YtmbnhbocablgeaaDoor
