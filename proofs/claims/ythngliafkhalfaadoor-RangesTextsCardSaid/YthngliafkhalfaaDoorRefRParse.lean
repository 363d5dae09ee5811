/- What a text is read as, as a range, by the reference; memory that lay stays. Condition: the text is short. -/
import Derived.Test.YthngliafkhalfaaDoorRefHas
import Derived.Handy
namespace Go.Proofs.YthngliafkhalfaaDoor
open Go.RowKit

theorem getB {s : ByteArray} {j : Nat} (h : j < s.size) : ((s[j]'h).toNat : Int) = 44 ↔ s[j]'h = 44 :=
  ⟨fun e => UInt8.toNat_inj.1 (by have : (44 : UInt8).toNat = 44 := rfl; omega), fun e => by rw [e]; rfl⟩

set_option maxRecDepth 100000 in
set_option maxHeartbeats 8000000 in
theorem refParse_any (s : ByteArray) (w : World) (hs : s.size ≤ 1000000) :
    Calls Tryd.prog 21 #[.string s] w fun e w' => e = .returned (parseV s.data.toList) ∧ Below w.heap.size w w' := by
  have R1 := Whole.new w 23 #[.string ⟨#[]⟩, .string ⟨#[]⟩]
  have b1 := (Below.refl w.heap.size w).alloc (Nat.le_refl _) (.cells #[.string ⟨#[]⟩, .string ⟨#[]⟩] 23)
  generalize hq : parseV s.data.toList = q
  have HQ := Lib.hid hq
  clear hq
  go_enter Tryd.func21, Tryd.ntmps21
  go_wp2_with fail
  go_loopw [4] (fun v wr => Below w.heap.size w wr ∧ Whole wr w.heap.size 23 #[.string ⟨#[]⟩, .string ⟨#[]⟩] ∧ ∃ j : Nat, j ≤ s.size ∧ v = .int .i64 j ∧ Hid (∀ i (h : i < s.size), i < j → s[i]'h ≠ 44)) (fun v _ => s.size - (intOf v).toNat)
  case atStart => exact ⟨b1, R1, 0, Nat.zero_le _, rfl, Lib.hid (fun _ _ h => absurd h (Nat.not_lt_zero _))⟩
  case round =>
    clear b1 R1
    obtain ⟨b2, R2, j, hj, rfl, hno⟩ := hrel
    by_cases hlt : j < s.size
    · by_cases hc : ((s[j]'hlt).toNat : Int) = 44
      · have hat : j = s.size ∨ ∃ h : j < s.size, s[j]'h = 44 := Or.inr ⟨hlt, (getB hlt).1 hc⟩
        have r0 := R2.cell 0
        have r1 := R2.cell 1
        have s0 := R2.fr 0
        have s1 := R2.fr 1
        simp only [List.getElem?_toArray, List.getElem?_cons_succ, List.getElem?_cons_zero] at r0 r1
        by_cases hr : 1 ≤ j ∧ j + 2 ≤ s.size
        · obtain ⟨hr1, hr2⟩ := hr
          obtain ⟨p1, hp1⟩ : ∃ p1, s.extract 1 j = p1 := ⟨_, rfl⟩
          obtain ⟨p2, hp2⟩ : ∃ p2, s.extract (j + 1) (s.size - 1) = p2 := ⟨_, rfl⟩
          have q1 : ∀ W : World, (Instr.slice 9 (.string s) (some (.int .i64 1)) (some (.int .i64 j)) none).run Tryd.prog W = .ok (.string p1) W := fun W => by
            rw [run_slice_string W 9 s .i64 .i64 1 j Tryd.underlying9 (by omega) (by omega) (by omega), ← hp1]
            rfl
          have q2 : ∀ W : World, (Instr.slice 9 (.string s) (some (.int .i64 (j + 1))) (some (.int .i64 (s.size - 1))) none).run Tryd.prog W = .ok (.string p2) W := fun W => by
            rw [run_slice_string W 9 s .i64 .i64 (j + 1) (s.size - 1) Tryd.underlying9 (by omega) (by omega) (by omega), ← hp2]
            congr 3 <;> omega
          have z1 : p1.size ≤ 9223372036854775807 := by rw [← hp1, ByteArray.size_extract]; omega
          have z2 : p2.size ≤ 9223372036854775807 := by rw [← hp2, ByteArray.size_extract]; omega
          have hyes : isTxt s.data.toList = true → okR p1 p2 = true ∧ parseV s.data.toList = .tuple #[.agg #[.string p1, .string p2], .int .i64 0] := fun h => by
            obtain ⟨h1, h2⟩ := txt_back h
            have h3 := comma_at (s := s) (f := ⟨(cutF s.data.toList).toArray⟩) (t := ⟨(cutT s.data.toList).toArray⟩) h1 (okS_comma (okR_left h2)) hj hno.out hat
            rw [hp1] at h3
            rw [hp2] at h3
            obtain ⟨_, _, h4, h5⟩ := h3
            refine ⟨by rw [h4, h5]; exact h2, ?_⟩
            rw [h4, h5]
            unfold parseV
            rw [h]
            rfl
          have hback : ∀ x : ByteArray, okR p1 p2 = true → x.data.toList = rtxt p1.data.toList p2.data.toList → isTxt s.data.toList = false → (x.toList == s.toList) = false := fun x hok hx hT => by
            rw [beq_eq_false_iff_ne]
            intro he
            rw [ByteArray.toList_eq, ByteArray.toList_eq] at he
            rw [← he, hx, (read_txt p1 p2 hok).1] at hT
            cases hT
          have hsame : ∀ x : ByteArray, x.data.toList = rtxt p1.data.toList p2.data.toList → isTxt s.data.toList = true → (x.toList == s.toList) = true := fun x hx hT => by
            obtain ⟨h1, h2⟩ := txt_back hT
            have h3 := comma_at (s := s) (f := ⟨(cutF s.data.toList).toArray⟩) (t := ⟨(cutT s.data.toList).toArray⟩) h1 (okS_comma (okR_left h2)) hj hno.out hat
            rw [hp1] at h3
            rw [hp2] at h3
            obtain ⟨_, _, h4, h5⟩ := h3
            rw [beq_iff_eq, ByteArray.toList_eq, ByteArray.toList_eq, hx, h4, h5]
            exact h1.symm
          have hnoV : isTxt s.data.toList = false → parseV s.data.toList = .tuple #[.agg #[.string ⟨#[]⟩, .string ⟨#[]⟩], .int .i64 10] := fun h => by unfold parseV; rw [h]; rfl
          have HY := Lib.hid hyes
          have HB := Lib.hid hback
          have HSM := Lib.hid hsame
          have HNV := Lib.hid hnoV
          clear hyes hback hsame hnoV hat hno
          have hc1 : ¬ (j : Int) < 1 := by omega
          have hc2 : ¬ (j : Int) > (s.size : Int) - 2 := by omega
          go_wp2_with fail
          clear hc
          go_region
          have R3 := R2.alloc (.cells #[.string p1, .string p2] 23)
          have X3 := Whole.new wr 23 #[.string p1, .string p2]
          have b3 := (b2.alloc b2.size (.cells #[.string p1, .string p2] 23)).drew
          replace R3 : Whole (wr.alloc (.cells #[.string p1, .string p2] 23)).drew w.heap.size 23 #[.string ⟨#[]⟩, .string ⟨#[]⟩] := R3
          replace X3 : Whole (wr.alloc (.cells #[.string p1, .string p2] 23)).drew wr.heap.size 23 #[.string p1, .string p2] := X3
          generalize (wr.alloc (.cells #[.string p1, .string p2] 23)).drew = w3 at R3 X3 b3 ⊢
          generalize wr.heap.size = L at X3 ⊢
          have x0 := X3.cell 0
          have x1 := X3.cell 1
          simp only [List.getElem?_toArray, List.getElem?_cons_succ, List.getElem?_cons_zero] at x0 x1
          clear r0 r1 s0 s1 R2 b2 q1 q2 hp1 hp2 hc1 hc2
          cases hok : okR p1 p2 with
          | false =>
            have hF : isTxt s.data.toList = false := by
              cases h : isTxt s.data.toList with
              | false => rfl
              | true => have := (HY.out h).1; rw [hok] at this; cases this
            have hqv : q = .tuple #[.agg #[.string ⟨#[]⟩, .string ⟨#[]⟩], .int .i64 10] := by rw [← HQ.out]; exact HNV.out hF
            have HV := Lib.hid hqv
            clear hqv HY HB HSM HNV HQ hF
            simp only [Exit.then]
            go_wp2_with fail
            refine (refText_no p1 p2 _ z1 z2 hok).mono ?_
            rintro e w4 ⟨rfl, hb⟩
            have R4 := R3.below hb R3.lt
            have b4 := b3.trans (hb.mono b3.size)
            have r0 := R4.cell 0
            have r1 := R4.cell 1
            have s0 := R4.fr 0
            have s1 := R4.fr 1
            simp only [List.getElem?_toArray, List.getElem?_cons_succ, List.getElem?_cons_zero] at r0 r1
            clear R3 X3 b3 hb x0 x1 R4
            go_wp2_with fail
            have hqv := HV.out
            refine bodyPost_ret (v := q) (by rw [hqv]; simp [results, Tryd.results21, go_sem, r0, r1]) rfl ⟨rfl, ?_⟩
            exact (b4.setCell (by simp) _).setCell (by simp) _
          | true =>
            simp only [Exit.then]
            go_wp2_with fail
            refine (refText_yes p1 p2 _ hok).mono ?_
            rintro e w4 ⟨⟨x, hx, rfl⟩, hb⟩
            have R4 := R3.below hb R3.lt
            have X4 := X3.below hb X3.lt
            have b4 := b3.trans (hb.mono b3.size)
            have r0 := R4.cell 0
            have r1 := R4.cell 1
            have s0 := R4.fr 0
            have s1 := R4.fr 1
            have y0 := X4.cell 0
            have y1 := X4.cell 1
            simp only [List.getElem?_toArray, List.getElem?_cons_succ, List.getElem?_cons_zero] at r0 r1 y0 y1
            clear R3 X3 b3 hb x0 x1 R4 X4
            cases hT : isTxt s.data.toList with
            | true =>
              have hqv : q = .tuple #[.agg #[.string p1, .string p2], .int .i64 0] := by rw [← HQ.out]; exact (HY.out hT).2
              have HV := Lib.hid hqv
              have hxs := HSM.out x hx hT
              clear hqv HY HB HSM HNV HQ
              go_wp2_with fail
              have hqv := HV.out
              refine bodyPost_ret (v := q) (by rw [hqv]; simp [results, Tryd.results21, go_sem, r0, r1]) rfl ⟨rfl, ?_⟩
              exact (b4.setCell (by simp) _).setCell (by simp) _
            | false =>
              have hqv : q = .tuple #[.agg #[.string ⟨#[]⟩, .string ⟨#[]⟩], .int .i64 10] := by rw [← HQ.out]; exact HNV.out hT
              have HV := Lib.hid hqv
              have hxs := HB.out x hok hx hT
              clear hqv HY HB HSM HNV HQ
              go_wp2_with fail
              have hqv := HV.out
              refine bodyPost_ret (v := q) (by rw [hqv]; simp [results, Tryd.results21, go_sem, r0, r1]) rfl ⟨rfl, ?_⟩
              exact (b4.setCell (by simp) _).setCell (by simp) _
        · have hF : isTxt s.data.toList = false := by
            cases h : isTxt s.data.toList with
            | false => rfl
            | true =>
              obtain ⟨h1, h2⟩ := txt_back h
              have h3 := comma_at (s := s) (f := ⟨(cutF s.data.toList).toArray⟩) (t := ⟨(cutT s.data.toList).toArray⟩) h1 (okS_comma (okR_left h2)) hj hno.out hat
              omega
          obtain rfl : q = .tuple #[.agg #[.string ⟨#[]⟩, .string ⟨#[]⟩], .int .i64 10] := by rw [← HQ.out]; unfold parseV; rw [hF]; rfl
          clear hat hno hF
          rcases Nat.lt_or_ge j 1 with h1 | h1
          · obtain rfl : j = 0 := by omega
            go_wp2_with fail
            refine bodyPost_ret (v := .tuple #[.agg #[.string ⟨#[]⟩, .string ⟨#[]⟩], .int .i64 10]) (by simp [results, Tryd.results21, go_sem, r0, r1]) rfl ⟨rfl, ?_⟩
            exact (b2.setCell (by simp) _).setCell (by simp) _
          · have hc1 : ¬ (j : Int) < 1 := by omega
            have hc2 : (j : Int) > (s.size : Int) - 2 := by omega
            go_wp2_with fail
            refine bodyPost_ret (v := .tuple #[.agg #[.string ⟨#[]⟩, .string ⟨#[]⟩], .int .i64 10]) (by simp [results, Tryd.results21, go_sem, r0, r1]) rfl ⟨rfl, ?_⟩
            exact (b2.setCell (by simp) _).setCell (by simp) _
      · have hno' := Lib.hid (show ∀ i (h : i < s.size), i < j + 1 → s[i]'h ≠ 44 from fun i h hi => by
          by_cases e : i = j
          · subst e; exact fun h2 => hc ((getB _).2 h2)
          · exact hno.out i h (by omega))
        go_wp2_with fail
        go_roundw
        case rel => exact ⟨b2, R2, j + 1, by omega, by go_num, hno'⟩
        case measure => simp [intOf]; omega
    · obtain rfl : j = s.size := by omega
      have r0 := R2.cell 0
      have r1 := R2.cell 1
      have s0 := R2.fr 0
      have s1 := R2.fr 1
      simp only [List.getElem?_toArray, List.getElem?_cons_succ, List.getElem?_cons_zero] at r0 r1
      have hF : isTxt s.data.toList = false := by
        cases h : isTxt s.data.toList with
        | false => rfl
        | true =>
          obtain ⟨h1, h2⟩ := txt_back h
          have h3 := comma_at (s := s) (f := ⟨(cutF s.data.toList).toArray⟩) (t := ⟨(cutT s.data.toList).toArray⟩) h1 (okS_comma (okR_left h2)) hj hno.out (Or.inl rfl)
          omega
      obtain rfl : q = .tuple #[.agg #[.string ⟨#[]⟩, .string ⟨#[]⟩], .int .i64 10] := by rw [← HQ.out]; unfold parseV; rw [hF]; rfl
      clear hno hF
      have hc2 : (s.size : Int) > (s.size : Int) - 2 := by omega
      rcases Nat.lt_or_ge s.size 1 with h1 | h1
      · have hc1 : (s.size : Int) < 1 := by omega
        go_wp2_with fail
        refine bodyPost_ret (v := .tuple #[.agg #[.string ⟨#[]⟩, .string ⟨#[]⟩], .int .i64 10]) (by simp [results, Tryd.results21, go_sem, r0, r1]) rfl ⟨rfl, ?_⟩
        exact (b2.setCell (by simp) _).setCell (by simp) _
      · have hc1 : ¬ (s.size : Int) < 1 := by omega
        go_wp2_with fail
        refine bodyPost_ret (v := .tuple #[.agg #[.string ⟨#[]⟩, .string ⟨#[]⟩], .int .i64 10]) (by simp [results, Tryd.results21, go_sem, r0, r1]) rfl ⟨rfl, ?_⟩
        exact (b2.setCell (by simp) _).setCell (by simp) _
end Go.Proofs.YthngliafkhalfaaDoor
