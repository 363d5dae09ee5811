/- The reference's readers of bytes: numbers with a sign, texts, and the end. Condition: the bytes are no longer than a machine's integer can say. -/
import Derived.Test.YtgjnmfmbheejoaaGreatDoorRrd2
namespace Go.Proofs.YtgjnmfmbheejoaaGreatDoor
open Go.RowKit Go.Shelf

set_option maxHeartbeats 1000000 in
theorem qint_any (C : Nat) (st : WS) (w : World) (h : RdQ w C st) :
    Calls Tryz.prog 54 #[.pointer (some ⟨C, 0, none⟩)] w fun e w' => e = .returned (.int .i64 (wI st).1) ∧ RdQ w' C (wI st).2 ∧ w.grownBy w' (some C) := by
  have U := Lib.hid (quint_any C st w h)
  have Z := Lib.hid (fun W => rzag_any (wU st).1 W (by have := wU_lt st; omega))
  unfold wI
  simp only
  generalize zag (wU st).1 = z at Z ⊢
  generalize wU st = p at U Z ⊢
  clear h
  go_enter Tryz.func54, Tryz.ntmps54
  go_wp2_with (first
    | (go_at_call 114; refine U.out.mono ?_; rintro e w1 ⟨rfl, hP, hg⟩)
    | (go_at_call 116; refine (Z.out _).mono ?_; rintro e w2 ⟨rfl, rfl⟩))
  go_ret
  exact ⟨rfl, hP, hg⟩
theorem wT_of {st : WS} : (wU st).2 = none → wT st = ([], none) := by
  intro h
  unfold wU at h
  unfold wT
  cases st with
  | none => rfl
  | some l =>
    simp only at h ⊢
    cases hu : uvR l with
    | none => rfl
    | some p => rw [hu] at h; cases h
theorem wT_yes {st : WS} {m : List UInt8} (h : (wU st).2 = some m) (h1 : (wU st).1 ≤ 65536) (h2 : (wU st).1 ≤ m.length) : wT st = (m.take (wU st).1, some (m.drop (wU st).1)) := by
  obtain ⟨e, hv⟩ := wU_dec h
  generalize (wU st).1 = v at *
  rw [e]
  unfold wT
  simp only [uvR_enc hv]
  rw [if_pos ⟨h1, by rw [List.length_append]; omega⟩, List.drop_left, ← List.drop_drop, List.drop_left]
theorem wT_no {st : WS} {m : List UInt8} (h : (wU st).2 = some m) (h1 : 65536 < (wU st).1 ∨ m.length < (wU st).1) : wT st = ([], none) := by
  obtain ⟨e, hv⟩ := wU_dec h
  generalize (wU st).1 = v at *
  rw [e]
  unfold wT
  simp only [uvR_enc hv]
  rw [if_neg (by rw [List.length_append]; omega)]
theorem cut_to_u (A : Option Addr) (n c hi : Nat) (h2 : hi ≤ c) (w : World) : (Instr.slice 22 (.slice A n c) none (some (.int .u64 (hi : Int))) none).run Tryz.prog w = .ok (sliced A 0 hi c 1) w := by
  have hs : (sizeOf (Tryz.prog.elem 22)).run Tryz.prog w = .ok 1 w := by kernel_rfl
  have hu : Tryz.prog.underlying 22 = some (.slice (Tryz.prog.elem 22)) := by kernel_rfl
  rw [run_slice_h w 22 A n c hu .u64 (hi : Int) (by omega) (by omega), hs]
  rfl
theorem cut_from_u (A : Option Addr) (n c lo : Nat) (h1 : lo ≤ n) (w : World) : (Instr.slice 22 (.slice A n c) (some (.int .u64 (lo : Int))) none none).run Tryz.prog w = .ok (sliced A lo n c 1) w := by
  have hs : (sizeOf (Tryz.prog.elem 22)).run Tryz.prog w = .ok 1 w := by kernel_rfl
  have hu : Tryz.prog.underlying 22 = some (.slice (Tryz.prog.elem 22)) := by kernel_rfl
  rw [run_slice_l w 22 A n c hu .u64 (lo : Int) (by omega) (by omega), hs]
  rfl
set_option maxRecDepth 100000 in
set_option maxHeartbeats 4000000 in
theorem qtext_any (C : Nat) (st : WS) (w : World) (h : RdQ w C st) :
    Calls Tryz.prog 53 #[.pointer (some ⟨C, 0, none⟩)] w fun e w' => e = .returned (.string ⟨(wT st).1.toArray⟩) ∧ RdQ w' C (wT st).2 ∧ w.grownBy w' (some C) := by
  have U := Lib.hid (quint_any C st w h)
  have hv := wU_lt st
  have F := Lib.hid (fun W (hW : RdQ W C (wU st).2) => qfail_any C (wU st).2 W hW)
  generalize hq : wT st = q
  have H0 := Lib.hid (fun h => (wT_of (st := st) h).symm.trans hq)
  have H1 := Lib.hid (fun m h h1 h2 => (wT_yes (st := st) (m := m) h h1 h2).symm.trans hq)
  have H2 := Lib.hid (fun m h h1 => (wT_no (st := st) (m := m) h h1).symm.trans hq)
  generalize hu : wU st = u at *
  obtain ⟨v, s⟩ := u
  simp only at U F H0 H1 H2 hv
  clear h hq hu
  cases s with
  | none =>
    have HQ := Lib.hid (H0.out rfl)
    go_enter Tryz.func53, Tryz.ntmps53
    go_upto_region 2 with (go_at_call 114; refine U.out.mono ?_; rintro e w1 ⟨rfl, hP, hg⟩)
    obtain ⟨A, n, c, h1, _⟩ := id hP
    have V := Lib.hid (rvalid_any C _ _ w1 h1)
    have c2 := h1.cell 2
    simp only [List.getElem?_toArray, List.getElem?_cons_succ, List.getElem?_cons_zero, Option.isNone_none] at c2
    have HP := Lib.hid hP
    clear h1 hP
    go_wp2_with (go_at_call 115; refine V.out.mono ?_; rintro e w2 ⟨rfl, rfl⟩)
    go_ret
    exact ⟨by rw [← HQ.out]; rfl, by rw [← HQ.out]; exact HP.out, hg⟩
  | some m =>
    go_enter Tryz.func53, Tryz.ntmps53
    go_upto_region 2 with (go_at_call 114; refine U.out.mono ?_; rintro e w1 ⟨rfl, hP, hg⟩)
    obtain ⟨A, n, c, h1, h2, h3, h4, h5⟩ := id hP
    have V := Lib.hid (rvalid_any C _ _ w1 h1)
    have c1 := h1.cell 1
    have c2 := h1.cell 2
    have f1 := h1.fr 1
    simp only [List.getElem?_toArray, List.getElem?_cons_succ, List.getElem?_cons_zero, Option.isNone_some] at c1 c2 h1
    have hL := (h5 m rfl).1
    by_cases hb : 65536 < v ∨ m.length < v
    · have HQ := Lib.hid (H2.out m rfl hb)
      have F2 := Lib.hid (F.out w1 hP)
      have hcase : (65536 : Int) < (v : Int) ∨ ((v : Int) ≤ 65536 ∧ (n : Int) < (v : Int)) := by omega
      clear h1 h4 hP hb h5
      rcases hcase with h6 | ⟨h6, h7⟩
      all_goals
        go_wp2_with (first
          | (go_at_call 115; refine V.out.mono ?_; rintro e w2 ⟨rfl, rfl⟩)
          | (go_at_call 52; refine F2.out.mono ?_; rintro e w3 ⟨rfl, hP3, hg3⟩))
        go_ret
        exact ⟨by rw [← HQ.out]; rfl, by rw [← HQ.out]; exact hP3, grown_trans hg hg3⟩
    · have HQ := Lib.hid (H1.out m rfl (by omega) (by omega))
      have HS := h5 m rfl
      obtain ⟨A', hA', hB'⟩ := sliced_B (lo := 0) (hi := v) HS (by omega) (by omega) h2 rfl
      rw [Nat.sub_zero, Nat.sub_zero] at hA'
      rw [Nat.sub_zero, List.drop_zero] at hB'
      have hcut := fun W => cut_to_u A n c v (by omega) W
      rw [hA'] at hcut
      have hcv := conv_bytes hB' c
      obtain ⟨A2, hA2, hB2⟩ := sliced_B (lo := v) (hi := n) HS (by omega) (Nat.le_refl _) h2 rfl
      have hcut2 := fun W => cut_from_u A n c v (by omega) W
      rw [hA2] at hcut2
      rw [List.take_of_length_le (by omega)] at hB2
      have st2 := RdQ.step (A' := A2) (n' := n - v) (c' := c - v) h1 h3 (by omega) (by omega) hB2 (sliced_blk hA2 h4.2)
      have HST := Lib.hid st2
      have h6 : (v : Int) ≤ 65536 := by omega
      have h7 : (v : Int) ≤ (n : Int) := by omega
      obtain ⟨s, hs⟩ : ∃ s : ByteArray, s = ⟨(m.take v).toArray⟩ := ⟨_, rfl⟩
      rw [← hs] at hcv
      have HSS := Lib.hid hs
      clear h1 h4 hP hb h5 HS hA' hB' hA2 hB2 st2 hs
      go_wp2_with (go_at_call 115; refine V.out.mono ?_; rintro e w2 ⟨rfl, rfl⟩)
      go_ret
      exact ⟨by rw [← HQ.out, HSS.out]; rfl, by rw [← HQ.out]; exact HST.out.1, grown_trans hg HST.out.2⟩
set_option maxHeartbeats 1000000 in
theorem qend_any (C : Nat) (st : WS) (w : World) (h : RdQ w C st) :
    Calls Tryz.prog 58 #[.pointer (some ⟨C, 0, none⟩)] w fun e w' => e = .returned (.int .i64 (wEnd st)) ∧ w = w' := by
  obtain ⟨A, n, c, h1, h2, h3, h4, h5⟩ := h
  have V := Lib.hid (rvalid_any C _ _ w h1)
  have c1 := h1.cell 1
  have c2 := h1.cell 2
  simp only [List.getElem?_toArray, List.getElem?_cons_succ, List.getElem?_cons_zero] at c1 c2
  cases st with
  | none =>
    simp only [Option.isNone_none] at c2
    clear h1 h2 h3 h4 h5
    go_enter Tryz.func58, Tryz.ntmps58
    go_wp2_with (go_at_call 115; refine V.out.mono ?_; rintro e w2 ⟨rfl, rfl⟩)
    go_ret
    exact ⟨rfl, rfl⟩
  | some l =>
    simp only [Option.isNone_some] at c2
    have hl := (h5 l rfl).1
    by_cases h0 : 0 < n
    · have HE : Hid (wEnd (some l) = 10) := Lib.hid (by unfold wEnd; rw [if_neg (by intro e; cases e; simp at hl; omega)])
      rw [HE.out]
      clear h1 h2 h3 h4 h5 hl HE
      go_enter Tryz.func58, Tryz.ntmps58
      go_wp2_with (go_at_call 115; refine V.out.mono ?_; rintro e w2 ⟨rfl, rfl⟩)
      go_ret
      exact ⟨rfl, rfl⟩
    · have HE : Hid (wEnd (some l) = 0) := Lib.hid (by unfold wEnd; rw [if_pos]; rw [List.eq_nil_of_length_eq_zero (by omega : l.length = 0)])
      rw [HE.out]
      clear h1 h2 h3 h4 h5 hl HE
      go_enter Tryz.func58, Tryz.ntmps58
      go_wp2_with (go_at_call 115; refine V.out.mono ?_; rintro e w2 ⟨rfl, rfl⟩)
      go_ret
      exact ⟨rfl, rfl⟩
end Go.Proofs.YtgjnmfmbheejoaaGreatDoor
