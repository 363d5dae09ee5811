/- The program's readers of bytes: numbers, texts, and the end. Condition: the bytes are no longer than a machine's integer can say. -/
import Derived.Test.YtgjnmfmbheejoaaGreatDoorRdr
namespace Go.Proofs.YtgjnmfmbheejoaaGreatDoor
open Go.RowKit Go.Shelf

theorem nbV_le (l : List UInt8) : (nbV l).2 ≤ l.length ∧ (nbV l).1 < 18446744073709551616 := by
  unfold nbV
  cases h : uvR l with
  | none => exact ⟨Nat.zero_le _, by decide⟩
  | some p => exact ⟨(uvR_le h).2, (uvR_dec h).1⟩
theorem nbV_none {l : List UInt8} (h : uvR l = none) : nbV l = (0, 0) := by unfold nbV; rw [h]
theorem nbV_some {l : List UInt8} {p : Nat × Nat} (h : uvR l = some p) : nbV l = p := by unfold nbV; rw [h]
theorem rnum_any (A : Option Addr) (n cap : Nat) (l : List UInt8) (w : World) (h : SlB w A n l) (hn : n ≤ 1000000000000) :
    Calls Tryz.prog 120 #[.slice A n cap] w fun e w' => e = .returned (.tuple #[.int .u64 ((nbV l).1 : Int), .int .i64 ((nbV l).2 : Int)]) ∧ w = w' := number_any A n cap l w h hn
/-- What the three functions that read answer. -/
def rvU (l : List UInt8) : Value × Nat := (.int .u64 ((nbV l).1 : Int), (nbV l).2)
def rvI (l : List UInt8) : Value × Nat := (.int .i64 (zag (nbV l).1), (nbV l).2)
def rvT (l : List UInt8) : Value × Nat := if (nbV l).2 = 0 ∨ 65536 < (nbV l).1 ∨ l.length - (nbV l).2 < (nbV l).1 then (.string ⟨#[]⟩, 0) else (.string ⟨((l.drop (nbV l).2).take (nbV l).1).toArray⟩, (nbV l).2 + (nbV l).1)
theorem tk_wU (st : WS) : tkV (.int .u64 0) rvU st = .int .u64 ((wU st).1 : Int) ∧ tkS rvU st = (wU st).2 := by
  cases st with
  | none => exact ⟨rfl, rfl⟩
  | some l =>
    unfold tkV tkS rvU wU
    simp only
    cases h : uvR l with
    | none => rw [nbV_none h]; exact ⟨rfl, rfl⟩
    | some p => rw [nbV_some h]; have := uvR_le (v := p.1) (k := p.2) h; rw [if_neg (by omega), if_neg (by omega)]; exact ⟨rfl, rfl⟩
theorem tk_wI (st : WS) : tkV (.int .i64 0) rvI st = .int .i64 (wI st).1 ∧ tkS rvI st = (wI st).2 := by
  unfold wI
  cases st with
  | none => exact ⟨rfl, rfl⟩
  | some l =>
    unfold tkV tkS rvI wU
    simp only
    cases h : uvR l with
    | none => rw [nbV_none h]; exact ⟨by simp [zag], rfl⟩
    | some p => rw [nbV_some h]; have := uvR_le (v := p.1) (k := p.2) h; rw [if_neg (by omega), if_neg (by omega)]; exact ⟨rfl, rfl⟩
theorem tk_wT (st : WS) : tkV (.string ⟨#[]⟩) rvT st = .string ⟨(wT st).1.toArray⟩ ∧ tkS rvT st = (wT st).2 := by
  cases st with
  | none => exact ⟨rfl, rfl⟩
  | some l =>
    unfold tkV tkS rvT wT
    simp only
    cases h : uvR l with
    | none => rw [nbV_none h]; exact ⟨rfl, rfl⟩
    | some p =>
      rw [nbV_some h]
      have hp := uvR_le (v := p.1) (k := p.2) h
      obtain ⟨v, k⟩ := p
      simp only at hp ⊢
      by_cases hc : k = 0 ∨ 65536 < v ∨ l.length - k < v
      · rw [if_pos hc, if_neg (show ¬ (v ≤ 65536 ∧ v ≤ l.length - k) by omega)]; exact ⟨rfl, rfl⟩
      · rw [if_neg hc, if_pos (show v ≤ 65536 ∧ v ≤ l.length - k by omega)]
        simp only
        rw [if_neg (by omega), if_neg (by omega)]
        exact ⟨rfl, rfl⟩
set_option maxHeartbeats 1000000 in
theorem int1_any (A : Option Addr) (n c : Nat) (l : List UInt8) (w : World) (h : SlB w A n l) (hn : n ≤ 1000000000000) :
    Calls Tryz.prog 119 #[.slice A n c] w fun e w' => e = .returned (.tuple #[(rvI l).1, .int .i64 ((rvI l).2 : Int)]) ∧ w = w' := by
  have N := Lib.hid (number_any A n c l w h hn)
  have Z := Lib.hid (zag_any (nbV l).1 w (nbV_le l).2)
  unfold rvI
  simp only
  generalize zag (nbV l).1 = z at Z ⊢
  generalize nbV l = p at N Z ⊢
  clear h hn
  go_enter Tryz.func119, Tryz.ntmps119
  go_wp2_with (first
    | (go_at_call 120; refine N.out.mono ?_; rintro e w1 ⟨rfl, rfl⟩)
    | (go_at_call 121; refine Z.out.mono ?_; rintro e w1 ⟨rfl, rfl⟩))
  go_ret2
  exact ⟨rfl, rfl⟩
set_option maxRecDepth 100000 in
set_option maxHeartbeats 4000000 in
theorem text1_any (A : Option Addr) (n c : Nat) (l : List UInt8) (w : World) (h : SlB w A n l) (hc : n ≤ c) (hn : n ≤ 1000000000000) :
    Calls Tryz.prog 123 #[.slice A n c] w fun e w' => e = .returned (.tuple #[(rvT l).1, .int .i64 ((rvT l).2 : Int)]) ∧ w = w' := by
  have N := Lib.hid (number_any A n c l w h hn)
  have hL := h.1
  have hle := nbV_le l
  unfold rvT
  generalize hp : nbV l = p at N hle ⊢
  obtain ⟨v, k⟩ := p
  simp only at N hle ⊢
  by_cases h0 : k = 0
  · subst h0
    rw [if_pos (Or.inl rfl)]
    clear hp h
    go_enter Tryz.func123, Tryz.ntmps123
    go_wp2_with (go_at_call 120; refine N.out.mono ?_; rintro e w1 ⟨rfl, rfl⟩)
    go_ret2
    exact ⟨rfl, rfl⟩
  · have e0 : ((k : Int) == 0) = false := by rw [beq_eq_false_iff_ne]; omega
    by_cases h1 : 65536 < v
    · rw [if_pos (Or.inr (Or.inl h1))]
      have e1 : (65536 : Int) < (v : Int) := by omega
      clear hp h
      go_enter Tryz.func123, Tryz.ntmps123
      go_wp2_with (go_at_call 120; refine N.out.mono ?_; rintro e w1 ⟨rfl, rfl⟩)
      go_ret2
      exact ⟨rfl, rfl⟩
    · have e1 : (v : Int) ≤ 65536 := by omega
      by_cases h2 : l.length - k < v
      · rw [if_pos (Or.inr (Or.inr h2))]
        have e2 : (n : Int) - (k : Int) < (v : Int) := by omega
        have e3 : (0 : Int) ≤ (n : Int) - (k : Int) := by omega
        clear hp h
        go_enter Tryz.func123, Tryz.ntmps123
        go_wp2_with (go_at_call 120; refine N.out.mono ?_; rintro e w1 ⟨rfl, rfl⟩)
        go_ret2
        exact ⟨rfl, rfl⟩
      · rw [if_neg (show ¬ (k = 0 ∨ 65536 < v ∨ l.length - k < v) by omega)]
        have e2 : (v : Int) ≤ (n : Int) - (k : Int) := by omega
        have e3 : (0 : Int) ≤ (n : Int) - (k : Int) := by omega
        obtain ⟨A', hA', hB'⟩ := sliced_B (lo := k) (hi := k + v) h (by omega) (by omega) hc rfl
        have hcut := fun W => cut_bytes2 A n c k (k + v) (by omega) (by omega) W
        rw [hA'] at hcut
        have hcv := conv_bytes hB' (c - k)
        rw [List.drop_take, Nat.add_sub_cancel_left] at hcv
        have hcast : ((k + v : Nat) : Int) = (k : Int) + (v : Int) := by omega
        simp only [hcast] at hcut
        rw [hcast]
        generalize (⟨((l.drop k).take v).toArray⟩ : ByteArray) = s at hcv ⊢
        clear hp h hA' hB' hcast h0 h1 h2
        go_enter Tryz.func123, Tryz.ntmps123
        go_wp2_with (go_at_call 120; refine N.out.mono ?_; rintro e w1 ⟨rfl, rfl⟩)
        go_ret2
        exact ⟨rfl, rfl⟩
theorem rvT_le (l : List UInt8) : (rvT l).2 ≤ l.length := by
  have := nbV_le l
  unfold rvT
  split
  · exact Nat.zero_le _
  · simp only; omega
set_option maxHeartbeats 1000000 in
theorem ruint_any (C : Nat) (st : WS) (w : World) (h : RdP w C st) :
    Calls Tryz.prog 100 #[.pointer (some ⟨C, 0, none⟩)] w fun e w' => e = .returned (.int .u64 ((wU st).1 : Int)) ∧ RdP w' C (wU st).2 ∧ w.grownBy w' (some C) := by
  have T := Lib.hid (tu64_any C st rvU w h (fun l => (nbV_le l).1) (fun A n c l h _ hn => number_any A n c l _ h hn))
  rw [(tk_wU st).1, (tk_wU st).2] at T
  clear h
  generalize (wU st).1 = v at T ⊢
  go_enter Tryz.func100, Tryz.ntmps100
  go_wp2_with (go_at_call 152; refine T.out.mono ?_; rintro e w1 ⟨rfl, hP, hg⟩)
  go_ret
  exact ⟨rfl, hP, hg⟩
set_option maxHeartbeats 1000000 in
theorem rint_any (C : Nat) (st : WS) (w : World) (h : RdP w C st) :
    Calls Tryz.prog 59 #[.pointer (some ⟨C, 0, none⟩)] w fun e w' => e = .returned (.int .i64 (wI st).1) ∧ RdP w' C (wI st).2 ∧ w.grownBy w' (some C) := by
  have T := Lib.hid (ti64_any C st rvI w h (fun l => (nbV_le l).1) (fun A n c l h _ hn => int1_any A n c l _ h hn))
  rw [(tk_wI st).1, (tk_wI st).2] at T
  clear h
  generalize (wI st).1 = v at T ⊢
  go_enter Tryz.func59, Tryz.ntmps59
  go_wp2_with (go_at_call 118; refine T.out.mono ?_; rintro e w1 ⟨rfl, hP, hg⟩)
  go_ret
  exact ⟨rfl, hP, hg⟩
set_option maxHeartbeats 1000000 in
theorem rtext_any (C : Nat) (st : WS) (w : World) (h : RdP w C st) :
    Calls Tryz.prog 60 #[.pointer (some ⟨C, 0, none⟩)] w fun e w' => e = .returned (.string ⟨(wT st).1.toArray⟩) ∧ RdP w' C (wT st).2 ∧ w.grownBy w' (some C) := by
  have T := Lib.hid (tstr_any C st rvT w h rvT_le (fun A n c l h hc hn => text1_any A n c l _ h hc hn))
  rw [(tk_wT st).1, (tk_wT st).2] at T
  clear h
  generalize (wT st).1 = v at T ⊢
  go_enter Tryz.func60, Tryz.ntmps60
  go_wp2_with (go_at_call 122; refine T.out.mono ?_; rintro e w1 ⟨rfl, hP, hg⟩)
  go_ret
  exact ⟨rfl, hP, hg⟩
set_option maxHeartbeats 1000000 in
theorem rend_any (C : Nat) (st : WS) (w : World) (h : RdP w C st) :
    Calls Tryz.prog 49 #[.pointer (some ⟨C, 0, none⟩)] w fun e w' => e = .returned (.int .i64 (wEnd st)) ∧ w = w' := by
  obtain ⟨A, n, c, h1, h2, h3, h4, h5⟩ := h
  have c0 := h1.cell 0
  have c1 := h1.cell 1
  have c2 := h1.cell 2
  simp only [List.getElem?_toArray, List.getElem?_cons_succ, List.getElem?_cons_zero] at c0 c1 c2
  cases st with
  | none =>
    simp only [Option.isNone_none] at c1
    clear h1 h2 h3 h4 h5
    go_enter Tryz.func49, Tryz.ntmps49
    go_wp2
    go_ret
    exact ⟨rfl, rfl⟩
  | some l =>
    simp only [Option.isNone_some] at c1
    have hl := (h5 l rfl).1
    by_cases h0 : 0 < n
    · have HE : Hid (wEnd (some l) = 10) := Lib.hid (by unfold wEnd; rw [if_neg (by intro e; cases e; simp at hl; omega)])
      rw [HE.out]
      clear h1 h2 h3 h4 h5 hl HE
      go_enter Tryz.func49, Tryz.ntmps49
      go_wp2
      go_ret
      exact ⟨rfl, rfl⟩
    · have HE : Hid (wEnd (some l) = 0) := Lib.hid (by unfold wEnd; rw [if_pos]; rw [List.eq_nil_of_length_eq_zero (by omega : l.length = 0)])
      rw [HE.out]
      clear h1 h2 h3 h4 h5 hl HE
      go_enter Tryz.func49, Tryz.ntmps49
      go_wp2
      go_ret
      exact ⟨rfl, rfl⟩
end Go.Proofs.YtgjnmfmbheejoaaGreatDoor
