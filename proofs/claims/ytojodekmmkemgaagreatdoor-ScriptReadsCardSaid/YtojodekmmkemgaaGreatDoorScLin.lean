/- The reference's lines. Condition: a text is no longer than a million bytes. -/
import Derived.Test.YtojodekmmkemgaaGreatDoorScRNu
import Derived.Test.YtojodekmmkemgaaGreatDoorPs2
namespace Go.Proofs.YtojodekmmkemgaaGreatDoor
open Go.RowKit Go.Shelf

/-- Where the reference stands in a text: its lines so far, and the line that it reads. -/
def LAt (l : List UInt8) (W : List ByteArray) (i b : Nat) : Prop := i ≤ l.length ∧ b ≤ i ∧ linesL l = W.map (·.data.toList) ++ linesGo ((l.drop b).take (i - b)) (l.drop i)
theorem LAt.start (l : List UInt8) : LAt l [] 0 0 := ⟨Nat.zero_le _, Nat.le_refl _, by simp [linesL]⟩
theorem LAt.feed {l : List UInt8} {W : List ByteArray} {i b : Nat} {t : ByteArray} (h : LAt l W i b) (hi : l[i]? = some 10) (ht : t.data.toList = (l.drop b).take (i - b)) : LAt l (W ++ [t]) (i + 1) (i + 1) := by
  obtain ⟨hlt, he⟩ := List.getElem?_eq_some_iff.1 hi
  obtain ⟨_, hb, h2⟩ := h
  refine ⟨by omega, Nat.le_refl _, ?_⟩
  rw [h2, List.drop_eq_getElem_cons hlt, he, linesGo, if_pos rfl]
  simp [ht]
theorem LAt.other {l : List UInt8} {W : List ByteArray} {i b : Nat} {x : UInt8} (h : LAt l W i b) (hi : l[i]? = some x) (hx : x ≠ 10) : LAt l W (i + 1) b := by
  obtain ⟨hlt, he⟩ := List.getElem?_eq_some_iff.1 hi
  obtain ⟨_, hb, h2⟩ := h
  refine ⟨by omega, by omega, ?_⟩
  rw [h2, List.drop_eq_getElem_cons hlt, he, linesGo, if_neg hx]
  congr 2
  rw [show i + 1 - b = i - b + 1 by omega, List.take_add_one, List.getElem?_drop, show b + (i - b) = i by omega, hi]
  rfl
theorem LAt.last {l : List UInt8} {W : List ByteArray} {b : Nat} {t : ByteArray} (h : LAt l W l.length b) (ht : t.data.toList = l.drop b) : linesL l = (W ++ [t]).map (·.data.toList) := by
  obtain ⟨_, hb, h2⟩ := h
  rw [h2, List.drop_length, linesGo, List.take_of_length_le (by rw [List.length_drop]; omega)]
  simp [ht]
theorem LAt.none {l : List UInt8} {W : List ByteArray} (h : LAt l W l.length l.length) : linesL l = W.map (·.data.toList) ++ [[]] := by
  obtain ⟨_, hb, h2⟩ := h
  rw [h2, List.drop_length, linesGo]
  simp
/-- What Lines answers. -/
def LinR (s : ByteArray) (w w' : World) (e : Ending) : Prop := (∃ (v : Value) (W : List ByteArray), e = .returned v ∧ (linesL s.data.toList = W.map (·.data.toList) ∨ linesL s.data.toList = W.map (·.data.toList) ++ [[]]) ∧ W.length ≤ s.size + 1 ∧ (∀ t ∈ W, t.size ≤ s.size) ∧ w'.ownsRow w.heap.size 9 1 v W.length (W.map sV)) ∧ Below w.heap.size w w'
theorem xtr_size (s : ByteArray) (b i : Nat) : (s.extract b i).size ≤ s.size := by
  rw [Lib.size_eq, xtr_list, Lib.size_eq, List.length_take, List.length_drop]
  omega
set_option maxRecDepth 100000 in
set_option maxHeartbeats 4000000 in
theorem lines_any (s : ByteArray) (w : World) (hs : s.size ≤ 1000000) :
    Calls Tryz.prog 72 #[.string s] w fun e w' => LinR s w w' e := by
  have mixed : Tryz.prog.follows Departure.mixedOrders = true := by kernel_rfl
  obtain ⟨l, hl⟩ : ∃ l, l = s.data.toList := ⟨_, rfl⟩
  have hsl : s.size = l.length := by rw [hl, Lib.size_eq]
  have HL := Lib.hid hl
  have J0 : Hid (w.ownsRow w.heap.size 9 1 (.slice none 0 0) ([] : List ByteArray).length (([] : List ByteArray).map sV) ∧ Below w.heap.size w w ∧ LAt l [] 0 0 ∧ (∀ t ∈ ([] : List ByteArray), t.size ≤ s.size)) := Lib.hid ⟨⟨rfl, Or.inl ⟨rfl, rfl⟩⟩, Below.refl _ _, LAt.start l, fun t h => by cases h⟩
  have HSL := Lib.hid hsl
  clear hl hsl
  go_enter Tryz.func72, Tryz.ntmps72
  go_wp2_with fail
  go_loopw [3, 4, 5] (fun v bv iv wr => ∃ (W : List ByteArray) (i b : Nat), iv = .int .i64 i ∧ bv = .int .i64 b ∧ i ≤ s.size ∧ b ≤ i ∧ W.length ≤ i ∧ Hid (wr.ownsRow w.heap.size 9 1 v W.length (W.map sV) ∧ Below w.heap.size w wr ∧ LAt l W i b ∧ (∀ t ∈ W, t.size ≤ s.size))) (fun _ _ iv _ => s.size - (intOf iv).toNat)
  case atStart => exact ⟨[], 0, 0, rfl, rfl, by omega, by omega, by simp, J0⟩
  case round =>
    clear J0
    obtain ⟨W, i, b, rfl, rfl, hi, hbi, hwi2, HI⟩ := hrel
    obtain ⟨A3, c3, rfl, _⟩ := own_slice2 HI.out.1
    obtain ⟨m, hm⟩ : ∃ m, m = W.length := ⟨_, rfl⟩
    have HM := Lib.hid hm
    rw [← hm] at HI hwi2 ⊢
    clear hm
    have hi0 : (0 : Int) ≤ (i : Int) := by omega
    have hb0 : (0 : Int) ≤ (b : Int) := by omega
    have hwi : IntKind.i64.wrap ((i : Int) + 1) = (i : Int) + 1 := IntWalk.i64_in _ (by omega)
    by_cases his : i < s.size
    · have his' : (i : Int) < (s.size : Int) := by omega
      have his2 : (i : Int) ≤ (s.size : Int) := by omega
      have hbi' : (b : Int) ≤ (i : Int) := by omega
      obtain ⟨x, hx⟩ : ∃ x : UInt8, s[i]'his = x := ⟨_, rfl⟩
      have HX := Lib.hid (show l[i]? = some x by rw [← hx, HL.out]; exact Lib.data_getElem? s i his)
      by_cases hc : x = 10
      · subst hc
        have h10 : ((((10 : UInt8).toNat : Nat) : Int) == 10) = true := by decide
        obtain ⟨t, ht⟩ : ∃ t, s.extract b i = t := ⟨_, rfl⟩
        have htl : t.data.toList = (l.drop b).take (i - b) := by rw [← ht, xtr_list, HL.out]
        have htz : t.size ≤ s.size := by rw [← ht]; exact xtr_size s b i
        obtain ⟨v', w', hrun, hown, hgr⟩ := app_word w.heap.size (.slice A3 m c3) W t wr (by rw [← HM.out]; exact HI.out.1) HI.out.2.1.size (by rw [← HM.out]; omega)
        have BA := HI.out.2.1.alloc HI.out.2.1.size (.cells #[.string t] 9)
        have HF := Lib.hid (And.intro hown (And.intro (BA.grown hgr BA.size (fun k e => (HI.out.1.lt k e).1)) (And.intro (HI.out.2.2.1.feed HX.out htl) (show ∀ u ∈ W ++ [t], u.size ≤ s.size from fun u hu => by
          rcases List.mem_append.1 hu with h | h
          · exact HI.out.2.2.2 u h
          · rw [List.mem_singleton.1 h]; exact htz))))
        have R := Lib.hid hrun
        have HML : Hid ((W ++ [t]).length ≤ i + 1) := Lib.hid (by rw [List.length_append, ← HM.out]; simp; omega)
        clear hrun hown hgr htl BA HI htz
        go_wp2_with (at_builtin; refine wpList_append_run rfl (.tmp 16) (.tmp 21) 43 43 rfl rfl rfl R.out ?_)
        go_roundw
        case rel => exact ⟨W ++ [t], i + 1, i + 1, by go_num, by go_num, by omega, by omega, HML.out, HF⟩
        case measure => simp [intOf] <;> omega
      · have h10 : ((x.toNat : Int) == 10) = false := by rw [beq_eq_false_iff_ne]; intro e; exact hc (UInt8.toNat_inj.1 (show x.toNat = 10 by omega))
        have HW := Lib.hid (HI.out.2.2.1.other HX.out hc)
        clear hc
        go_wp2_with fail
        go_roundw
        case rel => exact ⟨W, i + 1, b, by go_num, rfl, by omega, by omega, by rw [← HM.out]; omega, Lib.hid ⟨by rw [← HM.out]; exact HI.out.1, HI.out.2.1, HW.out, HI.out.2.2.2⟩⟩
        case measure => simp [intOf] <;> omega
    · obtain rfl : i = s.size := by omega
      have hnl : ¬ ((s.size : Int) < (s.size : Int)) := by omega
      by_cases hbl : b < s.size
      · have hbl' : (b : Int) < (s.size : Int) := by omega
        have hbl2 : (b : Int) ≤ (s.size : Int) := by omega
        obtain ⟨t, ht⟩ : ∃ t, s.extract b s.size = t := ⟨_, rfl⟩
        have htl : t.data.toList = l.drop b := by rw [← ht, xtr_list, HL.out, List.take_of_length_le (by rw [List.length_drop, ← HL.out, ← HSL.out]; omega)]
        have htz : t.size ≤ s.size := by rw [← ht]; exact xtr_size s b s.size
        obtain ⟨v', w', hrun, hown, hgr⟩ := app_word w.heap.size (.slice A3 m c3) W t wr (by rw [← HM.out]; exact HI.out.1) HI.out.2.1.size (by rw [← HM.out]; omega)
        have BA := HI.out.2.1.alloc HI.out.2.1.size (.cells #[.string t] 9)
        have HLL : Hid (linesL l = (W ++ [t]).map (·.data.toList)) := Lib.hid (by
          have h := HI.out.2.2.1
          rw [HSL.out] at h
          exact h.last htl)
        have HF := Lib.hid (And.intro hown (And.intro (BA.grown hgr BA.size (fun k e => (HI.out.1.lt k e).1)) (show ∀ u ∈ W ++ [t], u.size ≤ s.size from fun u hu => by
          rcases List.mem_append.1 hu with h | h
          · exact HI.out.2.2.2 u h
          · rw [List.mem_singleton.1 h]; exact htz)))
        have R := Lib.hid hrun
        have HML : Hid ((W ++ [t]).length ≤ s.size + 1) := Lib.hid (by rw [List.length_append, ← HM.out]; simp; omega)
        clear hrun hown hgr htl BA HI htz
        go_wp2_with (at_builtin; refine wpList_append_run rfl (.tmp 29) (.tmp 33) 43 43 rfl rfl rfl R.out ?_)
        go_ret
        exact ⟨⟨_, W ++ [t], rfl, Or.inl (by rw [← HL.out]; exact HLL.out), HML.out, HF.out.2.2, HF.out.1⟩, HF.out.2.1⟩
      · have hbl' : ¬ ((b : Int) < (s.size : Int)) := by omega
        have HLL : Hid (linesL l = W.map (·.data.toList) ++ [[]]) := Lib.hid (by
          have h := HI.out.2.2.1
          obtain rfl : b = s.size := by omega
          rw [HSL.out] at h
          exact h.none)
        clear hbl
        go_wp2_with fail
        go_ret
        exact ⟨⟨_, W, rfl, Or.inr (by rw [← HL.out]; exact HLL.out), by rw [← HM.out]; omega, HI.out.2.2.2, by rw [← HM.out]; exact HI.out.1⟩, HI.out.2.1⟩
end Go.Proofs.YtojodekmmkemgaaGreatDoor
