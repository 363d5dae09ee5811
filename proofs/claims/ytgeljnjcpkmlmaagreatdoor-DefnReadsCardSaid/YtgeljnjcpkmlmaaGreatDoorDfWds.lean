/- The reference's words and numbers. Condition: a text is no longer than a million bytes. -/
import Derived.Test.YtgeljnjcpkmlmaaGreatDoorDfTxt
import Derived.Test.YtgeljnjcpkmlmaaGreatDoorDfPrs
namespace Go.Proofs.YtgeljnjcpkmlmaaGreatDoor
open Go.RowKit Go.Shelf

/-- The texts as lists of bytes. -/
def wlB (ws : List ByteArray) : List (List UInt8) := ws.map (·.data.toList)
/-- Where the reference stands in a text: its words so far, the word that it reads. -/
def WAt (l : List UInt8) (W : List ByteArray) (i b : Nat) : Prop := (i ≤ l.length ∧ b ≤ i ∧ wGo [] l = wlB W ++ wGo ((l.drop b).take (i - b)) (l.drop i)) ∨ (i = l.length + 1 ∧ wGo [] l = wlB W)
theorem WAt.start (l : List UInt8) : WAt l [] 0 0 := Or.inl ⟨Nat.zero_le _, Nat.le_refl _, by simp [wlB]⟩
theorem WAt.last {l : List UInt8} {W : List ByteArray} {b : Nat} {t : ByteArray} (h : WAt l W l.length b) (ht : t.data.toList = (l.drop b).take (l.length - b)) : WAt l (W ++ [t]) (l.length + 1) (l.length + 1) := by
  rcases h with ⟨_, hb, h2⟩ | ⟨h, _⟩
  · refine Or.inr ⟨rfl, ?_⟩
    rw [h2, List.drop_length]
    simp [wlB, wGo, ht]
  · omega
theorem WAt.space {l : List UInt8} {W : List ByteArray} {i b : Nat} {t : ByteArray} (h : WAt l W i b) (hi : l[i]? = some 32) (ht : t.data.toList = (l.drop b).take (i - b)) : WAt l (W ++ [t]) (i + 1) (i + 1) := by
  have hlt := (List.getElem?_eq_some_iff.1 hi).1
  rcases h with ⟨_, hb, h2⟩ | ⟨h, _⟩
  · refine Or.inl ⟨by omega, Nat.le_refl _, ?_⟩
    have hd : l.drop i = 32 :: l.drop (i + 1) := by
      obtain ⟨_, he⟩ := List.getElem?_eq_some_iff.1 hi
      rw [List.drop_eq_getElem_cons hlt, he]
    rw [h2, hd, wGo, if_pos rfl]
    simp [wlB, ht]
  · omega
theorem WAt.other {l : List UInt8} {W : List ByteArray} {i b : Nat} {x : UInt8} (h : WAt l W i b) (hi : l[i]? = some x) (hx : x ≠ 32) : WAt l W (i + 1) b := by
  have hlt := (List.getElem?_eq_some_iff.1 hi).1
  rcases h with ⟨_, hb, h2⟩ | ⟨h, _⟩
  · refine Or.inl ⟨by omega, by omega, ?_⟩
    have hd : l.drop i = x :: l.drop (i + 1) := by
      obtain ⟨_, he⟩ := List.getElem?_eq_some_iff.1 hi
      rw [List.drop_eq_getElem_cons hlt, he]
    rw [h2, hd, wGo, if_neg hx]
    congr 2
    rw [show i + 1 - b = i - b + 1 by omega, List.take_add_one, List.getElem?_drop, show b + (i - b) = i by omega, hi]
    rfl
  · omega
theorem WAt.done {l : List UInt8} {W : List ByteArray} {i b : Nat} (h : WAt l W i b) (hw : W.length ≤ 20) (he : i = l.length + 1 ∨ W.length = 20) : wlB W = wordsR l := by
  have hlen : (wlB W).length = W.length := List.length_map _
  unfold wordsR
  rcases h with ⟨hi, _, h2⟩ | ⟨_, h2⟩
  · have : W.length = 20 := by omega
    rw [h2, List.take_left' (by omega)]
  · rw [h2, List.take_of_length_le (by omega)]
theorem extract_list (s : ByteArray) (b i : Nat) : (s.extract b i).data.toList = (s.data.toList.drop b).take (i - b) := by
  rw [ByteArray.data_extract, Array.toList_extract, List.extract_eq_take_drop]
/-- What words answers. -/
def WdsR (s : ByteArray) (w w' : World) (e : Ending) : Prop := (∃ (v : Value) (W : List ByteArray), e = .returned v ∧ wlB W = wordsR s.data.toList ∧ W.length ≤ 20 ∧ w'.ownsRow w.heap.size 9 1 v W.length (W.map sV)) ∧ Below w.heap.size w w'
set_option maxRecDepth 100000 in
set_option maxHeartbeats 4000000 in
theorem words_any (s : ByteArray) (w : World) (hs : s.size ≤ 1000000) :
    Calls Tryz.prog 71 #[.string s] w fun e w' => WdsR s w w' e := by
  have mixed : Tryz.prog.follows Departure.mixedOrders = true := by kernel_rfl
  obtain ⟨l, hl⟩ : ∃ l, l = s.data.toList := ⟨_, rfl⟩
  have hsl : s.size = l.length := by rw [hl, Lib.size_eq]
  have HL := Lib.hid hl
  have J0 : Hid (w.ownsRow w.heap.size 9 1 (.slice none 0 0) ([] : List ByteArray).length (([] : List ByteArray).map sV) ∧ Below w.heap.size w w ∧ WAt l [] 0 0) := Lib.hid ⟨⟨rfl, Or.inl ⟨rfl, rfl⟩⟩, Below.refl _ _, WAt.start l⟩
  have HSL := Lib.hid hsl
  clear hl hsl
  go_enter Tryz.func71, Tryz.ntmps71
  go_wp2_with fail
  go_loopw [3, 4, 5] (fun v bv iv wr => ∃ (W : List ByteArray) (i b : Nat), iv = .int .i64 i ∧ bv = .int .i64 b ∧ i ≤ s.size + 1 ∧ b ≤ i ∧ W.length ≤ 20 ∧ Hid (wr.ownsRow w.heap.size 9 1 v W.length (W.map sV) ∧ Below w.heap.size w wr ∧ WAt l W i b)) (fun _ _ iv _ => s.size + 2 - (intOf iv).toNat)
  case atStart => exact ⟨[], 0, 0, rfl, rfl, by omega, by omega, by simp, J0⟩
  case round =>
    clear J0
    obtain ⟨W, i, b, rfl, rfl, hi, hbi, hw20, HI⟩ := hrel
    obtain ⟨A3, c3, rfl, _⟩ := own_slice2 HI.out.1
    obtain ⟨m, hm⟩ : ∃ m, m = W.length := ⟨_, rfl⟩
    have HM := Lib.hid hm
    rw [← hm] at HI hw20 ⊢
    clear hm
    have hi0 : (0 : Int) ≤ (i : Int) := by omega
    have hb0 : (0 : Int) ≤ (b : Int) := by omega
    have hwi : IntKind.i64.wrap ((i : Int) + 1) = (i : Int) + 1 := IntWalk.i64_in _ (by omega)
    by_cases hgo : i ≤ s.size ∧ m < 20
    · obtain ⟨his, hm20⟩ := hgo
      have his' : (i : Int) ≤ (s.size : Int) := by omega
      have hm20' : (m : Int) < 20 := by omega
      have hbi' : (b : Int) ≤ (i : Int) := by omega
      obtain ⟨t, ht⟩ : ∃ t, s.extract b i = t := ⟨_, rfl⟩
      have htl : t.data.toList = (l.drop b).take (i - b) := by rw [← ht, extract_list, HL.out]
      obtain ⟨v', w', hrun, hown, hgr⟩ := app_word w.heap.size (.slice A3 m c3) W t wr (by rw [← HM.out]; exact HI.out.1) HI.out.2.1.size (by rw [← HM.out]; omega)
      have HTL := Lib.hid htl
      have BA := HI.out.2.1.alloc HI.out.2.1.size (.cells #[.string t] 9)
      have HF := Lib.hid (And.intro hown (BA.grown hgr BA.size (fun k e => (HI.out.1.lt k e).1)))
      have R := Lib.hid hrun
      have HML : Hid ((W ++ [t]).length ≤ 20) := Lib.hid (by rw [List.length_append, ← HM.out]; simp; omega)
      clear hrun hown hgr htl BA
      by_cases hend : i = s.size
      · subst hend
        have hee : ((s.size : Int) == (s.size : Int)) = true := by simp
        have HW := Lib.hid (show WAt l (W ++ [t]) (s.size + 1) (s.size + 1) from by
          have h1 := HI.out.2.2
          have h2 := HTL.out
          rw [HSL.out] at h1 h2 ⊢
          exact h1.last h2)
        clear HI
        go_wp2_with (at_builtin; refine wpList_append_run rfl (.tmp 27) (.tmp 32) 27 27 rfl rfl rfl R.out ?_)
        go_roundw
        case rel => exact ⟨W ++ [t], s.size + 1, s.size + 1, by go_num, by go_num, by omega, by omega, HML.out, Lib.hid ⟨HF.out.1, HF.out.2, HW.out⟩⟩
        case measure => simp [intOf] <;> omega
      · have hee : ((i : Int) == (s.size : Int)) = false := by rw [beq_eq_false_iff_ne]; omega
        have hilt : i < s.size := by omega
        have hilt' : (i : Int) < (s.size : Int) := by omega
        obtain ⟨x, hx⟩ : ∃ x : UInt8, s[i]'hilt = x := ⟨_, rfl⟩
        have HX := Lib.hid (show l[i]? = some x by rw [← hx, HL.out]; exact Lib.data_getElem? s i hilt)
        by_cases hc : x = 32
        · subst hc
          have h32 : ((((32 : UInt8).toNat : Nat) : Int) == 32) = true := by decide
          have HW := Lib.hid (HI.out.2.2.space HX.out HTL.out)
          clear HI
          go_wp2_with (at_builtin; refine wpList_append_run rfl (.tmp 27) (.tmp 32) 27 27 rfl rfl rfl R.out ?_)
          go_roundw
          case rel => exact ⟨W ++ [t], i + 1, i + 1, by go_num, by go_num, by omega, by omega, HML.out, Lib.hid ⟨HF.out.1, HF.out.2, HW.out⟩⟩
          case measure => simp [intOf] <;> omega
        · have h32 : ((x.toNat : Int) == 32) = false := by rw [beq_eq_false_iff_ne]; intro e; exact hc (UInt8.toNat_inj.1 (show x.toNat = 32 by omega))
          have HW := Lib.hid (HI.out.2.2.other HX.out hc)
          clear hc R
          go_wp2_with fail
          go_roundw
          case rel => exact ⟨W, i + 1, b, by go_num, rfl, by omega, by omega, by rw [← HM.out]; omega, Lib.hid ⟨by rw [← HM.out]; exact HI.out.1, HI.out.2.1, HW.out⟩⟩
          case measure => simp [intOf] <;> omega
    · have HD := Lib.hid (HI.out.2.2.done (by rw [← HM.out]; exact hw20) (by rw [← HM.out, ← HSL.out]; omega))
      have HO := Lib.hid (And.intro HI.out.1 HI.out.2.1)
      have hgo2 : ¬ ((i : Int) ≤ (s.size : Int)) ∨ ((i : Int) ≤ (s.size : Int) ∧ ¬ ((m : Int) < 20)) := by omega
      clear HI hgo
      rcases hgo2 with h1 | ⟨h1, h2⟩
      all_goals
        go_wp2_with fail
        go_ret
        exact ⟨⟨_, W, rfl, by rw [← HL.out]; exact HD.out, by rw [← HM.out]; exact hw20, by rw [← HM.out]; exact HO.out.1⟩, HO.out.2⟩
theorem numGo_stop {n : Nat} (l : List UInt8) (h : ¬ n ≤ 115292150460684697) : numGo n l = n := by
  cases l with
  | nil => rfl
  | cons c l => rw [numGo, if_neg h]
set_option maxRecDepth 100000 in
set_option maxHeartbeats 4000000 in
theorem number_ref (s : ByteArray) (w : World) (hs : s.size ≤ 1000000) :
    Calls Tryz.prog 72 #[.string s] w fun e w' => e = .returned (.int .i64 ((numR s.data.toList : Nat) : Int)) ∧ w' = w := by
  have mixed : Tryz.prog.follows Departure.mixedOrders = true := by kernel_rfl
  obtain ⟨l, hl⟩ : ∃ l, l = s.data.toList := ⟨_, rfl⟩
  have HL := Lib.hid hl
  have HSL : Hid (s.size = l.length) := Lib.hid (by rw [hl, Lib.size_eq])
  rw [← hl]
  obtain ⟨r, hr⟩ : ∃ r, r = numR l := ⟨_, rfl⟩
  have HR := Lib.hid hr
  rw [← hr]
  clear hl hr
  go_enter Tryz.func72, Tryz.ntmps72
  go_wp2_with fail
  go_loopw [3, 4] (fun nv iv wr => ∃ a i : Nat, nv = .int .i64 a ∧ iv = .int .i64 i ∧ i ≤ s.size ∧ a ≤ 1152921504606846979 ∧ wr = w ∧ Hid (numGo 0 l = numGo a (l.drop i))) (fun _ iv _ => s.size - (intOf iv).toNat)
  case atStart => exact ⟨0, 0, rfl, rfl, by omega, by omega, rfl, Lib.hid (by simp)⟩
  case round =>
    obtain ⟨a, i, rfl, rfl, hi, ha, rfl, HI⟩ := hrel
    have hi0 : (0 : Int) ≤ (i : Int) := by omega
    by_cases hgo : i < s.size ∧ a ≤ 115292150460684697
    · obtain ⟨his, hal⟩ := hgo
      have his' : (i : Int) < (s.size : Int) := by omega
      have hal' : (a : Int) ≤ 115292150460684697 := by omega
      obtain ⟨x, hx⟩ : ∃ x : UInt8, s[i]'his = x := ⟨_, rfl⟩
      have HD : Hid (l.drop i = x :: l.drop (i + 1)) := Lib.hid (by
        have h1 : l[i]? = some x := by rw [← hx, HL.out]; exact Lib.data_getElem? s i his
        obtain ⟨h2, he⟩ := List.getElem?_eq_some_iff.1 h1
        rw [List.drop_eq_getElem_cons h2, he])
      have hwi : IntKind.i64.wrap ((i : Int) + 1) = (i : Int) + 1 := IntWalk.i64_in _ (by omega)
      by_cases hd : 48 ≤ x.toNat ∧ x.toNat ≤ 57
      · obtain ⟨hd1, hd2⟩ := hd
        have hd1' : (48 : Int) ≤ (x.toNat : Int) := by omega
        have hd2' : (x.toNat : Int) ≤ 57 := by omega
        obtain ⟨dg, hdg⟩ : ∃ dg : Nat, dg = x.toNat - 48 := ⟨_, rfl⟩
        have h8 : IntKind.u8.wrap ((x.toNat : Int) - 48) = (dg : Int) := by rw [IntKind.wrap_u8]; omega
        have h9 : IntKind.i64.wrap (dg : Int) = (dg : Int) := IntWalk.i64_in _ (by omega)
        have h10 : IntKind.i64.wrap (10 * (a : Int)) = 10 * (a : Int) := IntWalk.i64_in _ (by omega)
        have h11 : IntKind.i64.wrap (10 * (a : Int) + (dg : Int)) = 10 * (a : Int) + (dg : Int) := IntWalk.i64_in _ (by omega)
        have HN : Hid (numGo 0 l = numGo (10 * a + dg) (l.drop (i + 1))) := Lib.hid (by
          rw [HI.out, HD.out, numGo, if_pos hal, if_pos (by unfold isDig; simp; omega), hdg])
        have hb2 : 10 * a + dg ≤ 1152921504606846979 := by omega
        clear hdg
        go_wp2_with fail
        go_roundw
        case rel => exact ⟨10 * a + dg, i + 1, by go_num, by go_num, by omega, hb2, by first | rfl | trivial, HN⟩
        case measure => simp [intOf] <;> omega
      · have hdd : ¬ ((48 : Int) ≤ (x.toNat : Int)) ∨ ((48 : Int) ≤ (x.toNat : Int) ∧ ¬ ((x.toNat : Int) ≤ 57)) := by omega
        have HN : Hid (numGo 0 l = numGo a (l.drop (i + 1))) := Lib.hid (by
          rw [HI.out, HD.out, numGo, if_pos hal, if_neg (by unfold isDig; simp; omega)])
        clear hd
        rcases hdd with h1 | ⟨h1, h2⟩
        all_goals
          go_wp2_with fail
          go_roundw
          case rel => exact ⟨a, i + 1, rfl, by go_num, by omega, ha, by first | rfl | trivial, HN⟩
          case measure => simp [intOf] <;> omega
    · have HE : Hid (r = a) := Lib.hid (by
        rw [HR.out]
        unfold numR
        rw [HI.out]
        by_cases h : i < s.size
        · exact numGo_stop _ (by omega)
        · rw [List.drop_of_length_le (by rw [← HSL.out]; omega)]; rfl)
      have hgo2 : ¬ ((i : Int) < (s.size : Int)) ∨ ((i : Int) < (s.size : Int) ∧ ¬ ((a : Int) ≤ 115292150460684697)) := by omega
      clear hgo
      rcases hgo2 with h1 | ⟨h1, h2⟩
      all_goals
        go_wp2_with fail
        go_ret
        exact ⟨by rw [HE.out]; rfl, rfl⟩
end Go.Proofs.YtgeljnjcpkmlmaaGreatDoor
