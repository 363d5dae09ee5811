/- Merged by program: DfWds, DfRPrs, DfRPrW. -/
import Derived.Test.YtojodekmmkemgaaGreatDoorDfS
import Derived.Test.YtojodekmmkemgaaGreatDoorPs2
import Derived.Test.YtojodekmmkemgaaGreatDoorSm26
import Derived.Deep.RegionHeld3
namespace Go.Proofs.YtojodekmmkemgaaGreatDoor
section
open Go.RowKit Go.Shelf

/-- The texts as lists of bytes. -/
def wlB (ws : List ByteArray) : List (List UInt8) := ws.map (·.data.toList)
/-- Where the reference stands in a text: its words so far, the word that it reads. -/
def WAt (l : List UInt8) (W : List ByteArray) (i b : Nat) : Prop := (i ≤ l.length ∧ b ≤ i ∧ wGo [] l = wlB W ++ wGo ((l.drop b).take (i - b)) (l.drop i)) ∨ (i = l.length + 1 ∧ wGo [] l = wlB W)
theorem WAt.start (l : List UInt8) : WAt l [] 0 0 := Or.inl ⟨Nat.zero_le _, Nat.le_refl _, by simp [wlB]⟩
theorem WAt.last {l : List UInt8} {W : List ByteArray} {b : Nat} {t : ByteArray} (h : WAt l W l.length b) (ht : t.data.toList = (l.drop b).take (l.length - b)) : WAt l (W ++ [t]) (l.length + 1) (l.length + 1) := by
  rcases h with ⟨_, hb, h2⟩ | ⟨h, _⟩
  · refine Or.inr ⟨rfl, ?_⟩
    rw [h2, List.drop_length]
    simp [wlB, wGo, ht]
  · omega
theorem WAt.space {l : List UInt8} {W : List ByteArray} {i b : Nat} {t : ByteArray} (h : WAt l W i b) (hi : l[i]? = some 32) (ht : t.data.toList = (l.drop b).take (i - b)) : WAt l (W ++ [t]) (i + 1) (i + 1) := by
  have hlt := (List.getElem?_eq_some_iff.1 hi).1
  rcases h with ⟨_, hb, h2⟩ | ⟨h, _⟩
  · refine Or.inl ⟨by omega, Nat.le_refl _, ?_⟩
    have hd : l.drop i = 32 :: l.drop (i + 1) := by
      obtain ⟨_, he⟩ := List.getElem?_eq_some_iff.1 hi
      rw [List.drop_eq_getElem_cons hlt, he]
    rw [h2, hd, wGo, if_pos rfl]
    simp [wlB, ht]
  · omega
theorem WAt.other {l : List UInt8} {W : List ByteArray} {i b : Nat} {x : UInt8} (h : WAt l W i b) (hi : l[i]? = some x) (hx : x ≠ 32) : WAt l W (i + 1) b := by
  have hlt := (List.getElem?_eq_some_iff.1 hi).1
  rcases h with ⟨_, hb, h2⟩ | ⟨h, _⟩
  · refine Or.inl ⟨by omega, by omega, ?_⟩
    have hd : l.drop i = x :: l.drop (i + 1) := by
      obtain ⟨_, he⟩ := List.getElem?_eq_some_iff.1 hi
      rw [List.drop_eq_getElem_cons hlt, he]
    rw [h2, hd, wGo, if_neg hx]
    congr 2
    rw [show i + 1 - b = i - b + 1 by omega, List.take_add_one, List.getElem?_drop, show b + (i - b) = i by omega, hi]
    rfl
  · omega
theorem WAt.done {l : List UInt8} {W : List ByteArray} {i b : Nat} (h : WAt l W i b) (hw : W.length ≤ 20) (he : i = l.length + 1 ∨ W.length = 20) : wlB W = wordsR l := by
  have hlen : (wlB W).length = W.length := List.length_map _
  unfold wordsR
  rcases h with ⟨hi, _, h2⟩ | ⟨_, h2⟩
  · have : W.length = 20 := by omega
    rw [h2, List.take_left' (by omega)]
  · rw [h2, List.take_of_length_le (by omega)]
theorem extract_list (s : ByteArray) (b i : Nat) : (s.extract b i).data.toList = (s.data.toList.drop b).take (i - b) := by
  rw [ByteArray.data_extract, Array.toList_extract, List.extract_eq_take_drop]
/-- What words answers. -/
def WdsR (s : ByteArray) (w w' : World) (e : Ending) : Prop := (∃ (v : Value) (W : List ByteArray), e = .returned v ∧ wlB W = wordsR s.data.toList ∧ W.length ≤ 20 ∧ w'.ownsRow w.heap.size 9 1 v W.length (W.map sV)) ∧ Below w.heap.size w w'
set_option maxRecDepth 100000 in
set_option maxHeartbeats 4000000 in
theorem words_any (s : ByteArray) (w : World) (hs : s.size ≤ 1000000) :
    Calls Tryz.prog 106 #[.string s] w fun e w' => WdsR s w w' e := by
  have mixed : Tryz.prog.follows Departure.mixedOrders = true := by kernel_rfl
  obtain ⟨l, hl⟩ : ∃ l, l = s.data.toList := ⟨_, rfl⟩
  have hsl : s.size = l.length := by rw [hl, Lib.size_eq]
  have HL := Lib.hid hl
  have J0 : Hid (w.ownsRow w.heap.size 9 1 (.slice none 0 0) ([] : List ByteArray).length (([] : List ByteArray).map sV) ∧ Below w.heap.size w w ∧ WAt l [] 0 0) := Lib.hid ⟨⟨rfl, Or.inl ⟨rfl, rfl⟩⟩, Below.refl _ _, WAt.start l⟩
  have HSL := Lib.hid hsl
  clear hl hsl
  go_enter Tryz.func106, Tryz.ntmps106
  go_wp2_with fail
  go_loopw [3, 4, 5] (fun v bv iv wr => ∃ (W : List ByteArray) (i b : Nat), iv = .int .i64 i ∧ bv = .int .i64 b ∧ i ≤ s.size + 1 ∧ b ≤ i ∧ W.length ≤ 20 ∧ Hid (wr.ownsRow w.heap.size 9 1 v W.length (W.map sV) ∧ Below w.heap.size w wr ∧ WAt l W i b)) (fun _ _ iv _ => s.size + 2 - (intOf iv).toNat)
  case atStart => exact ⟨[], 0, 0, rfl, rfl, by omega, by omega, by simp, J0⟩
  case round =>
    clear J0
    obtain ⟨W, i, b, rfl, rfl, hi, hbi, hw20, HI⟩ := hrel
    obtain ⟨A3, c3, rfl, _⟩ := own_slice2 HI.out.1
    obtain ⟨m, hm⟩ : ∃ m, m = W.length := ⟨_, rfl⟩
    have HM := Lib.hid hm
    rw [← hm] at HI hw20 ⊢
    clear hm
    have hi0 : (0 : Int) ≤ (i : Int) := by omega
    have hb0 : (0 : Int) ≤ (b : Int) := by omega
    have hwi : IntKind.i64.wrap ((i : Int) + 1) = (i : Int) + 1 := IntWalk.i64_in _ (by omega)
    by_cases hgo : i ≤ s.size ∧ m < 20
    · obtain ⟨his, hm20⟩ := hgo
      have his' : (i : Int) ≤ (s.size : Int) := by omega
      have hm20' : (m : Int) < 20 := by omega
      have hbi' : (b : Int) ≤ (i : Int) := by omega
      obtain ⟨t, ht⟩ : ∃ t, s.extract b i = t := ⟨_, rfl⟩
      have htl : t.data.toList = (l.drop b).take (i - b) := by rw [← ht, extract_list, HL.out]
      obtain ⟨v', w', hrun, hown, hgr⟩ := app_word w.heap.size (.slice A3 m c3) W t wr (by rw [← HM.out]; exact HI.out.1) HI.out.2.1.size (by rw [← HM.out]; omega)
      have HTL := Lib.hid htl
      have BA := HI.out.2.1.alloc HI.out.2.1.size (.cells #[.string t] 9)
      have HF := Lib.hid (And.intro hown (BA.grown hgr BA.size (fun k e => (HI.out.1.lt k e).1)))
      have R := Lib.hid hrun
      have HML : Hid ((W ++ [t]).length ≤ 20) := Lib.hid (by rw [List.length_append, ← HM.out]; simp; omega)
      clear hrun hown hgr htl BA
      by_cases hend : i = s.size
      · subst hend
        have hee : ((s.size : Int) == (s.size : Int)) = true := by simp
        have HW := Lib.hid (show WAt l (W ++ [t]) (s.size + 1) (s.size + 1) from by
          have h1 := HI.out.2.2
          have h2 := HTL.out
          rw [HSL.out] at h1 h2 ⊢
          exact h1.last h2)
        clear HI
        go_wp2_with (at_builtin; refine wpList_append_run rfl (.tmp 27) (.tmp 32) 43 43 rfl rfl rfl R.out ?_)
        go_roundw
        case rel => exact ⟨W ++ [t], s.size + 1, s.size + 1, by go_num, by go_num, by omega, by omega, HML.out, Lib.hid ⟨HF.out.1, HF.out.2, HW.out⟩⟩
        case measure => simp [intOf] <;> omega
      · have hee : ((i : Int) == (s.size : Int)) = false := by rw [beq_eq_false_iff_ne]; omega
        have hilt : i < s.size := by omega
        have hilt' : (i : Int) < (s.size : Int) := by omega
        obtain ⟨x, hx⟩ : ∃ x : UInt8, s[i]'hilt = x := ⟨_, rfl⟩
        have HX := Lib.hid (show l[i]? = some x by rw [← hx, HL.out]; exact Lib.data_getElem? s i hilt)
        by_cases hc : x = 32
        · subst hc
          have h32 : ((((32 : UInt8).toNat : Nat) : Int) == 32) = true := by decide
          have HW := Lib.hid (HI.out.2.2.space HX.out HTL.out)
          clear HI
          go_wp2_with (at_builtin; refine wpList_append_run rfl (.tmp 27) (.tmp 32) 43 43 rfl rfl rfl R.out ?_)
          go_roundw
          case rel => exact ⟨W ++ [t], i + 1, i + 1, by go_num, by go_num, by omega, by omega, HML.out, Lib.hid ⟨HF.out.1, HF.out.2, HW.out⟩⟩
          case measure => simp [intOf] <;> omega
        · have h32 : ((x.toNat : Int) == 32) = false := by rw [beq_eq_false_iff_ne]; intro e; exact hc (UInt8.toNat_inj.1 (show x.toNat = 32 by omega))
          have HW := Lib.hid (HI.out.2.2.other HX.out hc)
          clear hc R
          go_wp2_with fail
          go_roundw
          case rel => exact ⟨W, i + 1, b, by go_num, rfl, by omega, by omega, by rw [← HM.out]; omega, Lib.hid ⟨by rw [← HM.out]; exact HI.out.1, HI.out.2.1, HW.out⟩⟩
          case measure => simp [intOf] <;> omega
    · have HD := Lib.hid (HI.out.2.2.done (by rw [← HM.out]; exact hw20) (by rw [← HM.out, ← HSL.out]; omega))
      have HO := Lib.hid (And.intro HI.out.1 HI.out.2.1)
      have hgo2 : ¬ ((i : Int) ≤ (s.size : Int)) ∨ ((i : Int) ≤ (s.size : Int) ∧ ¬ ((m : Int) < 20)) := by omega
      clear HI hgo
      rcases hgo2 with h1 | ⟨h1, h2⟩
      all_goals
        go_wp2_with fail
        go_ret
        exact ⟨⟨_, W, rfl, by rw [← HL.out]; exact HD.out, by rw [← HM.out]; exact hw20, by rw [← HM.out]; exact HO.out.1⟩, HO.out.2⟩
theorem numGo_stop {n : Nat} (l : List UInt8) (h : ¬ n ≤ 115292150460684697) : numGo n l = n := by
  cases l with
  | nil => rfl
  | cons c l => rw [numGo, if_neg h]
set_option maxRecDepth 100000 in
set_option maxHeartbeats 4000000 in
theorem number_ref (s : ByteArray) (w : World) (hs : s.size ≤ 1000000) :
    Calls Tryz.prog 108 #[.string s] w fun e w' => e = .returned (.int .i64 ((numR s.data.toList : Nat) : Int)) ∧ w' = w := by
  have mixed : Tryz.prog.follows Departure.mixedOrders = true := by kernel_rfl
  obtain ⟨l, hl⟩ : ∃ l, l = s.data.toList := ⟨_, rfl⟩
  have HL := Lib.hid hl
  have HSL : Hid (s.size = l.length) := Lib.hid (by rw [hl, Lib.size_eq])
  rw [← hl]
  obtain ⟨r, hr⟩ : ∃ r, r = numR l := ⟨_, rfl⟩
  have HR := Lib.hid hr
  rw [← hr]
  clear hl hr
  go_enter Tryz.func108, Tryz.ntmps108
  go_wp2_with fail
  go_loopw [3, 4] (fun nv iv wr => ∃ a i : Nat, nv = .int .i64 a ∧ iv = .int .i64 i ∧ i ≤ s.size ∧ a ≤ 1152921504606846979 ∧ wr = w ∧ Hid (numGo 0 l = numGo a (l.drop i))) (fun _ iv _ => s.size - (intOf iv).toNat)
  case atStart => exact ⟨0, 0, rfl, rfl, by omega, by omega, rfl, Lib.hid (by simp)⟩
  case round =>
    obtain ⟨a, i, rfl, rfl, hi, ha, rfl, HI⟩ := hrel
    have hi0 : (0 : Int) ≤ (i : Int) := by omega
    by_cases hgo : i < s.size ∧ a ≤ 115292150460684697
    · obtain ⟨his, hal⟩ := hgo
      have his' : (i : Int) < (s.size : Int) := by omega
      have hal' : (a : Int) ≤ 115292150460684697 := by omega
      obtain ⟨x, hx⟩ : ∃ x : UInt8, s[i]'his = x := ⟨_, rfl⟩
      have HD : Hid (l.drop i = x :: l.drop (i + 1)) := Lib.hid (by
        have h1 : l[i]? = some x := by rw [← hx, HL.out]; exact Lib.data_getElem? s i his
        obtain ⟨h2, he⟩ := List.getElem?_eq_some_iff.1 h1
        rw [List.drop_eq_getElem_cons h2, he])
      have hwi : IntKind.i64.wrap ((i : Int) + 1) = (i : Int) + 1 := IntWalk.i64_in _ (by omega)
      by_cases hd : 48 ≤ x.toNat ∧ x.toNat ≤ 57
      · obtain ⟨hd1, hd2⟩ := hd
        have hd1' : (48 : Int) ≤ (x.toNat : Int) := by omega
        have hd2' : (x.toNat : Int) ≤ 57 := by omega
        obtain ⟨dg, hdg⟩ : ∃ dg : Nat, dg = x.toNat - 48 := ⟨_, rfl⟩
        have h8 : IntKind.u8.wrap ((x.toNat : Int) - 48) = (dg : Int) := by rw [IntKind.wrap_u8]; omega
        have h9 : IntKind.i64.wrap (dg : Int) = (dg : Int) := IntWalk.i64_in _ (by omega)
        have h10 : IntKind.i64.wrap (10 * (a : Int)) = 10 * (a : Int) := IntWalk.i64_in _ (by omega)
        have h11 : IntKind.i64.wrap (10 * (a : Int) + (dg : Int)) = 10 * (a : Int) + (dg : Int) := IntWalk.i64_in _ (by omega)
        have HN : Hid (numGo 0 l = numGo (10 * a + dg) (l.drop (i + 1))) := Lib.hid (by
          rw [HI.out, HD.out, numGo, if_pos hal, if_pos (by unfold isDig; simp; omega), hdg])
        have hb2 : 10 * a + dg ≤ 1152921504606846979 := by omega
        clear hdg
        go_wp2_with fail
        go_roundw
        case rel => exact ⟨10 * a + dg, i + 1, by go_num, by go_num, by omega, hb2, by first | rfl | trivial, HN⟩
        case measure => simp [intOf] <;> omega
      · have hdd : ¬ ((48 : Int) ≤ (x.toNat : Int)) ∨ ((48 : Int) ≤ (x.toNat : Int) ∧ ¬ ((x.toNat : Int) ≤ 57)) := by omega
        have HN : Hid (numGo 0 l = numGo a (l.drop (i + 1))) := Lib.hid (by
          rw [HI.out, HD.out, numGo, if_pos hal, if_neg (by unfold isDig; simp; omega)])
        clear hd
        rcases hdd with h1 | ⟨h1, h2⟩
        all_goals
          go_wp2_with fail
          go_roundw
          case rel => exact ⟨a, i + 1, rfl, by go_num, by omega, ha, by first | rfl | trivial, HN⟩
          case measure => simp [intOf] <;> omega
    · have HE : Hid (r = a) := Lib.hid (by
        rw [HR.out]
        unfold numR
        rw [HI.out]
        by_cases h : i < s.size
        · exact numGo_stop _ (by omega)
        · rw [List.drop_of_length_le (by rw [← HSL.out]; omega)]; rfl)
      have hgo2 : ¬ ((i : Int) < (s.size : Int)) ∨ ((i : Int) < (s.size : Int) ∧ ¬ ((a : Int) ≤ 115292150460684697)) := by omega
      clear hgo
      rcases hgo2 with h1 | ⟨h1, h2⟩
      all_goals
        go_wp2_with fail
        go_ret
        exact ⟨by rw [HE.out]; rfl, rfl⟩
end
section
open Go.RowKit Go.Shelf

def rS (w : ByteArray) : Sp := rStep w.data.toList
theorem rp_words {l : List UInt8} {W : List ByteArray} (hw : wlB W = wordsR l) {d0 : Dv} (hd : defOk d0) (ht : textD d0 = l) : wlB W = wordsD d0 := by rw [hw, ← ht, wordsR_text hd]
theorem rp_short {l : List UInt8} {W : List ByteArray} (hw : wlB W = wordsR l) (hl : W.length < 4) : ∀ d0, defOk d0 → textD d0 ≠ l := fun d0 hd ht => by
  have h := congrArg List.length (rp_words hw hd ht)
  unfold wlB at h
  rw [List.length_map, wordsD_len] at h
  have := hd.2.2.2.2.2.1
  omega
theorem rp_cut {l : List UInt8} {W : List ByteArray} (hw : wlB W = wordsR l) {i : Nat} {x : ByteArray} (hi : W[3 + i]? = some x) (hc : cutAt x.data.toList = x.data.toList.length) : ∀ d0, defOk d0 → textD d0 ≠ l := fun d0 hd ht => by
  have h := rp_words hw hd ht
  have h1 : (wlB W)[3 + i]? = some x.data.toList := by unfold wlB; rw [List.getElem?_map, hi]; rfl
  rw [h] at h1
  unfold wordsD at h1
  rw [show 3 + i = i + 1 + 1 + 1 by omega] at h1
  simp only [List.getElem?_cons_succ, List.getElem?_map, Option.map_eq_some_iff] at h1
  obtain ⟨p, hp, he⟩ := h1
  have := (rStep_spW (hd.2.2.2.2.2.2.2.all (List.mem_of_getElem? hp))).1
  rw [he] at this
  omega
theorem rp_eq {l : List UInt8} {W : List ByteArray} (hw : wlB W = wordsR l) {x0 x1 x2 : ByteArray} (h0 : W[0]? = some x0) (h1 : W[1]? = some x1) (h2 : W[2]? = some x2) {d0 : Dv} (hd : defOk d0) (ht : textD d0 = l) :
    (⟨x0, (small (numR x1.data.toList) : Nat), (small (numR x2.data.toList) : Nat), (W.drop 3).map rS⟩ : Dv) = d0 := by
  have h := rp_words hw hd ht
  match W, h0, h1, h2 with
  | a :: b :: c :: R, h0, h1, h2 =>
    cases h0; cases h1; cases h2
    unfold wlB wordsD at h
    simp only [List.map_cons, List.cons.injEq] at h
    obtain ⟨e0, e1, e2, e3⟩ := h
    obtain ⟨g1, g2, g3, g4, g5, g6, g7, g8⟩ := hd
    have m1 := numR_dgs (a := d0.r) g2 (by omega)
    have m2 := numR_dgs (a := d0.dl) g4 (by omega)
    obtain ⟨n', r', dl', s'⟩ := d0
    dsimp only at *
    rw [e1, e2]
    have hs : R.map rS = s' := by
      have h9 : (R.map (fun x => x.data.toList)).map rStep = s' := by
        rw [e3, List.map_map]
        conv => rhs; rw [← List.map_id s']
        exact List.map_congr_left fun p hp => (rStep_spW (g8.all hp)).2
      rw [← h9, List.map_map]
      rfl
    have hn : x0 = n' := by rw [← ba_eta x0, e0, ba_eta]
    have k1 : ((small (numR (dgs r')) : Nat) : Int) = r' := by unfold small; omega
    have k2 : ((small (numR (dgs dl')) : Nat) : Int) = dl' := by unfold small; omega
    rw [k1, k2, hn]
    show (⟨n', r', dl', R.map rS⟩ : Dv) = _
    rw [hs]
theorem numGo_le : ∀ (l : List UInt8) (a : Nat), a ≤ 1152921504606846979 → numGo a l ≤ 1152921504606846979
  | [], a, h => h
  | c :: l, a, h => by
    rw [numGo]
    split
    · split
      · rename_i h1 h2
        have := isDig_lt h2
        refine numGo_le l _ ?_
        unfold isDig at h2
        simp at h2
        omega
      · exact numGo_le l a h
    · exact h
theorem numR_le (l : List UInt8) : numR l ≤ 1152921504606846979 := numGo_le l 0 (by omega)
theorem cut_at {l : List UInt8} {q : Nat} (h1 : ∀ (j : Nat) c, j < q → l[j]? = some c → isSg c = false) (h2 : q = l.length ∨ ∃ c, l[q]? = some c ∧ isSg c = true) : cutAt l = q := by
  unfold cutAt
  induction l generalizing q with
  | nil => rcases h2 with h | ⟨c, h, _⟩ <;> simp_all
  | cons a l ih =>
    cases q with
    | zero =>
      rcases h2 with h | ⟨c, h, hs⟩
      · simp at h
      · cases h; simp [hs]
    | succ q =>
      have ha := h1 0 a (by omega) rfl
      have := ih (q := q) (fun j c hj hc => h1 (j + 1) c (by omega) hc) (by
        rcases h2 with h | ⟨c, h, hs⟩
        · exact Or.inl (by simpa using h)
        · exact Or.inr ⟨c, h, hs⟩)
      simp [ha, this]
theorem wGo_le : ∀ (l w x : List UInt8), x ∈ wGo w l → x.length ≤ w.length + l.length
  | [], w, x, h => by rw [wGo] at h; simp at h; rw [h]; simp
  | a :: l, w, x, h => by
    rw [wGo] at h
    split at h
    · rcases List.mem_cons.1 h with rfl | h
      · omega
      · have := wGo_le l [] x h
        simp at this ⊢; omega
    · have := wGo_le l _ x h
      simp at this ⊢; omega
theorem wordsR_le (l x : List UInt8) (h : x ∈ wordsR l) : x.length ≤ l.length := by
  have := wGo_le l [] x (List.mem_of_mem_take h)
  simpa using this
/-- What the reference holds in memory while it reads a text: its result, its definition, the words. -/
structure RpM (w W : World) (G D : Nat) (ws : List ByteArray) (dv : Array Value) : Prop where
  d : Whole W D 32 dv
  r : Whole W w.heap.size 32 #[.string ⟨#[]⟩, .int .i64 0, .int .i64 0, .slice none 0 0]
  b : Below w.heap.size w W
  o1 : w.heap.size < D
  g : ∀ (k : Nat) x, ws[k]? = some x → W.cell? ⟨G, k, none⟩ = some (.string x)
  o2 : G < D
theorem RpM.other {w W W2 : World} {G D : Nat} {ws : List ByteArray} {dv : Array Value} {row : Option Nat} (h : RpM w W G D ws dv) (hg : W.grownBy W2 row) (hr : ∀ k, row = some k → D < k) : RpM w W2 G D ws dv := by
  have a := h.o1
  have b := h.o2
  exact ⟨h.d.grown hg (fun e => by have := hr D e.symm; omega), h.r.grown hg (fun e => by have := hr _ e.symm; omega), h.b.grown hg h.b.size (fun k e => by have := hr k e; omega), a, fun k x hx => gcell (h.g k x hx) hg (fun e => by have := hr G e.symm; omega), b⟩
theorem RpM.keep {w W W2 : World} {G D : Nat} {ws : List ByteArray} {dv : Array Value} (h : RpM w W G D ws dv) (hb : Below W.heap.size W W2) : RpM w W2 G D ws dv := h.other (gbelow hb) (by simp)
theorem RpM.put {w W : World} {G D : Nat} {ws : List ByteArray} {dv : Array Value} (h : RpM w W G D ws dv) (i : Nat) (v : Value) : RpM w (W.setCell ⟨D, i, none⟩ v) G D ws (dv.setIfInBounds i v) := by
  have a := h.o1
  have b := h.o2
  have hg := grown_set (World.grownBy.refl W (some D)) i v
  exact ⟨h.d.put i v, h.r.grown hg (fun e => by cases e; omega), h.b.grown hg h.b.size (fun k e => by cases e; omega), a, fun k x hx => gcell (h.g k x hx) hg (fun e => by have e2 : G = D := (by simpa using e); omega), b⟩
theorem rp_pack {w w7 : World} {G D B0 k : Nat} {ws : List ByteArray} {x y z v : Value} {xs : List Value} (hM : RpM w w7 G D ws #[x, y, z, v]) (hO : w7.ownsRow B0 71 2 v k xs) (hD : D < B0) (hB : B0 ≤ w7.heap.size) (hk : k ≤ 1000) (ky : ByteArray) (iv : Int) :
    (w7.alloc (.cells #[.string ky, .int .i64 iv] 71)).cell? ⟨D, 3, none⟩ = some v ∧
    ∃ (A' : Option Addr) (c' : Nat) (w8 : World), Hid ((Builtin.append_ #[30, 30] 30 #[v, .slice (some ⟨w7.heap.size, 0, none⟩) 1 1]).run Tryz.prog (w7.alloc (.cells #[.string ky, .int .i64 iv] 71)) = .ok (.slice A' (k + 1) c') w8) ∧ w8.cell? ⟨D, 3, none⟩ = some v ∧ w8.frozen? ⟨D, 3, none⟩ = false ∧ Hid (∀ (j : Nat) x, ws[j]? = some x → w8.cell? ⟨G, j, none⟩ = some (.string x)) ∧
      Hid (RpM w (w8.setCell ⟨D, 3, none⟩ (.slice A' (k + 1) c')) G D ws #[x, y, z, .slice A' (k + 1) c'] ∧ (w8.setCell ⟨D, 3, none⟩ (.slice A' (k + 1) c')).ownsRow B0 71 2 (.slice A' (k + 1) c') (k + 1) (xs ++ [.string ky, .int .i64 iv]) ∧ B0 ≤ (w8.setCell ⟨D, 3, none⟩ (.slice A' (k + 1) c')).heap.size) := by
  have M7a := hM.keep ((Below.refl _ w7).alloc (Nat.le_refl _) (.cells #[.string ky, .int .i64 iv] 71))
  obtain ⟨v', w8, hrun, hown, hgr⟩ := run_app_step (w7.alloc (.cells #[.string ky, .int .i64 iv] 71)) B0 v k xs (hO.alloc _) ⟨w7.heap.size, 0, none⟩ 1 1 [.string ky, .int .i64 iv] rfl (news_at w7 _ [.string ky, .int .i64 iv] _ rfl) (by simp [Value.oneCell']) (by omega) (by simp; omega)
  obtain ⟨A', c', rfl, _⟩ := own_slice2 hown
  have hvb : ∀ j, v.ownBlock = some j → D < j := fun j e => Nat.lt_of_lt_of_le hD (hO.lt j e).1
  have M8 := M7a.other hgr hvb
  have g9 := grown_set (World.grownBy.refl w8 (some D)) 3 (.slice A' (k + 1) c')
  refine ⟨M7a.d.cell 3, A', c', w8, hrun, M8.d.cell 3, M8.d.fr 3, Lib.hid M8.g, ⟨?_, hown.kept g9 (Or.inr (fun e => by have := (hown.lt D e).1; omega)), ?_⟩⟩
  · have := M8.put 3 (.slice A' (k + 1) c')
    simpa using this
  · have := hgr.size
    simp only [World.size_alloc] at this
    simp [World.setCell]; omega
theorem rS_eq {x : ByteArray} {q : Nat} (hc : cutAt x.data.toList = q) : rS x = ⟨x.extract 0 q, if x.data.toList[q]? = some 45 then -((numR (x.extract (q + 1) x.size).data.toList : Nat) : Int) else (numR (x.extract (q + 1) x.size).data.toList : Nat)⟩ := by
  unfold rS rStep
  have h1 : (x.extract 0 q).data.toList = x.data.toList.take q := by rw [extract_list]; simp
  have h2 : (x.extract (q + 1) x.size).data.toList = x.data.toList.drop (q + 1) := by rw [extract_list, List.take_of_length_le (by rw [List.length_drop, ← Lib.size_eq]; omega)]
  rw [hc, h2, ← h1, ba_eta]
theorem rS_z {x : ByteArray} (hx : x.size ≤ 1000000) : SpZ (rS x) := by
  obtain ⟨q, hq⟩ : ∃ q, cutAt x.data.toList = q := ⟨_, rfl⟩
  rw [rS_eq hq]
  have := numR_le (x.extract (q + 1) x.size).data.toList
  have h3 : (x.extract 0 q).size ≤ x.size := by rw [ByteArray.size_extract]; omega
  refine ⟨?_, ?_, ?_⟩
  · dsimp only; omega
  · dsimp only; split <;> omega
  · dsimp only; split <;> omega
theorem rS_next {W : List ByteArray} {i : Nat} {x : ByteArray} (hi : W[i]? = some x) (h3 : 3 ≤ i) {p : Sp} (hp : rS x = p) : ((W.drop 3).take (i + 1 - 3)).map rS = ((W.drop 3).take (i - 3)).map rS ++ [p] := by
  rw [show i + 1 - 3 = i - 3 + 1 by omega, List.take_add_one, List.getElem?_drop, show 3 + (i - 3) = i by omega, hi, ← hp]
  simp
end
section
open Go.RowKit Go.Shelf

open Classical in
noncomputable def txtL (d : Dv) : List UInt8 := if defOk d then textD d else []
theorem txtL_yes {d : Dv} (h : defOk d) : txtL d = textD d := if_pos h
theorem txtL_no {d : Dv} (h : ¬ defOk d) : txtL d = [] := if_neg h
theorem rTxt_val {d : Dv} {e : Ending} (h : TxtR d e) : e = .returned (.tuple #[.string ⟨(txtL d).toArray⟩, .int .i64 (ckD d)]) := by
  rcases h with ⟨h0, rfl⟩ | ⟨h0, rfl⟩
  · rw [ckD_yes h0, txtL_yes h0]
  · rw [ckD_no h0, txtL_no h0]
theorem rparse_zeroF {s : List UInt8} {w w' : World} (h : ∀ d0, defOk d0 → textD d0 ≠ s) (hb : Below w.heap.size w w') : ParseF s w w' (.returned (.tuple #[.agg #[.string ⟨#[]⟩, .int .i64 0, .int .i64 0, .slice none 0 0], .int .i64 10])) :=
  ⟨⟨zeroD, none, 0, 0, 10, rfl, Or.inr ⟨rfl, rfl, h⟩, defAt_zero w', fun a e => by cases e⟩, hb⟩
set_option maxRecDepth 100000 in
set_option maxHeartbeats 4000000 in
theorem refParse_any (s : ByteArray) (w : World) (hs : s.size ≤ 1000000) :
    Calls Tryz.prog 70 #[.string s] w fun e w' => ParseF s.data.toList w w' e := by
  have mixed : Tryz.prog.follows Departure.mixedOrders = true := by kernel_rfl
  have R1 := Lib.hid (Whole.new w 32 #[.string ⟨#[]⟩, .int .i64 0, .int .i64 0, .slice none 0 0])
  have b1 := Lib.hid ((Below.refl w.heap.size w).alloc (Nat.le_refl _) (.cells #[.string ⟨#[]⟩, .int .i64 0, .int .i64 0, .slice none 0 0] 32))
  have WD := Lib.hid (words_any s (w.alloc (.cells #[.string ⟨#[]⟩, .int .i64 0, .int .i64 0, .slice none 0 0] 32)) hs)
  have HSS := Lib.hid hs
  unfold WdsR at WD
  clear hs
  go_enter Tryz.func70, Tryz.ntmps70
  go_upto_region 2 with (go_at_call 106; refine WD.out.mono ?_; rintro e w1 ⟨⟨v, ws, rfl, hw, h20, hown⟩, hb1⟩)
  obtain ⟨A, c, rfl, hmc⟩ := own_slice2 hown
  obtain ⟨m, hm⟩ : ∃ m, m = ws.length := ⟨_, rfl⟩
  have HWM := Lib.hid hm
  rw [← hm] at hown h20 hmc ⊢
  have R2 := Lib.hid (R1.out.keep hb1)
  have BW1 := Lib.hid (b1.out.trans (hb1.mono b1.out.size))
  have HW := Lib.hid hw
  have HO := Lib.hid hown
  have HZ : Hid (∀ x ∈ ws, x.size ≤ 1000000) := Lib.hid (fun x hx => by
    have h1 : x.data.toList ∈ wlB ws := List.mem_map_of_mem hx
    rw [hw] at h1
    have h2 := wordsR_le _ _ h1
    have := HSS.out
    rw [Lib.size_eq] at this ⊢
    omega)
  clear R1 b1 WD hb1 hw hown hm
  by_cases hlen : m < 4
  case pos =>
    have HB := Lib.hid (rp_short HW.out (by rw [← HWM.out]; exact hlen))
    have hlen' : (m : Int) < 4 := by omega
    obtain ⟨⟨r0, r1', r2, r3⟩, s0, s1, s2, s3⟩ := whole4 R2.out
    have hRlt := R2.out.lt
    clear hlen
    go_wp2_with fail
    refine bodyPost_ret (v := .tuple #[.agg #[.string ⟨#[]⟩, .int .i64 0, .int .i64 0, .slice none 0 0], .int .i64 10]) ?_ rfl ?_
    · simp [results, Tryz.results70, go_sem, r0, r1', r2, r3]
    · exact rparse_zeroF HB.out (((((BW1.out).setCell (p := ⟨w.heap.size, 0, none⟩) (Nat.le_refl _) _).setCell (p := ⟨w.heap.size, 1, none⟩) (Nat.le_refl _) _).setCell (p := ⟨w.heap.size, 2, none⟩) (Nat.le_refl _) _).setCell (p := ⟨w.heap.size, 3, none⟩) (Nat.le_refl _) _)
  have hlen' : ¬ ((m : Int) < 4) := by omega
  have h4 : 4 ≤ m := by omega
  obtain ⟨G, rfl⟩ : ∃ G, A = some ⟨G, 0, none⟩ := by
    rcases HO.out.2 with ⟨_, h2⟩ | ⟨g, cap, cur, h1, _, _⟩
    · omega
    · cases h1; exact ⟨g, rfl⟩
  have HC : Hid (∀ (k : Nat) x, ws[k]? = some x → w1.cell? ⟨G, k, none⟩ = some (.string x)) := Lib.hid (fun k x hx => by
    have hk := (List.getElem?_eq_some_iff.1 hx).1
    have := HO.out.cellAt k (by rw [← HWM.out] at hk; omega)
    rw [this, List.getElem?_map, hx]; rfl)
  obtain ⟨x0, hx0⟩ : ∃ x, ws[0]? = some x := ⟨_, List.getElem?_eq_getElem (by rw [← HWM.out]; omega)⟩
  obtain ⟨x1, hx1⟩ : ∃ x, ws[1]? = some x := ⟨_, List.getElem?_eq_getElem (by rw [← HWM.out]; omega)⟩
  obtain ⟨x2, hx2⟩ : ∃ x, ws[2]? = some x := ⟨_, List.getElem?_eq_getElem (by rw [← HWM.out]; omega)⟩
  have HX := Lib.hid (And.intro hx0 (And.intro hx1 hx2))
  have SA : Hid (w1.drew.cell? ⟨G, 0, none⟩ = some (.string x0) ∧ w1.drew.cell? ⟨G, 1, none⟩ = some (.string x1) ∧ w1.drew.cell? ⟨G, 2, none⟩ = some (.string x2) ∧ Below w1.heap.size w1 w1.drew) := Lib.hid ⟨HC.out 0 x0 hx0, HC.out 1 x1 hx1, HC.out 2 x2 hx2, (Below.refl _ _).drew⟩
  have N1 := Lib.hid (fun W => (number_ref x1 W (HZ.out x1 (List.mem_of_getElem? hx1))).mono (R' := fun e w' => e = .returned (.int .i64 ((numR x1.data.toList : Nat) : Int)) ∧ Below W.heap.size W w') (fun e w' ⟨h, hw⟩ => ⟨h, by rw [hw]; exact Below.refl _ _⟩))
  have N2 := Lib.hid (fun W => (number_ref x2 W (HZ.out x2 (List.mem_of_getElem? hx2))).mono (R' := fun e w' => e = .returned (.int .i64 ((numR x2.data.toList : Nat) : Int)) ∧ Below W.heap.size W w') (fun e w' ⟨h, hw⟩ => ⟨h, by rw [hw]; exact Below.refl _ _⟩))
  have b01 := numR_le x1.data.toList
  have b02 := numR_le x2.data.toList
  obtain ⟨r1, hr1⟩ : ∃ r1, small (numR x1.data.toList) = r1 := ⟨_, rfl⟩
  obtain ⟨t1, ht1⟩ : ∃ t1, small (numR x2.data.toList) = t1 := ⟨_, rfl⟩
  have HRT : Hid ((∀ d0, defOk d0 → textD d0 = s.data.toList → (⟨x0, (r1 : Nat), (t1 : Nat), (ws.drop 3).map rS⟩ : Dv) = d0) ∧ r1 ≤ 1000000 ∧ t1 ≤ 1000000) := Lib.hid ⟨fun d0 h0 h1 => by rw [← hr1, ← ht1]; exact rp_eq HW.out hx0 hx1 hx2 h0 h1, by rw [← hr1]; exact small_le _, by rw [← ht1]; exact small_le _⟩
  have S1 := Lib.hid (fun W => (small26_any (numR x1.data.toList) W (by omega)).mono (R' := fun e w' => e = .returned (.int .i64 ((small (numR x1.data.toList) : Nat) : Int)) ∧ Below W.heap.size W w') (fun e w' ⟨h, hw⟩ => ⟨h, by rw [← hw]; exact Below.refl _ _⟩))
  have S2 := Lib.hid (fun W => (small26_any (numR x2.data.toList) W (by omega)).mono (R' := fun e w' => e = .returned (.int .i64 ((small (numR x2.data.toList) : Nat) : Int)) ∧ Below W.heap.size W w') (fun e w' ⟨h, hw⟩ => ⟨h, by rw [← hw]; exact Below.refl _ _⟩))
  rw [hr1] at S1
  rw [ht1] at S2
  generalize numR x1.data.toList = n1 at N1 S1 b01
  generalize numR x2.data.toList = n2 at N2 S2 b02
  have hwu1 : IntKind.u64.wrap (n1 : Int) = (n1 : Int) := by rw [IntKind.wrap_u64]; omega
  have hwu2 : IntKind.u64.wrap (n2 : Int) = (n2 : Int) := by rw [IntKind.wrap_u64]; omega
  clear hx0 hx1 hx2 hr1 ht1 b01 b02 hlen
  go_upto_region 4 with fail
  go_cut [5] from 33 (fun s5 wx => ∃ D, s5 = .pointer (some ⟨D, 0, none⟩) ∧ Hid (Whole wx D 32 #[.string x0, .int .i64 (r1 : Int), .int .i64 (t1 : Int), .slice none 0 0] ∧ Below w1.heap.size w1 wx ∧ w1.heap.size ≤ D))
  case first =>
    have hGl : G < w1.heap.size := lt_cell SA.out.1
    have h0n : 0 < m := by omega
    have h0m : (0 : Int) < (m : Int) := by omega
    have h1n : 1 < m := by omega
    have h2n : 2 < m := by omega
    have h1m : (1 : Int) < (m : Int) := by omega
    have h2m : (2 : Int) < (m : Int) := by omega
    refine wp_region_held_drew (S := fun wx => wx.cell? ⟨G, 0, none⟩ = some (.string x0) ∧ wx.cell? ⟨G, 1, none⟩ = some (.string x1) ∧ wx.cell? ⟨G, 2, none⟩ = some (.string x2) ∧ Below w1.heap.size w1 wx) (by kernel_rfl) SA.out (fun hHeld => ?_)
    refine wpAnyH_take (i := 0) (v := ?_) rfl (by kernel_rfl) (by kernel_rfl) (by kernel_rfl) (fun _ _ _ h => h) (Or.inl ⟨by rfl, ?_⟩) (by assumption) ?_
    rotate_left
    · intro w hSw
      go_simp
      try with_reducible rfl
    simp only [Act.put, List.getElem_toArray, List.getElem_cons_zero, List.setIfInBounds_toArray, List.set_cons_zero, List.set_cons_succ]
    refine wpAnyH_take (i := 1) (v := ?_) rfl (by kernel_rfl) (by kernel_rfl) (by kernel_rfl) (fun _ _ _ h => h) (Or.inl ⟨by rfl, ?_⟩) (by assumption) ?_
    rotate_left
    · intro w hSw
      go_simp
      try with_reducible rfl
    simp only [Act.put, List.getElem_toArray, List.getElem_cons_succ, List.getElem_cons_zero, List.setIfInBounds_toArray, List.set_cons_zero, List.set_cons_succ]
    refine wpAnyH_take (i := 2) (v := ?_) rfl (by kernel_rfl) (by kernel_rfl) (by kernel_rfl) (fun _ _ _ h => h) (Or.inl ⟨by rfl, ?_⟩) (by assumption) ?_
    rotate_left
    · intro w hSw
      go_simp
      try with_reducible rfl
    simp only [Act.put, List.getElem_toArray, List.getElem_cons_succ, List.getElem_cons_zero, List.setIfInBounds_toArray, List.set_cons_zero, List.set_cons_succ]
    refine wpAnyH_take (i := 3) (v := ?_) rfl (by kernel_rfl) (by kernel_rfl) (by kernel_rfl) (fun _ _ _ h => h) (Or.inl ⟨by rfl, ?_⟩) (by assumption) ?_
    rotate_left
    · intro w hSw
      go_simp
      try with_reducible rfl
    simp only [Act.put, List.getElem_toArray, List.getElem_cons_succ, List.getElem_cons_zero, List.setIfInBounds_toArray, List.set_cons_zero, List.set_cons_succ]
    refine wpAnyH_take (i := 4) (v := ?_) rfl (by kernel_rfl) (by kernel_rfl) (by kernel_rfl) (fun _ _ _ h => h) (Or.inl ⟨by rfl, ?_⟩) (by assumption) ?_
    rotate_left
    · intro w hSw
      go_simp
      try with_reducible rfl
    simp only [Act.put, List.getElem_toArray, List.getElem_cons_succ, List.getElem_cons_zero, List.setIfInBounds_toArray, List.set_cons_zero, List.set_cons_succ]
    refine wpAnyH_take (i := 5) (v := ?_) rfl (by kernel_rfl) (by kernel_rfl) (by kernel_rfl) (fun _ _ _ h => h) (Or.inl ⟨by rfl, ?_⟩) (by assumption) ?_
    rotate_left
    · intro w hSw
      go_simp
      try with_reducible rfl
    simp only [Act.put, List.getElem_toArray, List.getElem_cons_succ, List.getElem_cons_zero, List.setIfInBounds_toArray, List.set_cons_zero, List.set_cons_succ]
    refine wpAnyH_take (i := 9) (v := ?_) rfl (by kernel_rfl) (by kernel_rfl) (by kernel_rfl) (fun _ _ _ h => h) (Or.inl ⟨by rfl, ?_⟩) (by assumption) ?_
    rotate_left
    · intro w hSw
      go_simp
      try with_reducible rfl
    simp only [Act.put, List.getElem_toArray, List.getElem_cons_succ, List.getElem_cons_zero, List.setIfInBounds_toArray, List.set_cons_zero, List.set_cons_succ]
    refine wpAnyH_take (i := 10) (v := ?_) rfl (by kernel_rfl) (by kernel_rfl) (by kernel_rfl) (fun _ _ _ h => h) (Or.inl ⟨by rfl, ?_⟩) (by assumption) ?_
    rotate_left
    · intro w hSw
      go_simp
      try with_reducible rfl
    simp only [Act.put, List.getElem_toArray, List.getElem_cons_succ, List.getElem_cons_zero, List.setIfInBounds_toArray, List.set_cons_zero, List.set_cons_succ]
    refine wpAnyH_take (i := 11) (v := ?_) rfl (by kernel_rfl) (by kernel_rfl) (by kernel_rfl) (fun _ _ _ h => h) (Or.inl ⟨by rfl, ?_⟩) (by assumption) ?_
    rotate_left
    · intro w hSw
      go_simp
      try with_reducible rfl
    simp only [Act.put, List.getElem_toArray, List.getElem_cons_succ, List.getElem_cons_zero, List.setIfInBounds_toArray, List.set_cons_zero, List.set_cons_succ]
    refine wpAnyH_ready (rs := [6, 16]) (by kernel_rfl) (by simp) ?_
    refine AllReadyH.cons rfl (fun K hK => ?_) (AllReadyH.cons rfl (fun K hK => ?_) AllReadyH.nil)
    · go_simp
      refine (N1.out _).mono ?_
      rintro e wa ⟨rfl, hb⟩
      try go_simp
      refine hK.out _ _ ?_ (fun hHeld' => ?_)
      · exact ⟨bcell hHeld.1 hb, bcell hHeld.2.1 hb, bcell hHeld.2.2.1 hb, hHeld.2.2.2.trans (hb.mono hHeld.2.2.2.size)⟩
      clear hK K hHeld
      have hHeld := hHeld'
      clear hHeld'
      try simp only [Act.put, List.getElem_toArray, List.getElem_cons_succ, List.getElem_cons_zero, List.setIfInBounds_toArray, List.set_cons_zero, List.set_cons_succ]
      clear hb
      refine wpAnyH_take (i := 7) (v := ?_) rfl (by kernel_rfl) (by kernel_rfl) (by kernel_rfl) (fun _ _ _ h => h) (Or.inl ⟨by rfl, ?_⟩) (by assumption) ?_
      rotate_left
      · intro w hSw
        go_simp
        try with_reducible rfl
      simp only [Act.put, List.getElem_toArray, List.getElem_cons_succ, List.getElem_cons_zero, List.setIfInBounds_toArray, List.set_cons_zero, List.set_cons_succ]
      refine wpAnyH_ready (rs := [8, 16]) (by kernel_rfl) (by simp) ?_
      refine AllReadyH.cons rfl (fun K hK => ?_) (AllReadyH.cons rfl (fun K hK => ?_) AllReadyH.nil)
      · go_simp
        refine (S1.out _).mono ?_
        rintro e wb ⟨rfl, hb⟩
        try go_simp
        refine hK.out _ _ ?_ (fun hHeld' => ?_)
        · exact ⟨bcell hHeld.1 hb, bcell hHeld.2.1 hb, bcell hHeld.2.2.1 hb, hHeld.2.2.2.trans (hb.mono hHeld.2.2.2.size)⟩
        clear hK K hHeld
        have hHeld := hHeld'
        clear hHeld'
        try simp only [Act.put, List.getElem_toArray, List.getElem_cons_succ, List.getElem_cons_zero, List.setIfInBounds_toArray, List.set_cons_zero, List.set_cons_succ]
        clear hb
        refine wpAnyH_ready (rs := [12, 16]) (by kernel_rfl) (by simp) ?_
        refine AllReadyH.cons rfl (fun K hK => ?_) (AllReadyH.cons rfl (fun K hK => ?_) AllReadyH.nil)
        · go_simp
          refine (N2.out _).mono ?_
          rintro e wc ⟨rfl, hb⟩
          try go_simp
          refine hK.out _ _ ?_ (fun hHeld' => ?_)
          · exact ⟨bcell hHeld.1 hb, bcell hHeld.2.1 hb, bcell hHeld.2.2.1 hb, hHeld.2.2.2.trans (hb.mono hHeld.2.2.2.size)⟩
          clear hK K hHeld
          have hHeld := hHeld'
          clear hHeld'
          try simp only [Act.put, List.getElem_toArray, List.getElem_cons_succ, List.getElem_cons_zero, List.setIfInBounds_toArray, List.set_cons_zero, List.set_cons_succ]
          clear hb
          refine wpAnyH_take (i := 13) (v := ?_) rfl (by kernel_rfl) (by kernel_rfl) (by kernel_rfl) (fun _ _ _ h => h) (Or.inl ⟨by rfl, ?_⟩) (by assumption) ?_
          rotate_left
          · intro w hSw
            go_simp
            try with_reducible rfl
          simp only [Act.put, List.getElem_toArray, List.getElem_cons_succ, List.getElem_cons_zero, List.setIfInBounds_toArray, List.set_cons_zero, List.set_cons_succ]
          refine wpAnyH_ready (rs := [14, 16]) (by kernel_rfl) (by simp) ?_
          refine AllReadyH.cons rfl (fun K hK => ?_) (AllReadyH.cons rfl (fun K hK => ?_) AllReadyH.nil)
          · go_simp
            refine (S2.out _).mono ?_
            rintro e wd ⟨rfl, hb⟩
            try go_simp
            refine hK.out _ _ ?_ (fun hHeld' => ?_)
            · exact ⟨bcell hHeld.1 hb, bcell hHeld.2.1 hb, bcell hHeld.2.2.1 hb, hHeld.2.2.2.trans (hb.mono hHeld.2.2.2.size)⟩
            clear hK K hHeld
            have hHeld := hHeld'
            clear hHeld'
            try simp only [Act.put, List.getElem_toArray, List.getElem_cons_succ, List.getElem_cons_zero, List.setIfInBounds_toArray, List.set_cons_zero, List.set_cons_succ]
            clear hb
            refine wpAnyH_take (i := 15) (v := ?_) rfl (by kernel_rfl) (by kernel_rfl) (by kernel_rfl) (fun _ _ _ h => h) (Or.inl ⟨by rfl, ?_⟩) (by assumption) ?_
            rotate_left
            · intro w hSw
              go_simp
              try with_reducible rfl
            simp only [Act.put, List.getElem_toArray, List.getElem_cons_succ, List.getElem_cons_zero, List.setIfInBounds_toArray, List.set_cons_zero, List.set_cons_succ]
            have h7 := Lib.hid hHeld
            have h3 := hHeld.2.2.2.size
            refine wpAnyH_ready (rs := [16]) (by kernel_rfl) (by simp) ?_
            refine AllReadyH.cons rfl (fun K hK => ?_) AllReadyH.nil
            go_simp
            refine hK.out _ _ ?_ (fun hHeld' => ?_)
            · exact ⟨acell _ hHeld.1, acell _ hHeld.2.1, acell _ hHeld.2.2.1, hHeld.2.2.2.alloc hHeld.2.2.2.size _⟩
            clear hK K hHeld
            have hHeld := hHeld'
            clear hHeld'
            try simp only [Act.put, List.getElem_toArray, List.getElem_cons_succ, List.getElem_cons_zero, List.setIfInBounds_toArray, List.set_cons_zero, List.set_cons_succ]
            refine wpAnyH_ready (rs := [17]) (by kernel_rfl) (by simp) ?_
            refine AllReadyH.cons rfl (fun K hK => ?_) AllReadyH.nil
            go_simp
            refine hK.out _ _ ?_ (fun hHeld' => ?_)
            · exact ⟨acell _ h7.out.1, acell _ h7.out.2.1, acell _ h7.out.2.2.1, h7.out.2.2.2.alloc h7.out.2.2.2.size _⟩
            clear hK K hHeld
            have hHeld := hHeld'
            clear hHeld'
            try simp only [Act.put, List.getElem_toArray, List.getElem_cons_succ, List.getElem_cons_zero, List.setIfInBounds_toArray, List.set_cons_zero, List.set_cons_succ]
            refine wpAnyH_done (by kernel_rfl) ?_ _
            have HF := Lib.hid (And.intro (Whole.new wd 32 #[.string x0, .int .i64 (r1 : Int), .int .i64 (t1 : Int), .slice none 0 0]) (And.intro (h7.out.2.2.2.alloc h7.out.2.2.2.size (.cells #[.string x0, .int .i64 (r1 : Int), .int .i64 (t1 : Int), .slice none 0 0] 32)) h3))
            clear hHeld SA h7
            go_wp2_with fail
            go_meet
            case rel => exact ⟨_, rfl, HF⟩
          · have hN := Whole.new wc 32 #[.string ⟨#[]⟩, .int .i64 0, .int .i64 0, .slice none 0 0]
            have h3 := hHeld.2.2.2.size
            go_simp
            refine hK.out _ _ ?_ (fun hHeld' => ?_)
            · exact ⟨acell _ hHeld.1, acell _ hHeld.2.1, acell _ hHeld.2.2.1, hHeld.2.2.2.alloc hHeld.2.2.2.size _⟩
            clear hK K hHeld
            have hHeld := hHeld'
            clear hHeld'
            try simp only [Act.put, List.getElem_toArray, List.getElem_cons_succ, List.getElem_cons_zero, List.setIfInBounds_toArray, List.set_cons_zero, List.set_cons_succ]
            refine wpAnyH_ready (rs := [14]) (by kernel_rfl) (by simp) ?_
            refine AllReadyH.cons rfl (fun K hK => ?_) AllReadyH.nil
            go_simp
            refine (S2.out _).mono ?_
            rintro e wd ⟨rfl, hb⟩
            try go_simp
            refine hK.out _ _ ?_ (fun hHeld' => ?_)
            · exact ⟨bcell hHeld.1 hb, bcell hHeld.2.1 hb, bcell hHeld.2.2.1 hb, hHeld.2.2.2.trans (hb.mono hHeld.2.2.2.size)⟩
            clear hK K hHeld
            have hHeld := hHeld'
            clear hHeld'
            try simp only [Act.put, List.getElem_toArray, List.getElem_cons_succ, List.getElem_cons_zero, List.setIfInBounds_toArray, List.set_cons_zero, List.set_cons_succ]
            have hN := hN.keep hb
            clear hb
            refine wpAnyH_take (i := 15) (v := ?_) rfl (by kernel_rfl) (by kernel_rfl) (by kernel_rfl) (fun _ _ _ h => h) (Or.inl ⟨by rfl, ?_⟩) (by assumption) ?_
            rotate_left
            · intro w hSw
              go_simp
              try with_reducible rfl
            simp only [Act.put, List.getElem_toArray, List.getElem_cons_succ, List.getElem_cons_zero, List.setIfInBounds_toArray, List.set_cons_zero, List.set_cons_succ]
            obtain ⟨⟨n0, n1', n2', n3⟩, g0, g1, g2, g3⟩ := whole4 hN
            have h7 := Lib.hid hHeld
            refine wpAnyH_ready (rs := [17]) (by kernel_rfl) (by simp) ?_
            refine AllReadyH.cons rfl (fun K hK => ?_) AllReadyH.nil
            go_simp
            refine hK.out _ _ ?_ (fun hHeld' => ?_)
            · exact ⟨gcell hHeld.1 (put4_grown _ _ _ _ _ _) (by simp; omega), gcell hHeld.2.1 (put4_grown _ _ _ _ _ _) (by simp; omega), gcell hHeld.2.2.1 (put4_grown _ _ _ _ _ _) (by simp; omega), hHeld.2.2.2.grown (put4_grown _ _ _ _ _ _) hHeld.2.2.2.size (fun k e => by cases e; omega)⟩
            clear hK K hHeld
            have hHeld := hHeld'
            clear hHeld'
            try simp only [Act.put, List.getElem_toArray, List.getElem_cons_succ, List.getElem_cons_zero, List.setIfInBounds_toArray, List.set_cons_zero, List.set_cons_succ]
            refine wpAnyH_done (by kernel_rfl) ?_ _
            have HF := Lib.hid (And.intro (whole_put4 hN (.string x0) (.int .i64 (r1 : Int)) (.int .i64 (t1 : Int)) (.slice none 0 0)) (And.intro hHeld.2.2.2 h3))
            clear hHeld SA h7
            go_wp2_with fail
            go_meet
            case rel => exact ⟨_, rfl, HF⟩
        · have hN := Whole.new wb 32 #[.string ⟨#[]⟩, .int .i64 0, .int .i64 0, .slice none 0 0]
          have h3 := hHeld.2.2.2.size
          go_simp
          refine hK.out _ _ ?_ (fun hHeld' => ?_)
          · exact ⟨acell _ hHeld.1, acell _ hHeld.2.1, acell _ hHeld.2.2.1, hHeld.2.2.2.alloc hHeld.2.2.2.size _⟩
          clear hK K hHeld
          have hHeld := hHeld'
          clear hHeld'
          try simp only [Act.put, List.getElem_toArray, List.getElem_cons_succ, List.getElem_cons_zero, List.setIfInBounds_toArray, List.set_cons_zero, List.set_cons_succ]
          refine wpAnyH_ready (rs := [12]) (by kernel_rfl) (by simp) ?_
          refine AllReadyH.cons rfl (fun K hK => ?_) AllReadyH.nil
          go_simp
          refine (N2.out _).mono ?_
          rintro e wc ⟨rfl, hb⟩
          try go_simp
          refine hK.out _ _ ?_ (fun hHeld' => ?_)
          · exact ⟨bcell hHeld.1 hb, bcell hHeld.2.1 hb, bcell hHeld.2.2.1 hb, hHeld.2.2.2.trans (hb.mono hHeld.2.2.2.size)⟩
          clear hK K hHeld
          have hHeld := hHeld'
          clear hHeld'
          try simp only [Act.put, List.getElem_toArray, List.getElem_cons_succ, List.getElem_cons_zero, List.setIfInBounds_toArray, List.set_cons_zero, List.set_cons_succ]
          have hN := hN.keep hb
          clear hb
          refine wpAnyH_take (i := 13) (v := ?_) rfl (by kernel_rfl) (by kernel_rfl) (by kernel_rfl) (fun _ _ _ h => h) (Or.inl ⟨by rfl, ?_⟩) (by assumption) ?_
          rotate_left
          · intro w hSw
            go_simp
            try with_reducible rfl
          simp only [Act.put, List.getElem_toArray, List.getElem_cons_succ, List.getElem_cons_zero, List.setIfInBounds_toArray, List.set_cons_zero, List.set_cons_succ]
          refine wpAnyH_ready (rs := [14]) (by kernel_rfl) (by simp) ?_
          refine AllReadyH.cons rfl (fun K hK => ?_) AllReadyH.nil
          go_simp
          refine (S2.out _).mono ?_
          rintro e wd ⟨rfl, hb⟩
          try go_simp
          refine hK.out _ _ ?_ (fun hHeld' => ?_)
          · exact ⟨bcell hHeld.1 hb, bcell hHeld.2.1 hb, bcell hHeld.2.2.1 hb, hHeld.2.2.2.trans (hb.mono hHeld.2.2.2.size)⟩
          clear hK K hHeld
          have hHeld := hHeld'
          clear hHeld'
          try simp only [Act.put, List.getElem_toArray, List.getElem_cons_succ, List.getElem_cons_zero, List.setIfInBounds_toArray, List.set_cons_zero, List.set_cons_succ]
          have hN := hN.keep hb
          clear hb
          refine wpAnyH_take (i := 15) (v := ?_) rfl (by kernel_rfl) (by kernel_rfl) (by kernel_rfl) (fun _ _ _ h => h) (Or.inl ⟨by rfl, ?_⟩) (by assumption) ?_
          rotate_left
          · intro w hSw
            go_simp
            try with_reducible rfl
          simp only [Act.put, List.getElem_toArray, List.getElem_cons_succ, List.getElem_cons_zero, List.setIfInBounds_toArray, List.set_cons_zero, List.set_cons_succ]
          obtain ⟨⟨n0, n1', n2', n3⟩, g0, g1, g2, g3⟩ := whole4 hN
          have h7 := Lib.hid hHeld
          refine wpAnyH_ready (rs := [17]) (by kernel_rfl) (by simp) ?_
          refine AllReadyH.cons rfl (fun K hK => ?_) AllReadyH.nil
          go_simp
          refine hK.out _ _ ?_ (fun hHeld' => ?_)
          · exact ⟨gcell hHeld.1 (put4_grown _ _ _ _ _ _) (by simp; omega), gcell hHeld.2.1 (put4_grown _ _ _ _ _ _) (by simp; omega), gcell hHeld.2.2.1 (put4_grown _ _ _ _ _ _) (by simp; omega), hHeld.2.2.2.grown (put4_grown _ _ _ _ _ _) hHeld.2.2.2.size (fun k e => by cases e; omega)⟩
          clear hK K hHeld
          have hHeld := hHeld'
          clear hHeld'
          try simp only [Act.put, List.getElem_toArray, List.getElem_cons_succ, List.getElem_cons_zero, List.setIfInBounds_toArray, List.set_cons_zero, List.set_cons_succ]
          refine wpAnyH_done (by kernel_rfl) ?_ _
          have HF := Lib.hid (And.intro (whole_put4 hN (.string x0) (.int .i64 (r1 : Int)) (.int .i64 (t1 : Int)) (.slice none 0 0)) (And.intro hHeld.2.2.2 h3))
          clear hHeld SA h7
          go_wp2_with fail
          go_meet
          case rel => exact ⟨_, rfl, HF⟩
      · have hN := Whole.new wa 32 #[.string ⟨#[]⟩, .int .i64 0, .int .i64 0, .slice none 0 0]
        have h3 := hHeld.2.2.2.size
        go_simp
        refine hK.out _ _ ?_ (fun hHeld' => ?_)
        · exact ⟨acell _ hHeld.1, acell _ hHeld.2.1, acell _ hHeld.2.2.1, hHeld.2.2.2.alloc hHeld.2.2.2.size _⟩
        clear hK K hHeld
        have hHeld := hHeld'
        clear hHeld'
        try simp only [Act.put, List.getElem_toArray, List.getElem_cons_succ, List.getElem_cons_zero, List.setIfInBounds_toArray, List.set_cons_zero, List.set_cons_succ]
        refine wpAnyH_ready (rs := [8]) (by kernel_rfl) (by simp) ?_
        refine AllReadyH.cons rfl (fun K hK => ?_) AllReadyH.nil
        go_simp
        refine (S1.out _).mono ?_
        rintro e wb ⟨rfl, hb⟩
        try go_simp
        refine hK.out _ _ ?_ (fun hHeld' => ?_)
        · exact ⟨bcell hHeld.1 hb, bcell hHeld.2.1 hb, bcell hHeld.2.2.1 hb, hHeld.2.2.2.trans (hb.mono hHeld.2.2.2.size)⟩
        clear hK K hHeld
        have hHeld := hHeld'
        clear hHeld'
        try simp only [Act.put, List.getElem_toArray, List.getElem_cons_succ, List.getElem_cons_zero, List.setIfInBounds_toArray, List.set_cons_zero, List.set_cons_succ]
        have hN := hN.keep hb
        clear hb
        refine wpAnyH_ready (rs := [12]) (by kernel_rfl) (by simp) ?_
        refine AllReadyH.cons rfl (fun K hK => ?_) AllReadyH.nil
        go_simp
        refine (N2.out _).mono ?_
        rintro e wc ⟨rfl, hb⟩
        try go_simp
        refine hK.out _ _ ?_ (fun hHeld' => ?_)
        · exact ⟨bcell hHeld.1 hb, bcell hHeld.2.1 hb, bcell hHeld.2.2.1 hb, hHeld.2.2.2.trans (hb.mono hHeld.2.2.2.size)⟩
        clear hK K hHeld
        have hHeld := hHeld'
        clear hHeld'
        try simp only [Act.put, List.getElem_toArray, List.getElem_cons_succ, List.getElem_cons_zero, List.setIfInBounds_toArray, List.set_cons_zero, List.set_cons_succ]
        have hN := hN.keep hb
        clear hb
        refine wpAnyH_take (i := 13) (v := ?_) rfl (by kernel_rfl) (by kernel_rfl) (by kernel_rfl) (fun _ _ _ h => h) (Or.inl ⟨by rfl, ?_⟩) (by assumption) ?_
        rotate_left
        · intro w hSw
          go_simp
          try with_reducible rfl
        simp only [Act.put, List.getElem_toArray, List.getElem_cons_succ, List.getElem_cons_zero, List.setIfInBounds_toArray, List.set_cons_zero, List.set_cons_succ]
        refine wpAnyH_ready (rs := [14]) (by kernel_rfl) (by simp) ?_
        refine AllReadyH.cons rfl (fun K hK => ?_) AllReadyH.nil
        go_simp
        refine (S2.out _).mono ?_
        rintro e wd ⟨rfl, hb⟩
        try go_simp
        refine hK.out _ _ ?_ (fun hHeld' => ?_)
        · exact ⟨bcell hHeld.1 hb, bcell hHeld.2.1 hb, bcell hHeld.2.2.1 hb, hHeld.2.2.2.trans (hb.mono hHeld.2.2.2.size)⟩
        clear hK K hHeld
        have hHeld := hHeld'
        clear hHeld'
        try simp only [Act.put, List.getElem_toArray, List.getElem_cons_succ, List.getElem_cons_zero, List.setIfInBounds_toArray, List.set_cons_zero, List.set_cons_succ]
        have hN := hN.keep hb
        clear hb
        refine wpAnyH_take (i := 15) (v := ?_) rfl (by kernel_rfl) (by kernel_rfl) (by kernel_rfl) (fun _ _ _ h => h) (Or.inl ⟨by rfl, ?_⟩) (by assumption) ?_
        rotate_left
        · intro w hSw
          go_simp
          try with_reducible rfl
        simp only [Act.put, List.getElem_toArray, List.getElem_cons_succ, List.getElem_cons_zero, List.setIfInBounds_toArray, List.set_cons_zero, List.set_cons_succ]
        obtain ⟨⟨n0, n1', n2', n3⟩, g0, g1, g2, g3⟩ := whole4 hN
        have h7 := Lib.hid hHeld
        refine wpAnyH_ready (rs := [17]) (by kernel_rfl) (by simp) ?_
        refine AllReadyH.cons rfl (fun K hK => ?_) AllReadyH.nil
        go_simp
        refine hK.out _ _ ?_ (fun hHeld' => ?_)
        · exact ⟨gcell hHeld.1 (put4_grown _ _ _ _ _ _) (by simp; omega), gcell hHeld.2.1 (put4_grown _ _ _ _ _ _) (by simp; omega), gcell hHeld.2.2.1 (put4_grown _ _ _ _ _ _) (by simp; omega), hHeld.2.2.2.grown (put4_grown _ _ _ _ _ _) hHeld.2.2.2.size (fun k e => by cases e; omega)⟩
        clear hK K hHeld
        have hHeld := hHeld'
        clear hHeld'
        try simp only [Act.put, List.getElem_toArray, List.getElem_cons_succ, List.getElem_cons_zero, List.setIfInBounds_toArray, List.set_cons_zero, List.set_cons_succ]
        refine wpAnyH_done (by kernel_rfl) ?_ _
        have HF := Lib.hid (And.intro (whole_put4 hN (.string x0) (.int .i64 (r1 : Int)) (.int .i64 (t1 : Int)) (.slice none 0 0)) (And.intro hHeld.2.2.2 h3))
        clear hHeld SA h7
        go_wp2_with fail
        go_meet
        case rel => exact ⟨_, rfl, HF⟩
    · have hN : Whole (w1.drew.alloc (.cells #[.string ⟨#[]⟩, .int .i64 0, .int .i64 0, .slice none 0 0] 32)) w1.heap.size 32 #[.string ⟨#[]⟩, .int .i64 0, .int .i64 0, .slice none 0 0] := Whole.new w1.drew _ _
      have h3 : w1.heap.size ≤ w1.heap.size := Nat.le_refl _
      go_simp
      refine hK.out _ _ ?_ (fun hHeld' => ?_)
      · exact ⟨acell _ hHeld.1, acell _ hHeld.2.1, acell _ hHeld.2.2.1, hHeld.2.2.2.alloc hHeld.2.2.2.size _⟩
      clear hK K hHeld
      have hHeld := hHeld'
      clear hHeld'
      try simp only [Act.put, List.getElem_toArray, List.getElem_cons_succ, List.getElem_cons_zero, List.setIfInBounds_toArray, List.set_cons_zero, List.set_cons_succ]
      refine wpAnyH_ready (rs := [6]) (by kernel_rfl) (by simp) ?_
      refine AllReadyH.cons rfl (fun K hK => ?_) AllReadyH.nil
      go_simp
      refine (N1.out _).mono ?_
      rintro e wa ⟨rfl, hb⟩
      try go_simp
      refine hK.out _ _ ?_ (fun hHeld' => ?_)
      · exact ⟨bcell hHeld.1 hb, bcell hHeld.2.1 hb, bcell hHeld.2.2.1 hb, hHeld.2.2.2.trans (hb.mono hHeld.2.2.2.size)⟩
      clear hK K hHeld
      have hHeld := hHeld'
      clear hHeld'
      try simp only [Act.put, List.getElem_toArray, List.getElem_cons_succ, List.getElem_cons_zero, List.setIfInBounds_toArray, List.set_cons_zero, List.set_cons_succ]
      have hN := hN.keep hb
      clear hb
      refine wpAnyH_take (i := 7) (v := ?_) rfl (by kernel_rfl) (by kernel_rfl) (by kernel_rfl) (fun _ _ _ h => h) (Or.inl ⟨by rfl, ?_⟩) (by assumption) ?_
      rotate_left
      · intro w hSw
        go_simp
        try with_reducible rfl
      simp only [Act.put, List.getElem_toArray, List.getElem_cons_succ, List.getElem_cons_zero, List.setIfInBounds_toArray, List.set_cons_zero, List.set_cons_succ]
      refine wpAnyH_ready (rs := [8]) (by kernel_rfl) (by simp) ?_
      refine AllReadyH.cons rfl (fun K hK => ?_) AllReadyH.nil
      go_simp
      refine (S1.out _).mono ?_
      rintro e wb ⟨rfl, hb⟩
      try go_simp
      refine hK.out _ _ ?_ (fun hHeld' => ?_)
      · exact ⟨bcell hHeld.1 hb, bcell hHeld.2.1 hb, bcell hHeld.2.2.1 hb, hHeld.2.2.2.trans (hb.mono hHeld.2.2.2.size)⟩
      clear hK K hHeld
      have hHeld := hHeld'
      clear hHeld'
      try simp only [Act.put, List.getElem_toArray, List.getElem_cons_succ, List.getElem_cons_zero, List.setIfInBounds_toArray, List.set_cons_zero, List.set_cons_succ]
      have hN := hN.keep hb
      clear hb
      refine wpAnyH_ready (rs := [12]) (by kernel_rfl) (by simp) ?_
      refine AllReadyH.cons rfl (fun K hK => ?_) AllReadyH.nil
      go_simp
      refine (N2.out _).mono ?_
      rintro e wc ⟨rfl, hb⟩
      try go_simp
      refine hK.out _ _ ?_ (fun hHeld' => ?_)
      · exact ⟨bcell hHeld.1 hb, bcell hHeld.2.1 hb, bcell hHeld.2.2.1 hb, hHeld.2.2.2.trans (hb.mono hHeld.2.2.2.size)⟩
      clear hK K hHeld
      have hHeld := hHeld'
      clear hHeld'
      try simp only [Act.put, List.getElem_toArray, List.getElem_cons_succ, List.getElem_cons_zero, List.setIfInBounds_toArray, List.set_cons_zero, List.set_cons_succ]
      have hN := hN.keep hb
      clear hb
      refine wpAnyH_take (i := 13) (v := ?_) rfl (by kernel_rfl) (by kernel_rfl) (by kernel_rfl) (fun _ _ _ h => h) (Or.inl ⟨by rfl, ?_⟩) (by assumption) ?_
      rotate_left
      · intro w hSw
        go_simp
        try with_reducible rfl
      simp only [Act.put, List.getElem_toArray, List.getElem_cons_succ, List.getElem_cons_zero, List.setIfInBounds_toArray, List.set_cons_zero, List.set_cons_succ]
      refine wpAnyH_ready (rs := [14]) (by kernel_rfl) (by simp) ?_
      refine AllReadyH.cons rfl (fun K hK => ?_) AllReadyH.nil
      go_simp
      refine (S2.out _).mono ?_
      rintro e wd ⟨rfl, hb⟩
      try go_simp
      refine hK.out _ _ ?_ (fun hHeld' => ?_)
      · exact ⟨bcell hHeld.1 hb, bcell hHeld.2.1 hb, bcell hHeld.2.2.1 hb, hHeld.2.2.2.trans (hb.mono hHeld.2.2.2.size)⟩
      clear hK K hHeld
      have hHeld := hHeld'
      clear hHeld'
      try simp only [Act.put, List.getElem_toArray, List.getElem_cons_succ, List.getElem_cons_zero, List.setIfInBounds_toArray, List.set_cons_zero, List.set_cons_succ]
      have hN := hN.keep hb
      clear hb
      refine wpAnyH_take (i := 15) (v := ?_) rfl (by kernel_rfl) (by kernel_rfl) (by kernel_rfl) (fun _ _ _ h => h) (Or.inl ⟨by rfl, ?_⟩) (by assumption) ?_
      rotate_left
      · intro w hSw
        go_simp
        try with_reducible rfl
      simp only [Act.put, List.getElem_toArray, List.getElem_cons_succ, List.getElem_cons_zero, List.setIfInBounds_toArray, List.set_cons_zero, List.set_cons_succ]
      obtain ⟨⟨n0, n1', n2', n3⟩, g0, g1, g2, g3⟩ := whole4 hN
      have h7 := Lib.hid hHeld
      refine wpAnyH_ready (rs := [17]) (by kernel_rfl) (by simp) ?_
      refine AllReadyH.cons rfl (fun K hK => ?_) AllReadyH.nil
      go_simp
      refine hK.out _ _ ?_ (fun hHeld' => ?_)
      · exact ⟨gcell hHeld.1 (put4_grown _ _ _ _ _ _) (by simp; omega), gcell hHeld.2.1 (put4_grown _ _ _ _ _ _) (by simp; omega), gcell hHeld.2.2.1 (put4_grown _ _ _ _ _ _) (by simp; omega), hHeld.2.2.2.grown (put4_grown _ _ _ _ _ _) hHeld.2.2.2.size (fun k e => by cases e; omega)⟩
      clear hK K hHeld
      have hHeld := hHeld'
      clear hHeld'
      try simp only [Act.put, List.getElem_toArray, List.getElem_cons_succ, List.getElem_cons_zero, List.setIfInBounds_toArray, List.set_cons_zero, List.set_cons_succ]
      refine wpAnyH_done (by kernel_rfl) ?_ _
      have HF := Lib.hid (And.intro (whole_put4 hN (.string x0) (.int .i64 (r1 : Int)) (.int .i64 (t1 : Int)) (.slice none 0 0)) (And.intro hHeld.2.2.2 h3))
      clear hHeld SA h7
      go_wp2_with fail
      go_meet
      case rel => exact ⟨_, rfl, HF⟩
  case rest =>
    obtain ⟨D, rfl, HF⟩ := hcut
    have HG : Hid (G < w1.heap.size) := Lib.hid (lt_cell SA.out.1)
    have M0 : Hid (RpM w wc G D ws #[.string x0, .int .i64 (r1 : Int), .int .i64 (t1 : Int), .slice none 0 0]) := Lib.hid ⟨HF.out.1, R2.out.keep HF.out.2.1, BW1.out.trans (HF.out.2.1.mono BW1.out.size), Nat.lt_of_lt_of_le R2.out.lt HF.out.2.2, fun k x hx => bcell (HC.out k x hx) HF.out.2.1, Nat.lt_of_lt_of_le HG.out HF.out.2.2⟩
    clear SA N1 N2 S1 S2 hwu1 hwu2 HC HO R2 BW1 HF HG
    obtain ⟨B0, hB0⟩ : ∃ B0, B0 = wc.heap.size := ⟨_, rfl⟩
    have HDB : Hid (D < B0) := Lib.hid (by rw [hB0]; exact M0.out.d.lt)
    have J0 : Hid (RpM w wc G D ws #[.string x0, .int .i64 (r1 : Int), .int .i64 (t1 : Int), .slice none 0 0] ∧ wc.ownsRow B0 71 2 (.slice none 0 0) (3 - 3) ((((ws.drop 3).take (3 - 3)).map rS).flatMap stC) ∧ B0 ≤ wc.heap.size) := Lib.hid ⟨M0.out, ⟨rfl, Or.inl ⟨rfl, rfl⟩⟩, by rw [hB0]; exact Nat.le_refl _⟩
    clear M0 hB0
    go_wp2_with fail
    go_loopw [6] (fun iv wr => ∃ (i : Nat) (v : Value), 3 ≤ i ∧ i ≤ m ∧ iv = .int .i64 (i : Int) ∧ Hid (RpM w wr G D ws #[.string x0, .int .i64 (r1 : Int), .int .i64 (t1 : Int), v] ∧ wr.ownsRow B0 71 2 v (i - 3) ((((ws.drop 3).take (i - 3)).map rS).flatMap stC) ∧ B0 ≤ wr.heap.size)) (fun iv _ => m - (intOf iv).toNat)
    case atStart => exact ⟨3, _, by omega, by omega, rfl, J0⟩
    case round =>
      clear J0
      obtain ⟨i, v, h3, hi, rfl, HJ⟩ := hrel
      by_cases him : i < m
      · have hi0 : (0 : Int) ≤ (i : Int) := by omega
        have him' : (i : Int) < (m : Int) := by omega
        have hwi : IntKind.i64.wrap ((i : Int) + 1) = (i : Int) + 1 := IntWalk.i64_in _ (by omega)
        obtain ⟨x, hx⟩ : ∃ x, ws[i]? = some x := ⟨_, List.getElem?_eq_getElem (by rw [← HWM.out]; exact him)⟩
        have HXI := Lib.hid hx
        have hxs := HZ.out x (List.mem_of_getElem? hx)
        have cx := HJ.out.1.g i x hx
        obtain ⟨l, hl⟩ : ∃ l, l = x.data.toList := ⟨_, rfl⟩
        have HL := Lib.hid hl
        have HSL : Hid (x.size = l.length) := Lib.hid (by rw [hl, Lib.size_eq])
        clear hx hl him
        go_wp2_with fail
        go_loopw [7] (fun qv wi => ∃ q : Nat, qv = .int .i64 (q : Int) ∧ q ≤ x.size ∧ wi = wr ∧ Hid (∀ (j : Nat) c, j < q → l[j]? = some c → isSg c = false)) (fun qv _ => x.size - (intOf qv).toNat)
        case atStart => exact ⟨0, rfl, by omega, by first | rfl | trivial, Lib.hid (fun j c hj _ => absurd hj (Nat.not_lt_zero _))⟩
        case round =>
          obtain ⟨q, rfl, hq, rfl, HQ⟩ := hrel
          have hq0 : (0 : Int) ≤ (q : Int) := by omega
          have hwq : IntKind.i64.wrap ((q : Int) + 1) = (q : Int) + 1 := IntWalk.i64_in _ (by omega)
          by_cases hqs : q < x.size
          · have hqs' : (q : Int) < (x.size : Int) := by omega
            obtain ⟨ch, hch⟩ : ∃ ch : UInt8, x[q]'hqs = ch := ⟨_, rfl⟩
            have HCH := Lib.hid (show l[q]? = some ch by rw [← hch, HL.out]; exact Lib.data_getElem? x q hqs)
            by_cases hsg : isSg ch = true
            · have HCT := Lib.hid (cut_at HQ.out (Or.inr ⟨ch, HCH.out, hsg⟩))
              have HRS := Lib.hid (rS_eq (x := x) (q := q) (by rw [← HL.out]; exact HCT.out))
              have b3 := numR_le (x.extract (q + 1) x.size).data.toList
              have hqn : ((q : Int) + 1).toNat = q + 1 := by omega
              have hql : (q : Int) + 1 ≤ (x.size : Int) := by omega
              have hqe : ((q : Int) == (x.size : Int)) = false := by rw [beq_eq_false_iff_ne]; omega
              have N3 := Lib.hid (number_ref (x.extract (q + 1) x.size) wr (by rw [ByteArray.size_extract]; omega))
              rw [← HL.out, HCH.out] at HRS
              obtain ⟨n3, hn3⟩ : ∃ n3, numR (x.extract (q + 1) x.size).data.toList = n3 := ⟨_, rfl⟩
              rw [hn3] at N3 HRS b3
              have hwn : IntKind.i64.wrap (-(n3 : Int)) = -(n3 : Int) := IntWalk.i64_in _ (by omega)
              clear hn3
              by_cases h45 : ch = 45
              · subst h45
                have e43 : ((((45 : UInt8).toNat : Nat) : Int) == 43) = false := by decide
                have e45 : ((((45 : UInt8).toNat : Nat) : Int) == 45) = true := by decide
                have HNX := Lib.hid (rS_next HXI.out h3 (p := ⟨x.extract 0 q, -(n3 : Int)⟩) (by rw [HRS.out]; simp))
                clear hsg HRS
                go_upto_region 16 with (go_at_call 108; refine N3.out.mono ?_; rintro e wn ⟨rfl, rfl⟩)
                have M6 := Lib.hid (And.intro (HJ.out.1.keep (Below.refl _ _).drew) (And.intro HJ.out.2.1.drew HJ.out.2.2))
                have c6 := M6.out.1.d.cell 3
                have cx7 := M6.out.1.g i x HXI.out
                obtain ⟨c8, A', c', w8, R, c9, f9, G8, HZ⟩ := rp_pack M6.out.1 M6.out.2.1 HDB.out M6.out.2.2 (by omega) (x.extract 0 q) (-(n3 : Int))
                clear N3 M6
                refine wp_region_held_drew (S := fun wx => wx.cell? ⟨G, i, none⟩ = some (.string x)) (by kernel_rfl) cx7 (fun hHeld => ?_)
                clear cx7
                generalize wn.drew = wz at c6 c8 R HZ hHeld ⊢
                refine wpAnyH_take (i := 0) (v := ?_) rfl (by kernel_rfl) (by kernel_rfl) (by kernel_rfl) (fun _ _ _ h => h) (Or.inl ⟨by rfl, ?_⟩) (by assumption) ?_
                rotate_left
                · intro w hSw
                  go_simp
                  try with_reducible rfl
                simp only [Act.put, List.getElem_toArray, List.getElem_cons_zero, List.setIfInBounds_toArray, List.set_cons_zero, List.set_cons_succ]
                refine wpAnyH_take (i := 2) (v := ?_) rfl (by kernel_rfl) (by kernel_rfl) (by kernel_rfl) (fun _ _ _ h => h) (Or.inl ⟨by rfl, ?_⟩) (by assumption) ?_
                rotate_left
                · intro w hSw
                  go_simp
                  try with_reducible rfl
                simp only [Act.put, List.getElem_toArray, List.getElem_cons_succ, List.getElem_cons_zero, List.setIfInBounds_toArray, List.set_cons_zero, List.set_cons_succ]
                refine wpAnyH_take (i := 3) (v := ?_) rfl (by kernel_rfl) (by kernel_rfl) (by kernel_rfl) (fun _ _ _ h => h) (Or.inl ⟨by rfl, ?_⟩) (by assumption) ?_
                rotate_left
                · intro w hSw
                  go_simp
                  try with_reducible rfl
                simp only [Act.put, List.getElem_toArray, List.getElem_cons_succ, List.getElem_cons_zero, List.setIfInBounds_toArray, List.set_cons_zero, List.set_cons_succ]
                refine wpAnyH_take (i := 4) (v := ?_) rfl (by kernel_rfl) (by kernel_rfl) (by kernel_rfl) (fun _ _ _ h => h) (Or.inl ⟨by rfl, ?_⟩) (by assumption) ?_
                rotate_left
                · intro w hSw
                  go_simp
                  try with_reducible rfl
                simp only [Act.put, List.getElem_toArray, List.getElem_cons_succ, List.getElem_cons_zero, List.setIfInBounds_toArray, List.set_cons_zero, List.set_cons_succ]
                refine wpAnyH_take (i := 5) (v := ?_) rfl (by kernel_rfl) (by kernel_rfl) (by kernel_rfl) (fun _ _ _ h => h) (Or.inl ⟨by rfl, ?_⟩) (by assumption) ?_
                rotate_left
                · intro w hSw
                  go_simp
                  try with_reducible rfl
                simp only [Act.put, List.getElem_toArray, List.getElem_cons_succ, List.getElem_cons_zero, List.setIfInBounds_toArray, List.set_cons_zero, List.set_cons_succ]
                refine wpAnyH_take (i := 6) (v := ?_) rfl (by kernel_rfl) (by kernel_rfl) (by kernel_rfl) (fun _ _ _ h => h) (Or.inl ⟨by rfl, ?_⟩) (by assumption) ?_
                rotate_left
                · intro w hSw
                  go_simp
                  try with_reducible rfl
                simp only [Act.put, List.getElem_toArray, List.getElem_cons_succ, List.getElem_cons_zero, List.setIfInBounds_toArray, List.set_cons_zero, List.set_cons_succ]
                refine wpAnyH_take (i := 7) (v := ?_) rfl (by kernel_rfl) (by kernel_rfl) (by kernel_rfl) (fun _ _ _ h => h) (Or.inl ⟨by rfl, ?_⟩) (by assumption) ?_
                rotate_left
                · intro w hSw
                  go_simp
                  try with_reducible rfl
                simp only [Act.put, List.getElem_toArray, List.getElem_cons_succ, List.getElem_cons_zero, List.setIfInBounds_toArray, List.set_cons_zero, List.set_cons_succ]
                refine wpAnyH_take (i := 8) (v := ?_) rfl (by kernel_rfl) (by kernel_rfl) (by kernel_rfl) (fun _ _ _ h => h) (Or.inl ⟨by rfl, ?_⟩) (by assumption) ?_
                rotate_left
                · intro w hSw
                  go_simp
                  try with_reducible rfl
                simp only [Act.put, List.getElem_toArray, List.getElem_cons_succ, List.getElem_cons_zero, List.setIfInBounds_toArray, List.set_cons_zero, List.set_cons_succ]
                refine wpAnyH_take (i := 9) (v := ?_) rfl (by kernel_rfl) (by kernel_rfl) (by kernel_rfl) (fun _ _ _ h => h) (Or.inl ⟨by rfl, ?_⟩) (by assumption) ?_
                rotate_left
                · intro w hSw
                  go_simp
                  try with_reducible rfl
                simp only [Act.put, List.getElem_toArray, List.getElem_cons_succ, List.getElem_cons_zero, List.setIfInBounds_toArray, List.set_cons_zero, List.set_cons_succ]
                refine wpAnyH_ready (rs := [1, 10]) (by kernel_rfl) (by simp) ?_
                refine AllReadyH.cons rfl (fun K hK => ?_) (AllReadyH.cons rfl (fun K hK => ?_) AllReadyH.nil)
                · go_simp
                  refine hK.out _ _ ?_ (fun hHeld' => ?_)
                  · exact hHeld
                  clear hK K hHeld
                  have hHeld := hHeld'
                  clear hHeld'
                  try simp only [Act.put, List.getElem_toArray, List.getElem_cons_succ, List.getElem_cons_zero, List.setIfInBounds_toArray, List.set_cons_zero, List.set_cons_succ]
                  refine wpAnyH_ready (rs := [10]) (by kernel_rfl) (by simp) ?_
                  refine AllReadyH.cons rfl (fun K hK => ?_) AllReadyH.nil
                  go_simp
                  refine hK.out _ _ ?_ (fun hHeld' => ?_)
                  · exact acell _ hHeld
                  clear hK K hHeld
                  have hHeld := hHeld'
                  clear hHeld'
                  try simp only [Act.put, List.getElem_toArray, List.getElem_cons_succ, List.getElem_cons_zero, List.setIfInBounds_toArray, List.set_cons_zero, List.set_cons_succ]
                  refine wpAnyH_ready (rs := [11]) (by kernel_rfl) (by simp) ?_
                  refine AllReadyH.cons rfl (fun K hK => ?_) AllReadyH.nil
                  refine step_append_run (by rfl) (.tmp 92) (.tmp 101) 30 30 (by rfl) (by rfl) (by rfl) R.out ?_
                  refine hK.out _ _ ?_ (fun hHeld' => ?_)
                  · exact G8.out i x HXI.out
                  clear hK K hHeld
                  have hHeld := hHeld'
                  clear hHeld'
                  try simp only [Act.put, List.getElem_toArray, List.getElem_cons_succ, List.getElem_cons_zero, List.setIfInBounds_toArray, List.set_cons_zero, List.set_cons_succ]
                  refine wpAnyH_take (i := 12) (v := ?_) rfl (by kernel_rfl) (by kernel_rfl) (by kernel_rfl) (fun _ _ _ h => h) (Or.inl ⟨by rfl, ?_⟩) (by assumption) ?_
                  rotate_left
                  · intro w hSw
                    go_simp
                    try with_reducible rfl
                  simp only [Act.put, List.getElem_toArray, List.getElem_cons_succ, List.getElem_cons_zero, List.setIfInBounds_toArray, List.set_cons_zero, List.set_cons_succ]
                  refine wpAnyH_ready (rs := [13]) (by kernel_rfl) (by simp) ?_
                  refine AllReadyH.cons rfl (fun K hK => ?_) AllReadyH.nil
                  go_simp
                  refine hK.out _ _ ?_ (fun hHeld' => ?_)
                  · exact HZ.out.1.g i x HXI.out
                  clear hK K hHeld
                  have hHeld := hHeld'
                  clear hHeld'
                  try simp only [Act.put, List.getElem_toArray, List.getElem_cons_succ, List.getElem_cons_zero, List.setIfInBounds_toArray, List.set_cons_zero, List.set_cons_succ]
                  refine wpAnyH_done (by kernel_rfl) ?_ _
                  clear hHeld R c6 c8 c9 f9 G8
                  go_wp2_with fail
                  go_roundw
                  case rel => exact ⟨i + 1, _, by omega, by omega, by go_num, Lib.hid ⟨HZ.out.1, by rw [HNX.out, show i + 1 - 3 = i - 3 + 1 by omega, List.flatMap_append]; exact HZ.out.2.1, HZ.out.2.2⟩⟩
                  case measure => simp [intOf]; omega
                · go_simp
                  refine hK.out _ _ ?_ (fun hHeld' => ?_)
                  · exact acell _ hHeld
                  clear hK K hHeld
                  have hHeld := hHeld'
                  clear hHeld'
                  try simp only [Act.put, List.getElem_toArray, List.getElem_cons_succ, List.getElem_cons_zero, List.setIfInBounds_toArray, List.set_cons_zero, List.set_cons_succ]
                  refine wpAnyH_ready (rs := [1]) (by kernel_rfl) (by simp) ?_
                  refine AllReadyH.cons rfl (fun K hK => ?_) AllReadyH.nil
                  go_simp
                  refine hK.out _ _ ?_ (fun hHeld' => ?_)
                  · exact hHeld
                  clear hK K hHeld
                  have hHeld := hHeld'
                  clear hHeld'
                  try simp only [Act.put, List.getElem_toArray, List.getElem_cons_succ, List.getElem_cons_zero, List.setIfInBounds_toArray, List.set_cons_zero, List.set_cons_succ]
                  refine wpAnyH_ready (rs := [11]) (by kernel_rfl) (by simp) ?_
                  refine AllReadyH.cons rfl (fun K hK => ?_) AllReadyH.nil
                  refine step_append_run (by rfl) (.tmp 92) (.tmp 101) 30 30 (by rfl) (by rfl) (by rfl) R.out ?_
                  refine hK.out _ _ ?_ (fun hHeld' => ?_)
                  · exact G8.out i x HXI.out
                  clear hK K hHeld
                  have hHeld := hHeld'
                  clear hHeld'
                  try simp only [Act.put, List.getElem_toArray, List.getElem_cons_succ, List.getElem_cons_zero, List.setIfInBounds_toArray, List.set_cons_zero, List.set_cons_succ]
                  refine wpAnyH_take (i := 12) (v := ?_) rfl (by kernel_rfl) (by kernel_rfl) (by kernel_rfl) (fun _ _ _ h => h) (Or.inl ⟨by rfl, ?_⟩) (by assumption) ?_
                  rotate_left
                  · intro w hSw
                    go_simp
                    try with_reducible rfl
                  simp only [Act.put, List.getElem_toArray, List.getElem_cons_succ, List.getElem_cons_zero, List.setIfInBounds_toArray, List.set_cons_zero, List.set_cons_succ]
                  refine wpAnyH_ready (rs := [13]) (by kernel_rfl) (by simp) ?_
                  refine AllReadyH.cons rfl (fun K hK => ?_) AllReadyH.nil
                  go_simp
                  refine hK.out _ _ ?_ (fun hHeld' => ?_)
                  · exact HZ.out.1.g i x HXI.out
                  clear hK K hHeld
                  have hHeld := hHeld'
                  clear hHeld'
                  try simp only [Act.put, List.getElem_toArray, List.getElem_cons_succ, List.getElem_cons_zero, List.setIfInBounds_toArray, List.set_cons_zero, List.set_cons_succ]
                  refine wpAnyH_done (by kernel_rfl) ?_ _
                  clear hHeld R c6 c8 c9 f9 G8
                  go_wp2_with fail
                  go_roundw
                  case rel => exact ⟨i + 1, _, by omega, by omega, by go_num, Lib.hid ⟨HZ.out.1, by rw [HNX.out, show i + 1 - 3 = i - 3 + 1 by omega, List.flatMap_append]; exact HZ.out.2.1, HZ.out.2.2⟩⟩
                  case measure => simp [intOf]; omega
              · have h43 : ch = 43 := by unfold isSg at hsg; simp at hsg; rcases hsg with h | h; exact h; exact absurd h h45
                subst h43
                have e43 : ((((43 : UInt8).toNat : Nat) : Int) == 43) = true := by decide
                have e45 : ((((43 : UInt8).toNat : Nat) : Int) == 45) = false := by decide
                have HNX := Lib.hid (rS_next HXI.out h3 (p := ⟨x.extract 0 q, (n3 : Int)⟩) (by rw [HRS.out]; simp))
                clear hsg HRS h45
                go_upto_region 16 with (go_at_call 108; refine N3.out.mono ?_; rintro e wn ⟨rfl, rfl⟩)
                have M6 := Lib.hid (And.intro (HJ.out.1.keep (Below.refl _ _).drew) (And.intro HJ.out.2.1.drew HJ.out.2.2))
                have c6 := M6.out.1.d.cell 3
                have cx7 := M6.out.1.g i x HXI.out
                obtain ⟨c8, A', c', w8, R, c9, f9, G8, HZ⟩ := rp_pack M6.out.1 M6.out.2.1 HDB.out M6.out.2.2 (by omega) (x.extract 0 q) (n3 : Int)
                clear N3 M6
                refine wp_region_held_drew (S := fun wx => wx.cell? ⟨G, i, none⟩ = some (.string x)) (by kernel_rfl) cx7 (fun hHeld => ?_)
                clear cx7
                generalize wn.drew = wz at c6 c8 R HZ hHeld ⊢
                refine wpAnyH_take (i := 0) (v := ?_) rfl (by kernel_rfl) (by kernel_rfl) (by kernel_rfl) (fun _ _ _ h => h) (Or.inl ⟨by rfl, ?_⟩) (by assumption) ?_
                rotate_left
                · intro w hSw
                  go_simp
                  try with_reducible rfl
                simp only [Act.put, List.getElem_toArray, List.getElem_cons_zero, List.setIfInBounds_toArray, List.set_cons_zero, List.set_cons_succ]
                refine wpAnyH_take (i := 2) (v := ?_) rfl (by kernel_rfl) (by kernel_rfl) (by kernel_rfl) (fun _ _ _ h => h) (Or.inl ⟨by rfl, ?_⟩) (by assumption) ?_
                rotate_left
                · intro w hSw
                  go_simp
                  try with_reducible rfl
                simp only [Act.put, List.getElem_toArray, List.getElem_cons_succ, List.getElem_cons_zero, List.setIfInBounds_toArray, List.set_cons_zero, List.set_cons_succ]
                refine wpAnyH_take (i := 3) (v := ?_) rfl (by kernel_rfl) (by kernel_rfl) (by kernel_rfl) (fun _ _ _ h => h) (Or.inl ⟨by rfl, ?_⟩) (by assumption) ?_
                rotate_left
                · intro w hSw
                  go_simp
                  try with_reducible rfl
                simp only [Act.put, List.getElem_toArray, List.getElem_cons_succ, List.getElem_cons_zero, List.setIfInBounds_toArray, List.set_cons_zero, List.set_cons_succ]
                refine wpAnyH_take (i := 4) (v := ?_) rfl (by kernel_rfl) (by kernel_rfl) (by kernel_rfl) (fun _ _ _ h => h) (Or.inl ⟨by rfl, ?_⟩) (by assumption) ?_
                rotate_left
                · intro w hSw
                  go_simp
                  try with_reducible rfl
                simp only [Act.put, List.getElem_toArray, List.getElem_cons_succ, List.getElem_cons_zero, List.setIfInBounds_toArray, List.set_cons_zero, List.set_cons_succ]
                refine wpAnyH_take (i := 5) (v := ?_) rfl (by kernel_rfl) (by kernel_rfl) (by kernel_rfl) (fun _ _ _ h => h) (Or.inl ⟨by rfl, ?_⟩) (by assumption) ?_
                rotate_left
                · intro w hSw
                  go_simp
                  try with_reducible rfl
                simp only [Act.put, List.getElem_toArray, List.getElem_cons_succ, List.getElem_cons_zero, List.setIfInBounds_toArray, List.set_cons_zero, List.set_cons_succ]
                refine wpAnyH_take (i := 6) (v := ?_) rfl (by kernel_rfl) (by kernel_rfl) (by kernel_rfl) (fun _ _ _ h => h) (Or.inl ⟨by rfl, ?_⟩) (by assumption) ?_
                rotate_left
                · intro w hSw
                  go_simp
                  try with_reducible rfl
                simp only [Act.put, List.getElem_toArray, List.getElem_cons_succ, List.getElem_cons_zero, List.setIfInBounds_toArray, List.set_cons_zero, List.set_cons_succ]
                refine wpAnyH_take (i := 7) (v := ?_) rfl (by kernel_rfl) (by kernel_rfl) (by kernel_rfl) (fun _ _ _ h => h) (Or.inl ⟨by rfl, ?_⟩) (by assumption) ?_
                rotate_left
                · intro w hSw
                  go_simp
                  try with_reducible rfl
                simp only [Act.put, List.getElem_toArray, List.getElem_cons_succ, List.getElem_cons_zero, List.setIfInBounds_toArray, List.set_cons_zero, List.set_cons_succ]
                refine wpAnyH_take (i := 8) (v := ?_) rfl (by kernel_rfl) (by kernel_rfl) (by kernel_rfl) (fun _ _ _ h => h) (Or.inl ⟨by rfl, ?_⟩) (by assumption) ?_
                rotate_left
                · intro w hSw
                  go_simp
                  try with_reducible rfl
                simp only [Act.put, List.getElem_toArray, List.getElem_cons_succ, List.getElem_cons_zero, List.setIfInBounds_toArray, List.set_cons_zero, List.set_cons_succ]
                refine wpAnyH_take (i := 9) (v := ?_) rfl (by kernel_rfl) (by kernel_rfl) (by kernel_rfl) (fun _ _ _ h => h) (Or.inl ⟨by rfl, ?_⟩) (by assumption) ?_
                rotate_left
                · intro w hSw
                  go_simp
                  try with_reducible rfl
                simp only [Act.put, List.getElem_toArray, List.getElem_cons_succ, List.getElem_cons_zero, List.setIfInBounds_toArray, List.set_cons_zero, List.set_cons_succ]
                refine wpAnyH_ready (rs := [1, 10]) (by kernel_rfl) (by simp) ?_
                refine AllReadyH.cons rfl (fun K hK => ?_) (AllReadyH.cons rfl (fun K hK => ?_) AllReadyH.nil)
                · go_simp
                  refine hK.out _ _ ?_ (fun hHeld' => ?_)
                  · exact hHeld
                  clear hK K hHeld
                  have hHeld := hHeld'
                  clear hHeld'
                  try simp only [Act.put, List.getElem_toArray, List.getElem_cons_succ, List.getElem_cons_zero, List.setIfInBounds_toArray, List.set_cons_zero, List.set_cons_succ]
                  refine wpAnyH_ready (rs := [10]) (by kernel_rfl) (by simp) ?_
                  refine AllReadyH.cons rfl (fun K hK => ?_) AllReadyH.nil
                  go_simp
                  refine hK.out _ _ ?_ (fun hHeld' => ?_)
                  · exact acell _ hHeld
                  clear hK K hHeld
                  have hHeld := hHeld'
                  clear hHeld'
                  try simp only [Act.put, List.getElem_toArray, List.getElem_cons_succ, List.getElem_cons_zero, List.setIfInBounds_toArray, List.set_cons_zero, List.set_cons_succ]
                  refine wpAnyH_ready (rs := [11]) (by kernel_rfl) (by simp) ?_
                  refine AllReadyH.cons rfl (fun K hK => ?_) AllReadyH.nil
                  refine step_append_run (by rfl) (.tmp 92) (.tmp 101) 30 30 (by rfl) (by rfl) (by rfl) R.out ?_
                  refine hK.out _ _ ?_ (fun hHeld' => ?_)
                  · exact G8.out i x HXI.out
                  clear hK K hHeld
                  have hHeld := hHeld'
                  clear hHeld'
                  try simp only [Act.put, List.getElem_toArray, List.getElem_cons_succ, List.getElem_cons_zero, List.setIfInBounds_toArray, List.set_cons_zero, List.set_cons_succ]
                  refine wpAnyH_take (i := 12) (v := ?_) rfl (by kernel_rfl) (by kernel_rfl) (by kernel_rfl) (fun _ _ _ h => h) (Or.inl ⟨by rfl, ?_⟩) (by assumption) ?_
                  rotate_left
                  · intro w hSw
                    go_simp
                    try with_reducible rfl
                  simp only [Act.put, List.getElem_toArray, List.getElem_cons_succ, List.getElem_cons_zero, List.setIfInBounds_toArray, List.set_cons_zero, List.set_cons_succ]
                  refine wpAnyH_ready (rs := [13]) (by kernel_rfl) (by simp) ?_
                  refine AllReadyH.cons rfl (fun K hK => ?_) AllReadyH.nil
                  go_simp
                  refine hK.out _ _ ?_ (fun hHeld' => ?_)
                  · exact HZ.out.1.g i x HXI.out
                  clear hK K hHeld
                  have hHeld := hHeld'
                  clear hHeld'
                  try simp only [Act.put, List.getElem_toArray, List.getElem_cons_succ, List.getElem_cons_zero, List.setIfInBounds_toArray, List.set_cons_zero, List.set_cons_succ]
                  refine wpAnyH_done (by kernel_rfl) ?_ _
                  clear hHeld R c6 c8 c9 f9 G8
                  go_wp2_with fail
                  go_roundw
                  case rel => exact ⟨i + 1, _, by omega, by omega, by go_num, Lib.hid ⟨HZ.out.1, by rw [HNX.out, show i + 1 - 3 = i - 3 + 1 by omega, List.flatMap_append]; exact HZ.out.2.1, HZ.out.2.2⟩⟩
                  case measure => simp [intOf]; omega
                · go_simp
                  refine hK.out _ _ ?_ (fun hHeld' => ?_)
                  · exact acell _ hHeld
                  clear hK K hHeld
                  have hHeld := hHeld'
                  clear hHeld'
                  try simp only [Act.put, List.getElem_toArray, List.getElem_cons_succ, List.getElem_cons_zero, List.setIfInBounds_toArray, List.set_cons_zero, List.set_cons_succ]
                  refine wpAnyH_ready (rs := [1]) (by kernel_rfl) (by simp) ?_
                  refine AllReadyH.cons rfl (fun K hK => ?_) AllReadyH.nil
                  go_simp
                  refine hK.out _ _ ?_ (fun hHeld' => ?_)
                  · exact hHeld
                  clear hK K hHeld
                  have hHeld := hHeld'
                  clear hHeld'
                  try simp only [Act.put, List.getElem_toArray, List.getElem_cons_succ, List.getElem_cons_zero, List.setIfInBounds_toArray, List.set_cons_zero, List.set_cons_succ]
                  refine wpAnyH_ready (rs := [11]) (by kernel_rfl) (by simp) ?_
                  refine AllReadyH.cons rfl (fun K hK => ?_) AllReadyH.nil
                  refine step_append_run (by rfl) (.tmp 92) (.tmp 101) 30 30 (by rfl) (by rfl) (by rfl) R.out ?_
                  refine hK.out _ _ ?_ (fun hHeld' => ?_)
                  · exact G8.out i x HXI.out
                  clear hK K hHeld
                  have hHeld := hHeld'
                  clear hHeld'
                  try simp only [Act.put, List.getElem_toArray, List.getElem_cons_succ, List.getElem_cons_zero, List.setIfInBounds_toArray, List.set_cons_zero, List.set_cons_succ]
                  refine wpAnyH_take (i := 12) (v := ?_) rfl (by kernel_rfl) (by kernel_rfl) (by kernel_rfl) (fun _ _ _ h => h) (Or.inl ⟨by rfl, ?_⟩) (by assumption) ?_
                  rotate_left
                  · intro w hSw
                    go_simp
                    try with_reducible rfl
                  simp only [Act.put, List.getElem_toArray, List.getElem_cons_succ, List.getElem_cons_zero, List.setIfInBounds_toArray, List.set_cons_zero, List.set_cons_succ]
                  refine wpAnyH_ready (rs := [13]) (by kernel_rfl) (by simp) ?_
                  refine AllReadyH.cons rfl (fun K hK => ?_) AllReadyH.nil
                  go_simp
                  refine hK.out _ _ ?_ (fun hHeld' => ?_)
                  · exact HZ.out.1.g i x HXI.out
                  clear hK K hHeld
                  have hHeld := hHeld'
                  clear hHeld'
                  try simp only [Act.put, List.getElem_toArray, List.getElem_cons_succ, List.getElem_cons_zero, List.setIfInBounds_toArray, List.set_cons_zero, List.set_cons_succ]
                  refine wpAnyH_done (by kernel_rfl) ?_ _
                  clear hHeld R c6 c8 c9 f9 G8
                  go_wp2_with fail
                  go_roundw
                  case rel => exact ⟨i + 1, _, by omega, by omega, by go_num, Lib.hid ⟨HZ.out.1, by rw [HNX.out, show i + 1 - 3 = i - 3 + 1 by omega, List.flatMap_append]; exact HZ.out.2.1, HZ.out.2.2⟩⟩
                  case measure => simp [intOf]; omega
            · have h43 : ((ch.toNat : Int) == 43) = false := by rw [beq_eq_false_iff_ne]; intro e; apply hsg; unfold isSg; have : ch = 43 := UInt8.toNat_inj.1 (show ch.toNat = 43 by omega); simp [this]
              have h45 : ((ch.toNat : Int) == 45) = false := by rw [beq_eq_false_iff_ne]; intro e; apply hsg; unfold isSg; have : ch = 45 := UInt8.toNat_inj.1 (show ch.toNat = 45 by omega); simp [this]
              have HN : Hid (∀ (j : Nat) c, j < q + 1 → l[j]? = some c → isSg c = false) := Lib.hid (fun j c hj hc => by
                by_cases h : j = q
                · subst h
                  rw [HCH.out] at hc
                  cases hc
                  simpa using hsg
                · exact HQ.out j c (by omega) hc)
              have n43 : ((ch.toNat : Int) != 43) = true := by simp only [bne, h43]; rfl
              have n45 : ((ch.toNat : Int) != 45) = true := by simp only [bne, h45]; rfl
              have f43 : ((ch.toNat : Int) = 43) = False := by rw [beq_eq_false_iff_ne] at h43; simpa using h43
              have f45 : ((ch.toNat : Int) = 45) = False := by rw [beq_eq_false_iff_ne] at h45; simpa using h45
              clear hsg HJ
              go_wp2_with fail
              go_roundw
              case rel => exact ⟨q + 1, by go_num, by omega, by first | rfl | trivial, HN⟩
              case measure => simp [intOf] <;> omega
          · have hqe : q = x.size := by omega
            subst hqe
            have hee : ((x.size : Int) == (x.size : Int)) = true := by simp
            have HB := Lib.hid (rp_cut (i := i - 3) HW.out (by rw [show 3 + (i - 3) = i by omega]; exact HXI.out) (by rw [← HL.out]; exact (cut_at HQ.out (Or.inl HSL.out)).trans HSL.out))
            obtain ⟨⟨r0, r1', r2, r3⟩, s0, s1, s2, s3⟩ := whole4 HJ.out.1.r
            have hRl := HJ.out.1.r.lt
            clear hqs
            go_wp2_with fail
            refine bodyPost_ret (v := .tuple #[.agg #[.string ⟨#[]⟩, .int .i64 0, .int .i64 0, .slice none 0 0], .int .i64 10]) ?_ rfl ?_
            · simp [results, Tryz.results70, go_sem, r0, r1', r2, r3]
            · exact rparse_zeroF HB.out (((((HJ.out.1.b).setCell (p := ⟨w.heap.size, 0, none⟩) (Nat.le_refl _) _).setCell (p := ⟨w.heap.size, 1, none⟩) (Nat.le_refl _) _).setCell (p := ⟨w.heap.size, 2, none⟩) (Nat.le_refl _) _).setCell (p := ⟨w.heap.size, 3, none⟩) (Nat.le_refl _) _)
      · obtain rfl : i = m := by omega
        have him' : ¬ ((i : Int) < (i : Int)) := by omega
        have HT : Hid ((ws.drop 3).take (i - 3) = ws.drop 3) := Lib.hid (List.take_of_length_le (by rw [List.length_drop, ← HWM.out]; omega))
        rw [HT.out] at HJ
        obtain ⟨xs, hxs⟩ : ∃ xs, (ws.drop 3).map rS = xs := ⟨_, rfl⟩
        have hxl : xs.length = i - 3 := by rw [← hxs, List.length_map, List.length_drop, ← HWM.out]
        have hxz : ∀ p ∈ xs, SpZ p := by
          rw [← hxs]
          intro p hp
          obtain ⟨x, hx, rfl⟩ := List.mem_map.1 hp
          exact rS_z (HZ.out x (List.mem_of_mem_drop hx))
        rw [hxs] at HJ HRT
        obtain ⟨A9, c9, rfl, hc9⟩ := own_slice2 HJ.out.2.1
        have HDA : Hid (DefAt wr A9 (i - 3) c9 ⟨x0, (r1 : Nat), (t1 : Nat), xs⟩) := Lib.hid ⟨hxl, hc9, by omega, ⟨by have := HZ.out x0 (List.mem_of_getElem? HX.out.1); show x0.size ≤ _; omega, by have := HRT.out.2.1; dsimp only; omega, by have := HRT.out.2.2; dsimp only; omega, fun i p hi => hxz p (List.mem_of_getElem? hi)⟩, slD_own HJ.out.2.1 hxl⟩
        have TX := Lib.hid ((refDefText_any _ A9 (i - 3) c9 wr HDA.out).mono (fun e w' ⟨h, hb⟩ => And.intro (rTxt_val h) hb))
        have HAN : Hid (∀ a : Addr, A9 = some a → xs ≠ [] → some a.block ≠ some w.heap.size) := Lib.hid (fun a ha _ e => by
          have h1 := (HJ.out.2.1.lt a.block (by rw [ha]; rfl)).1
          have h2 := HDB.out
          have h4 := HJ.out.1.o1
          injection e with e; omega)
        have HAF : Hid (∀ a : Addr, A9 = some a → w.heap.size ≤ a.block) := Lib.hid (fun a ha => by
          have h1 := (HJ.out.2.1.lt a.block (by rw [ha]; rfl)).1
          have h2 := HDB.out
          have h4 := HJ.out.1.o1
          omega)
        have HMM := Lib.hid HJ.out.1
        unfold dV at TX
        dsimp only at TX
        obtain ⟨⟨d0, d1, d2, d3⟩, _⟩ := whole4 HJ.out.1.d
        clear HJ hxl hxz hc9 hxs him
        go_upto_region 18 with (go_at_call 60; refine TX.out.mono ?_; rintro e w9 ⟨rfl, hb9⟩)
        have B9 := Lib.hid hb9
        have M9 := Lib.hid (HMM.out.keep hb9)
        obtain ⟨⟨r0', r1', r2', r3'⟩, s0, s1', s2', s3'⟩ := whole4 M9.out.r
        obtain ⟨⟨d0, d1, d2, d3⟩, _⟩ := whole4 M9.out.d
        have hRl := M9.out.r.lt
        clear hb9 TX
        by_cases hok : defOk ⟨x0, (r1 : Nat), (t1 : Nat), xs⟩
        · rw [ckD_yes hok, txtL_yes hok]
          by_cases ht : textD ⟨x0, (r1 : Nat), (t1 : Nat), xs⟩ = s.data.toList
          · have PR : Hid (ParR s.data.toList ⟨x0, (r1 : Nat), (t1 : Nat), xs⟩ 0) := Lib.hid (Or.inl ⟨rfl, hok, ht⟩)
            rw [ht, ba_eta]
            clear hok ht
            go_wp2_with fail
            refine bodyPost_ret (v := .tuple #[.agg #[.string x0, .int .i64 (r1 : Int), .int .i64 (t1 : Int), .slice A9 (i - 3) c9], .int .i64 0]) ?_ rfl ?_
            · simp [results, Tryz.results70, go_sem, r0', r1', r2', r3']
            · exact ⟨⟨⟨x0, (r1 : Nat), (t1 : Nat), xs⟩, A9, i - 3, c9, 0, rfl, PR.out, (HDA.out.keep B9.out).grown (put4_grown _ _ _ _ _ _) (fun a ea hne => HAN.out a ea hne), HAF.out⟩, (((((M9.out.b).setCell (p := ⟨w.heap.size, 0, none⟩) (Nat.le_refl _) _).setCell (p := ⟨w.heap.size, 1, none⟩) (Nat.le_refl _) _).setCell (p := ⟨w.heap.size, 2, none⟩) (Nat.le_refl _) _).setCell (p := ⟨w.heap.size, 3, none⟩) (Nat.le_refl _) _)⟩
          · have hne : ((⟨(textD ⟨x0, (r1 : Nat), (t1 : Nat), xs⟩).toArray⟩ : ByteArray).toList == s.toList) = false := key_ne.2 (fun e => ht (by rw [← e]))
            have HB : Hid (∀ d0, defOk d0 → textD d0 ≠ s.data.toList) := Lib.hid (fun d0 h0 h1 => ht (by rw [HRT.out.1 d0 h0 h1]; exact h1))
            generalize (⟨(textD ⟨x0, (r1 : Nat), (t1 : Nat), xs⟩).toArray⟩ : ByteArray) = tb at hne ⊢
            clear hok ht
            go_wp2_with fail
            refine bodyPost_ret (v := .tuple #[.agg #[.string ⟨#[]⟩, .int .i64 0, .int .i64 0, .slice none 0 0], .int .i64 10]) ?_ rfl ?_
            · simp [results, Tryz.results70, go_sem, r0', r1', r2', r3']
            · exact rparse_zeroF HB.out (((((M9.out.b).setCell (p := ⟨w.heap.size, 0, none⟩) (Nat.le_refl _) _).setCell (p := ⟨w.heap.size, 1, none⟩) (Nat.le_refl _) _).setCell (p := ⟨w.heap.size, 2, none⟩) (Nat.le_refl _) _).setCell (p := ⟨w.heap.size, 3, none⟩) (Nat.le_refl _) _)
        · rw [ckD_no hok]
          have HB : Hid (∀ d0, defOk d0 → textD d0 ≠ s.data.toList) := Lib.hid (fun d0 h0 h1 => hok (by rw [HRT.out.1 d0 h0 h1]; exact h0))
          clear hok
          go_wp2_with fail
          refine bodyPost_ret (v := .tuple #[.agg #[.string ⟨#[]⟩, .int .i64 0, .int .i64 0, .slice none 0 0], .int .i64 10]) ?_ rfl ?_
          · simp [results, Tryz.results70, go_sem, r0', r1', r2', r3']
          · exact rparse_zeroF HB.out (((((M9.out.b).setCell (p := ⟨w.heap.size, 0, none⟩) (Nat.le_refl _) _).setCell (p := ⟨w.heap.size, 1, none⟩) (Nat.le_refl _) _).setCell (p := ⟨w.heap.size, 2, none⟩) (Nat.le_refl _) _).setCell (p := ⟨w.heap.size, 3, none⟩) (Nat.le_refl _) _)
end
end Go.Proofs.YtojodekmmkemgaaGreatDoor
