/- Where a sign stands in a word: strings.IndexAny at "+-", for words of whatever bytes. Condition: the word is short enough. -/
import Derived.Test.YtgeljnjcpkmlmaaGreatDoorIdxAny
import Derived.Lib.TrimU
namespace Go.Proofs.YtgeljnjcpkmlmaaGreatDoor
open Go.RowKit Go.Shelf

theorem dec_valid (s : ByteArray) (pos : Nat) : Utf8.valid ((Utf8.decode s pos).1 : Int) = true := by
  have hb : ∀ k, (s.get! (pos + k)).toNat < 256 := fun k => (s.get! (pos + k)).toNat_lt
  have h0 := hb 0; have h1 := hb 1
  simp only [Utf8.decode]
  repeat' split
  all_goals simp_all [Utf8.runeError, Utf8.valid]
  all_goals omega
theorem dec_pos (s : ByteArray) (pos : Nat) : 1 ≤ (Utf8.decode s pos).2 := by
  simp only [Utf8.decode]
  repeat' split
  all_goals simp
theorem idxAny_lt (ch : List UInt8) : ∀ l : List UInt8, Lib.indexAny l ch ≤ l.length
  | [] => by simp [Lib.indexAny]
  | b :: l => by
    have := idxAny_lt ch l
    unfold Lib.indexAny
    simp only [List.length_cons]
    split
    · omega
    · split <;> omega
set_option maxRecDepth 100000 in
set_option maxHeartbeats 4000000 in
theorem idxAny_short (s : ByteArray) (h8 : s.size ≤ 8) (w : World) :
    Calls Tryz.prog 97 #[.string s, .string pm] w fun e w' => (∃ n : Int, e = .returned (.int .i64 n) ∧ -1 ≤ n ∧ n ≤ s.size) ∧ Below w.heap.size w w' := by
  have SA := Lib.hid (fun (W : World) => Any.strings_shouldUseASCIISet { Tryz.lays153 with } (s.size : Int) W)
  rw [show decide ((8 : Int) < (s.size : Int)) = false from decide_eq_false (by omega)] at SA
  have B0 := Lib.hid ((Below.refl _ w).alloc (Nat.le_refl _) (.stringIter s 0))
  have I0 : Hid ((w.iter s 0).heap[w.heap.size]? = some (.stringIter s 0)) := Lib.hid (World.iter_heap w s 0)
  go_enter Tryz.func97, Tryz.ntmps97
  go_wp2_with (go_at_call 136; refine (SA.out _).mono ?_; rintro e w1 ⟨rfl, hw⟩; rw [hw]; clear hw)
  go_loopg [9, 10] s.size (fun g _ _ wx => ∃ i : Nat, s.size - i ≤ g ∧ Hid (wx.heap[w.heap.size]? = some (.stringIter s i)) ∧ Hid (Below w.heap.size w wx))
  case atStart => exact ⟨0, by omega, I0, B0⟩
  case round =>
    clear I0 B0
    obtain ⟨i, hig, HI, HB⟩ := hrel
    by_cases hi : i < s.size
    · cases gk with
      | zero => omega
      | succ g =>
        have hnx := fun ty => next_at (P := Tryz.prog) ty HI.out hi
        have hp := dec_pos s i
        have DV := Lib.hid (dec_valid s i)
        generalize Utf8.decode s i = dd at hnx hp DV
        obtain ⟨q, st⟩ := dd
        dsimp only at hnx hp DV
        have RX := Lib.hid (fun W : World => idxRune_any (q : Int) DV.out W)
        have HN := Lib.hid (putO_at (o' := .stringIter s (i + st)) HI.out)
        have HB2 := Lib.hid (below_putO (.stringIter s (i + st)) HB.out (Nat.le_refl _))
        generalize hwp : putO wr w.heap.size (.stringIter s (i + st)) = wp at hnx HN HB2
        have HH := Lib.hid (And.intro hig (And.intro hi hp))
        clear hwp hig hi hp h8
        go_upto_if 53 with (go_at_call 135; refine (RX.out _).mono ?_; rintro e w3 ⟨⟨n, rfl⟩, hb3⟩)
        by_cases hn : 0 ≤ n
        · rw [show decide (0 ≤ n) = true from decide_eq_true hn]
          clear hn hnx RX HI SA
          go_wp2_with fail
          go_ret
          exact ⟨⟨(i : Int), rfl, by omega, by have := HH.out.2.1; omega⟩, HB2.out.trans (hb3.mono HB2.out.size)⟩
        · rw [show decide (0 ≤ n) = false from decide_eq_false hn]
          clear hn hnx RX HI SA
          go_wp2_with fail
          obtain ⟨hig, hi, hp⟩ := HH.out
          go_roundg g
          case measure => omega
          case rel => exact ⟨i + st, by omega, Lib.hid ((hb3.block _ (by have := (Array.getElem?_eq_some_iff.1 HN.out).1; exact this)).trans HN.out), Lib.hid (HB2.out.trans (hb3.mono HB2.out.size))⟩
    · have hnx := fun ty => next_end (P := Tryz.prog) ty HI.out hi
      go_wp2_with fail
      go_ret
      exact ⟨⟨-1, rfl, by omega, by omega⟩, HB.out⟩
theorem idxAny_any (s : ByteArray) (w : World) (hs : s.size < 4294967281) :
    Calls Tryz.prog 97 #[.string s, .string pm] w fun e w' => (∃ n : Int, e = .returned (.int .i64 n) ∧ -1 ≤ n ∧ n ≤ s.size ∧ ((∀ c ∈ s.data.toList, c.toNat < 128) → n = Lib.indexAny s.data.toList [43, 45])) ∧ Below w.heap.size w w' := by
  have hpm : ∀ (j : Nat) b, pm.data.toList[j]? = some b → b.toNat < 128 := by
    intro j b hj
    have := List.mem_of_getElem? hj
    simp at this
    rcases this with rfl | rfl <;> decide
  have hle : Lib.indexAny s.data.toList [43, 45] ≤ s.size := by have := idxAny_lt [43, 45] s.data.toList; rw [Lib.size_eq]; omega
  by_cases ha : ∀ c ∈ s.data.toList, c.toNat < 128
  · refine (Tryz.strings_IndexAny_laid s pm w hs (by decide) (fun j b hj => ha b (List.mem_of_getElem? hj)) hpm).mono ?_
    rintro e w' ⟨rfl, hb⟩
    exact ⟨⟨_, rfl, Lib.indexAny_ge _ _, hle, fun _ => rfl⟩, hb⟩
  · by_cases h8 : s.size ≤ 8
    · refine (idxAny_short s h8 w).mono ?_
      rintro e w' ⟨⟨n, rfl, h1, h2⟩, hb⟩
      exact ⟨⟨n, rfl, h1, h2, fun h => absurd h ha⟩, hb⟩
    · have hz := zero_of_info (P := Tryz.prog) (t := 147) (v := .agg (Array.replicate 256 (.bool false))) (n := 256) (by kernel_rfl)
      refine (Tryz.strings_IndexAny_long hz.1 s pm w (by decide) (by omega) hs (by decide) hpm).mono ?_
      rintro e w' ⟨rfl, hb⟩
      refine ⟨⟨_, rfl, Lib.indexAny_ge _ _, hle, fun _ => rfl⟩, ?_⟩
      rw [hb]
      exact ((Below.refl _ _).alloc (Nat.le_refl _) _).alloc (by simp) _
theorem sg_contains (c : UInt8) : ([43, 45] : List UInt8).contains c = isSg c := by
  unfold isSg
  rw [List.contains_cons, List.contains_cons, List.contains_nil, Bool.or_false]
theorem idxAny_cut : ∀ l : List UInt8, Lib.indexAny l [43, 45] = if cutAt l = l.length then -1 else (cutAt l : Int)
  | [] => rfl
  | c :: l => by
    have ih := idxAny_cut l
    have hle : cutAt l ≤ l.length := by unfold cutAt; exact (List.takeWhile_sublist _).length_le
    unfold Lib.indexAny
    by_cases h : isSg c = true
    · have h1 : ([43, 45] : List UInt8).contains c = true := by rw [sg_contains]; exact h
      have h2 : cutAt (c :: l) = 0 := by unfold cutAt; simp [h]
      rw [if_pos h1, h2]; simp
    · have h1 : ¬ ([43, 45] : List UInt8).contains c = true := by rw [sg_contains]; exact h
      have h2 : cutAt (c :: l) = cutAt l + 1 := by unfold cutAt; simp [h]
      rw [if_neg h1, ih, h2, List.length_cons]
      by_cases h3 : cutAt l = l.length
      · rw [if_pos h3, if_pos (show cutAt l + 1 = l.length + 1 by omega)]; rfl
      · rw [if_neg h3, if_neg (show ¬ cutAt l + 1 = l.length + 1 by omega), if_neg (by rw [beq_iff_eq]; omega)]; omega
end Go.Proofs.YtgeljnjcpkmlmaaGreatDoor
