/- Merged by program: IdxAny, IdxAny2, DfSeq. -/
import Derived.Test.YtojodekmmkemgaaGreatDoorDfS
import Derived.Laws.RangeAny
import Derived.Laws.Runes
import Derived.Lib.QuoteLoop
import Derived.Shelf.Strings.Runes
import Derived.Shelf.Strings.IndexAnyAll
import Derived.Maps.Range
import Derived.BigQuiet
import Derived.WalkMore
import Derived.Lib.TrimU
import Derived.Test.YtojodekmmkemgaaGreatDoorGnS
import Derived.Lib.ParseIntBTie
import Derived.Lib.AtoiAllCases
import Derived.Shelf.Strconv.ErrVarAll
import Derived.Shelf.Strconv.ErrVarParseInt
namespace Go.Proofs.YtojodekmmkemgaaGreatDoor
section
open Go.RowKit Go.Shelf

def putO (w : World) (b : Nat) (o : Obj) : World := { w with heap := w.heap.setIfInBounds b o }
/-- A step of a range over a text, wherever the iterator lies. -/
theorem next_at {P : Program} {W : World} {b : Nat} {s : ByteArray} {pos : Nat} (ty : TypeId) (hb : W.heap[b]? = some (.stringIter s pos)) (h : pos < s.size) :
    (Instr.next (.pointer (some ⟨b, 0, none⟩)) true ty).run P W = .ok (.tuple #[.bool true, .int .i64 pos, .int .i32 (Utf8.decode s pos).1]) (putO W b (.stringIter s (pos + (Utf8.decode s pos).2))) := by
  simp only [Instr.next, getObj, setObj, Sem.run_bind, Sem.run, hb, Result.andThen, h, if_true]
  simp [goInt, putO]
theorem next_end {P : Program} {W : World} {b : Nat} {s : ByteArray} {pos : Nat} (ty : TypeId) (hb : W.heap[b]? = some (.stringIter s pos)) (h : ¬ pos < s.size) :
    (Instr.next (.pointer (some ⟨b, 0, none⟩)) true ty).run P W = .ok (.tuple #[.bool false]) W := by
  simp [Instr.next, getObj, Sem.run, hb, h]
theorem putO_at {W : World} {b : Nat} {o o' : Obj} (hb : W.heap[b]? = some o) : (putO W b o').heap[b]? = some o' := by
  obtain ⟨h, _⟩ := Array.getElem?_eq_some_iff.1 hb
  simp [putO, h]
theorem below_putO {w W : World} {b : Nat} (o : Obj) (h : Below w.heap.size w W) (hb : w.heap.size ≤ b) : Below w.heap.size w (putO W b o) :=
  ⟨h.os, h.tape, h.output, by simpa [putO] using h.size, fun k hk => by
    have : b ≠ k := by omega
    simp only [putO]
    rw [Array.getElem?_setIfInBounds_ne this]
    exact h.block k hk⟩
abbrev pm : ByteArray := ⟨#[43, 45]⟩
theorem idxByte_any (s : ByteArray) (c : Int) (w : World) : Calls Tryz.prog 184 #[.string s, .int .u8 c] w fun e w' => e = .returned (.int .i64 (Lib.indexByte s.data.toList c.toNat.toUInt8)) ∧ w' = w :=
  Any.strings_IndexByte { Tryz.lays153 with } s c w
theorem valid_any (r : Int) (hv : Utf8.valid r = true) (w : World) : Calls Tryz.prog 185 #[.int .i32 r] w fun e w' => e = .returned (.bool true) ∧ w' = w := by
  rw [validRune_eq] at hv
  have h := of_decide_eq_true hv
  clear hv
  by_cases h1 : r < 55296
  · have h0 : 0 ≤ r := by omega
    clear h
    go_enter Tryz.func185, Tryz.ntmps185
    go_wp2
    go_ret
    exact ⟨rfl, rfl⟩
  · have h0 : 0 ≤ r := by omega
    have h2 : 57343 < r := by omega
    have h3 : r ≤ 1114111 := by omega
    clear h
    go_enter Tryz.func185, Tryz.ntmps185
    go_wp2
    go_ret
    exact ⟨rfl, rfl⟩
set_option maxRecDepth 100000 in
set_option maxHeartbeats 4000000 in
theorem idxRune_any (r : Int) (hv : Utf8.valid r = true) (w : World) : Calls Tryz.prog 176 #[.string pm, .int .i32 r] w fun e w' => (∃ n : Int, e = .returned (.int .i64 n)) ∧ Below w.heap.size w w' := by
  have h0 : 0 ≤ r := by have := of_decide_eq_true ((validRune_eq r).symm.trans hv); omega
  by_cases h1 : r < 128
  · refine (Any.strings_IndexRune_ascii { Tryz.lays153 with } pm r w h0 h1).mono ?_
    rintro e w' ⟨rfl, rfl⟩
    exact ⟨⟨_, rfl⟩, Below.refl _ _⟩
  by_cases h2 : r = 65533
  · subst h2
    have B0 := Lib.hid ((Below.refl _ w).alloc (Nat.le_refl _) (.stringIter pm 0))
    have I0 : Hid ((w.iter pm 0).heap[w.heap.size]? = some (.stringIter pm 0)) := Lib.hid (World.iter_heap w pm 0)
    go_enter Tryz.func176, Tryz.ntmps176
    go_wp2_with fail
    go_loopg [5, 6] 2 (fun g _ _ wx => ∃ i : Nat, i + g = 2 ∧ Hid (wx.heap[w.heap.size]? = some (.stringIter pm i)) ∧ Hid (Below w.heap.size w wx))
    case atStart => exact ⟨0, by omega, I0, B0⟩
    case round =>
      clear I0 B0
      obtain ⟨i, hig, HI, HB⟩ := hrel
      cases gk with
      | zero =>
        obtain rfl : i = 2 := by omega
        have hnx := fun ty => next_end (P := Tryz.prog) ty HI.out (by decide)
        go_wp2_with fail
        go_ret
        exact ⟨⟨_, rfl⟩, HB.out⟩
      | succ g =>
        have hi : i < pm.size := by show i < 2; omega
        have hnx := fun ty => next_at (P := Tryz.prog) ty HI.out hi
        obtain ⟨q, hq, hq2⟩ : ∃ q : Nat, Utf8.decode pm i = (q, 1) ∧ q < 100 := by
          obtain rfl | rfl : i = 0 ∨ i = 1 := by omega
          · exact ⟨43, by decide, by decide⟩
          · exact ⟨45, by decide, by decide⟩
        rw [hq] at hnx
        dsimp only at hnx
        have hqe : ((q : Int) == 65533) = false := by rw [beq_eq_false_iff_ne]; omega
        have HN := Lib.hid (putO_at (o' := .stringIter pm (i + 1)) HI.out)
        have HB2 := Lib.hid (below_putO (.stringIter pm (i + 1)) HB.out (Nat.le_refl _))
        clear hq hi
        go_wp2_with fail
        go_roundg g
        case measure => omega
        case rel => exact ⟨i + 1, by omega, HN, HB2⟩
  · obtain ⟨e2, e4, el⟩ := encode_facts r hv (by omega)
    have VR := Lib.hid (valid_any r hv)
    have h2b : (r == 65533) = false := by rw [beq_eq_false_iff_ne]; exact h2
    have hlt : ¬ r < 128 := h1
    generalize hps : Utf8.encode r = ps at e2 e4 el
    clear hv h1 h2
    have hw1 : IntKind.i64.wrap ((ps.size : Int) - 1) = (ps.size : Int) - 1 := IntWalk.i64_in _ (by omega)
    have hwr : IntKind.i32.wrap r = r ∨ True := Or.inr trivial
    clear hwr
    by_cases h3 : ps.size = 2
    · have hlt1 : 1 < ps.size := by omega
      obtain ⟨b, hb⟩ : ∃ b : UInt8, ps[1]'hlt1 = b := ⟨_, rfl⟩
      have hb128 : 128 ≤ b.toNat := by
        have := el (by omega)
        simp only [h3] at this
        rw [← hb]; exact this
      have hne : ((((pm[1]'(by decide)).toNat : Nat) : Int) != (b.toNat : Int)) = true := by
        rw [bne_iff_ne, show (pm[1]'(by decide)).toNat = 45 from rfl]; omega
      clear hw1
      have HX : Hid (∀ W : World, Calls Tryz.prog 184 #[.string ByteArray.empty, .int .u8 (b.toNat : Int)] W fun e w' => e = .returned (.int .i64 (-1)) ∧ w' = W) := Lib.hid (fun W => idxByte_any ByteArray.empty b.toNat W)
      have hhi : (1 : Int) < 2 := by omega
      go_enter Tryz.func176, Tryz.ntmps176
      go_wp2_with (go_at_call 185; refine (VR.out _).mono ?_; rintro e w1 ⟨rfl, rfl⟩)
      go_step3
      go_wp2_with fail
      go_loopw [9] (fun i wr => i = .int .i64 1 ∧ wr = w1) (fun _ _ => 0)
      case atStart => exact ⟨by first | rfl | (rw [h3]; rfl), rfl⟩
      case round =>
        obtain ⟨rfl, rfl⟩ := hrel
        go_wp2_with fail
        go_step3
        go_wp2_with fail
        go_quiet (fail)
        go_wp2_with fail
        have BQ := Lib.hid (b_drewN (Below.refl wr.heap.size wr) nq)
        generalize wr.drewN nq = wq at BQ ⊢
        have hwx : IntKind.i64.wrap 2 = 2 := by decide
        go_quiet (exact Calls.quiet_of_same (HX.out _))
        go_wp2_with fail
        rw [Exit.noGoto_ret]
        go_big_unhide
        simp only [Exit.inBlock, Exit.noGoto, Exit.then]
        go_ret
        exact ⟨⟨_, rfl⟩, b_drewN BQ.out _⟩
    · have h3' : ¬ ((ps.size : Int) - 1 < 2) := by omega
      go_enter Tryz.func176, Tryz.ntmps176
      go_wp2_with (go_at_call 185; refine (VR.out _).mono ?_; rintro e w1 ⟨rfl, rfl⟩)
      go_step3
      go_wp2_with fail
      go_loopw [9] (fun i wr => i = .int .i64 ((ps.size : Int) - 1) ∧ wr = w1) (fun _ _ => 0)
      case atStart => exact ⟨by first | rfl | (rw [hps, hw1]) | (rw [hw1]), rfl⟩
      case round =>
        obtain ⟨rfl, rfl⟩ := hrel
        go_wp2_with fail
        rw [Exit.noGoto_ret]
        go_ret
        exact ⟨⟨_, rfl⟩, Below.refl _ _⟩
end
section
open Go.RowKit Go.Shelf

theorem dec_valid (s : ByteArray) (pos : Nat) : Utf8.valid ((Utf8.decode s pos).1 : Int) = true := by
  have hb : ∀ k, (s.get! (pos + k)).toNat < 256 := fun k => (s.get! (pos + k)).toNat_lt
  have h0 := hb 0; have h1 := hb 1
  simp only [Utf8.decode]
  repeat' split
  all_goals simp_all [Utf8.runeError, Utf8.valid]
  all_goals omega
theorem dec_pos (s : ByteArray) (pos : Nat) : 1 ≤ (Utf8.decode s pos).2 := by
  simp only [Utf8.decode]
  repeat' split
  all_goals simp
theorem idxAny_lt (ch : List UInt8) : ∀ l : List UInt8, Lib.indexAny l ch ≤ l.length
  | [] => by simp [Lib.indexAny]
  | b :: l => by
    have := idxAny_lt ch l
    unfold Lib.indexAny
    simp only [List.length_cons]
    split
    · omega
    · split <;> omega
set_option maxRecDepth 100000 in
set_option maxHeartbeats 4000000 in
theorem idxAny_short (s : ByteArray) (h8 : s.size ≤ 8) (w : World) :
    Calls Tryz.prog 158 #[.string s, .string pm] w fun e w' => (∃ n : Int, e = .returned (.int .i64 n) ∧ -1 ≤ n ∧ n ≤ s.size) ∧ Below w.heap.size w w' := by
  have SA := Lib.hid (fun (W : World) => Any.strings_shouldUseASCIISet { Tryz.lays153 with } (s.size : Int) W)
  rw [show decide ((8 : Int) < (s.size : Int)) = false from decide_eq_false (by omega)] at SA
  have B0 := Lib.hid ((Below.refl _ w).alloc (Nat.le_refl _) (.stringIter s 0))
  have I0 : Hid ((w.iter s 0).heap[w.heap.size]? = some (.stringIter s 0)) := Lib.hid (World.iter_heap w s 0)
  go_enter Tryz.func158, Tryz.ntmps158
  go_wp2_with (go_at_call 177; refine (SA.out _).mono ?_; rintro e w1 ⟨rfl, hw⟩; rw [hw]; clear hw)
  go_loopg [9, 10] s.size (fun g _ _ wx => ∃ i : Nat, s.size - i ≤ g ∧ Hid (wx.heap[w.heap.size]? = some (.stringIter s i)) ∧ Hid (Below w.heap.size w wx))
  case atStart => exact ⟨0, by omega, I0, B0⟩
  case round =>
    clear I0 B0
    obtain ⟨i, hig, HI, HB⟩ := hrel
    by_cases hi : i < s.size
    · cases gk with
      | zero => omega
      | succ g =>
        have hnx := fun ty => next_at (P := Tryz.prog) ty HI.out hi
        have hp := dec_pos s i
        have DV := Lib.hid (dec_valid s i)
        generalize Utf8.decode s i = dd at hnx hp DV
        obtain ⟨q, st⟩ := dd
        dsimp only at hnx hp DV
        have RX := Lib.hid (fun W : World => idxRune_any (q : Int) DV.out W)
        have HN := Lib.hid (putO_at (o' := .stringIter s (i + st)) HI.out)
        have HB2 := Lib.hid (below_putO (.stringIter s (i + st)) HB.out (Nat.le_refl _))
        generalize hwp : putO wr w.heap.size (.stringIter s (i + st)) = wp at hnx HN HB2
        have HH := Lib.hid (And.intro hig (And.intro hi hp))
        clear hwp hig hi hp h8
        go_upto_if 53 with (go_at_call 176; refine (RX.out _).mono ?_; rintro e w3 ⟨⟨n, rfl⟩, hb3⟩)
        by_cases hn : 0 ≤ n
        · rw [show decide (0 ≤ n) = true from decide_eq_true hn]
          clear hn hnx RX HI SA
          go_wp2_with fail
          go_ret
          exact ⟨⟨(i : Int), rfl, by omega, by have := HH.out.2.1; omega⟩, HB2.out.trans (hb3.mono HB2.out.size)⟩
        · rw [show decide (0 ≤ n) = false from decide_eq_false hn]
          clear hn hnx RX HI SA
          go_wp2_with fail
          obtain ⟨hig, hi, hp⟩ := HH.out
          go_roundg g
          case measure => omega
          case rel => exact ⟨i + st, by omega, Lib.hid ((hb3.block _ (by have := (Array.getElem?_eq_some_iff.1 HN.out).1; exact this)).trans HN.out), Lib.hid (HB2.out.trans (hb3.mono HB2.out.size))⟩
    · have hnx := fun ty => next_end (P := Tryz.prog) ty HI.out hi
      go_wp2_with fail
      go_ret
      exact ⟨⟨-1, rfl, by omega, by omega⟩, HB.out⟩
theorem idxAny_any (s : ByteArray) (w : World) (hs : s.size < 4294967281) :
    Calls Tryz.prog 158 #[.string s, .string pm] w fun e w' => (∃ n : Int, e = .returned (.int .i64 n) ∧ -1 ≤ n ∧ n ≤ s.size ∧ ((∀ c ∈ s.data.toList, c.toNat < 128) → n = Lib.indexAny s.data.toList [43, 45])) ∧ Below w.heap.size w w' := by
  have hpm : ∀ (j : Nat) b, pm.data.toList[j]? = some b → b.toNat < 128 := by
    intro j b hj
    have := List.mem_of_getElem? hj
    simp at this
    rcases this with rfl | rfl <;> decide
  have hle : Lib.indexAny s.data.toList [43, 45] ≤ s.size := by have := idxAny_lt [43, 45] s.data.toList; rw [Lib.size_eq]; omega
  by_cases ha : ∀ c ∈ s.data.toList, c.toNat < 128
  · refine (Tryz.strings_IndexAny_laid s pm w hs (by decide) (fun j b hj => ha b (List.mem_of_getElem? hj)) hpm).mono ?_
    rintro e w' ⟨rfl, hb⟩
    exact ⟨⟨_, rfl, Lib.indexAny_ge _ _, hle, fun _ => rfl⟩, hb⟩
  · by_cases h8 : s.size ≤ 8
    · refine (idxAny_short s h8 w).mono ?_
      rintro e w' ⟨⟨n, rfl, h1, h2⟩, hb⟩
      exact ⟨⟨n, rfl, h1, h2, fun h => absurd h ha⟩, hb⟩
    · have hz := zero_of_info (P := Tryz.prog) (t := 168) (v := .agg (Array.replicate 256 (.bool false))) (n := 256) (by kernel_rfl)
      refine (Tryz.strings_IndexAny_long hz.1 s pm w (by decide) (by omega) hs (by decide) hpm).mono ?_
      rintro e w' ⟨rfl, hb⟩
      refine ⟨⟨_, rfl, Lib.indexAny_ge _ _, hle, fun _ => rfl⟩, ?_⟩
      rw [hb]
      exact ((Below.refl _ _).alloc (Nat.le_refl _) _).alloc (by simp) _
theorem sg_contains (c : UInt8) : ([43, 45] : List UInt8).contains c = isSg c := by
  unfold isSg
  rw [List.contains_cons, List.contains_cons, List.contains_nil, Bool.or_false]
theorem idxAny_cut : ∀ l : List UInt8, Lib.indexAny l [43, 45] = if cutAt l = l.length then -1 else (cutAt l : Int)
  | [] => rfl
  | c :: l => by
    have ih := idxAny_cut l
    have hle : cutAt l ≤ l.length := by unfold cutAt; exact (List.takeWhile_sublist _).length_le
    unfold Lib.indexAny
    by_cases h : isSg c = true
    · have h1 : ([43, 45] : List UInt8).contains c = true := by rw [sg_contains]; exact h
      have h2 : cutAt (c :: l) = 0 := by unfold cutAt; simp [h]
      rw [if_pos h1, h2]; simp
    · have h1 : ¬ ([43, 45] : List UInt8).contains c = true := by rw [sg_contains]; exact h
      have h2 : cutAt (c :: l) = cutAt l + 1 := by unfold cutAt; simp [h]
      rw [if_neg h1, ih, h2, List.length_cons]
      by_cases h3 : cutAt l = l.length
      · rw [if_pos h3, if_pos (show cutAt l + 1 = l.length + 1 by omega)]; rfl
      · rw [if_neg h3, if_neg (show ¬ cutAt l + 1 = l.length + 1 by omega), if_neg (by rw [beq_iff_eq]; omega)]; omega
end
section
open Go.RowKit Go.Shelf
attribute [local go_sem] Oper.semAt_some

theorem below_bytes (w : World) (t : ByteArray) : Below w.heap.size w (Lib.bytesWorld w 5 t) := Joins.below_bytesWorld _ w _ t (Nat.le_refl _)
/-- Where a word is cut. -/
theorem idx2_any (s : ByteArray) (w : World) (hs : s.size ≤ 1000000) :
    Calls Tryz.prog 158 #[.string s, .string pm] w fun e w' => ((∃ k : Nat, e = .returned (.int .i64 (k : Int)) ∧ k ≤ s.size ∧ ((∀ c ∈ s.data.toList, c.toNat < 128) → k < s.size ∧ cutAt s.data.toList = k)) ∨ (e = .returned (.int .i64 (-1)) ∧ ((∀ c ∈ s.data.toList, c.toNat < 128) → cutAt s.data.toList = s.data.toList.length))) ∧ Below w.heap.size w w' := by
  refine (idxAny_any s w (by omega)).mono ?_
  rintro e w' ⟨⟨n, rfl, h1, h2, h3⟩, hb⟩
  refine ⟨?_, hb⟩
  have hle : cutAt s.data.toList ≤ s.data.toList.length := by unfold cutAt; exact (List.takeWhile_sublist _).length_le
  rcases Int.lt_or_le n 0 with hn | hn
  · obtain rfl : n = -1 := by omega
    refine Or.inr ⟨rfl, fun h => ?_⟩
    have := h3 h
    rw [idxAny_cut] at this
    split at this
    · assumption
    · omega
  · obtain ⟨k, rfl⟩ := Int.eq_ofNat_of_zero_le hn
    refine Or.inl ⟨k, rfl, by omega, fun h => ?_⟩
    have := h3 h
    rw [idxAny_cut] at this
    split at this
    · omega
    · rw [← Lib.size_eq] at *; exact ⟨by omega, by omega⟩
theorem parse2_any (s : ByteArray) (w : World) (hs : s.size ≤ 1000000) (hE : DfE w) :
    Calls Tryz.prog 159 #[.string s, .int .i64 10, .int .i64 64] w fun e w' => ((∃ v : Int, e = .returned (.tuple #[.int .i64 v, .nilIface]) ∧ Lib.parseIntB 64 s.data.toList = .ok v) ∨ (∃ (v : Int) (N : Nat), e = .returned (.tuple #[.int .i64 v, .iface 189 (.pointer (some ⟨N, 0, none⟩))]) ∧ ∀ u, Lib.parseIntB 64 s.data.toList ≠ .ok u)) ∧ Below w.heap.size w w' := by
  rcases h : Lib.parseIntB 64 s.data.toList with v | _ | _
  · refine (Tryz.strconv_ParseInt_10_at64_ok s (by omega) v h w).mono ?_
    rintro e w' ⟨rfl, h2⟩
    refine ⟨Or.inl ⟨v, rfl, rfl⟩, ?_⟩
    rcases h2 with rfl | ⟨t, rfl⟩
    · exact Below.refl _ _
    · exact below_bytes w t
  · obtain ⟨tp, p, hv⟩ := hE.syn
    refine (Any.strconv_ParseInt_10_at64_syntax_var Tryz.laysC174 s (by omega) h tp p w hv).mono ?_
    rintro e w' ⟨N, rfl, _, _, hb⟩
    exact ⟨Or.inr ⟨_, N, rfl, by rintro u hu; cases hu⟩, hb⟩
  · obtain ⟨tp, p, hv⟩ := hE.rng
    refine (Any.strconv_ParseInt_10_at64_range_var Tryz.laysC174 s (by omega) h tp p w hv).mono ?_
    rintro e w' ⟨N, rfl, _, _, hb⟩
    exact ⟨Or.inr ⟨_, N, rfl, by rintro u hu; cases hu⟩, hb⟩
theorem atoi2_any (s : ByteArray) (w : World) (hs : s.size ≤ 1000000) (hE : DfE w) :
    Calls Tryz.prog 131 #[.string s] w fun e w' => ((∃ v : Int, e = .returned (.tuple #[.int .i64 v, .nilIface]) ∧ Lib.atoiAll s.data.toList = .ok v) ∨ (∃ (v : Int) (N : Nat), e = .returned (.tuple #[.int .i64 v, .iface 189 (.pointer (some ⟨N, 0, none⟩))]) ∧ ∀ u, Lib.atoiAll s.data.toList ≠ .ok u)) ∧ Below w.heap.size w w' := by
  rcases h : Lib.atoiAll s.data.toList with v | _ | _
  · refine (Tryz.strconv_Atoi_ok s (by omega) v h w).mono ?_
    rintro e w' ⟨rfl, h2⟩
    refine ⟨Or.inl ⟨v, rfl, rfl⟩, ?_⟩
    rcases h2 with rfl | ⟨t, rfl⟩
    · exact Below.refl _ _
    · exact below_bytes w t
  · obtain ⟨tp, p, hv⟩ := hE.syn
    refine (Any.strconv_Atoi_syntax_var Tryz.laysC172 s (by omega) h tp p w hv).mono ?_
    rintro e w' ⟨N, rfl, _, _, hb⟩
    exact ⟨Or.inr ⟨_, N, rfl, by rintro u hu; cases hu⟩, hb⟩
  · obtain ⟨tp, p, hv⟩ := hE.rng
    refine (Any.strconv_Atoi_range_var Tryz.laysC172 s (by omega) h tp p w hv).mono ?_
    rintro e w' ⟨N, rfl, _, _, hb⟩
    exact ⟨Or.inr ⟨_, N, rfl, by rintro u hu; cases hu⟩, hb⟩
/-- A slice holds these words. -/
def SlW (w : World) (A : Option Addr) (ws : List ByteArray) : Prop := ∀ (i : Nat) x, ws[i]? = some x → ∃ g o, A = some ⟨g, o, none⟩ ∧ w.cell? ⟨g, o + i, none⟩ = some (.string x)
theorem SlW.keep {w w' : World} {A : Option Addr} {ws : List ByteArray} (h : SlW w A ws) (hb : Below w.heap.size w w') : SlW w' A ws := fun i x hi => by
  obtain ⟨g, o, rfl, c⟩ := h i x hi
  exact ⟨g, o, rfl, bcell c hb⟩
/-- What the iterator does between two rounds, and what a round may do. -/
def MvB (A B : World) : Prop := Below A.heap.size A B
def KpB (n : Nat) (A B : World) : Prop := Below n A B
def wL (ws : List ByteArray) : List (List UInt8) := ws.map (·.data.toList)
/-- What the words yielded so far say. -/
def StepsK (ws : List ByteArray) (l : List Sp) : Prop := ∀ (i : Nat) x p, ws[i]? = some x → l[i]? = some p → StepRel x.data.toList p ∧ SpZ p
theorem StepsK.rel {ws : List ByteArray} {l : List Sp} (h : StepsK ws l) (hl : l.length = ws.length) : StepsRel (wL ws) l :=
  ⟨by unfold wL; rw [List.length_map, hl], fun i w p hw hp => by
    unfold wL at hw
    rw [List.getElem?_map] at hw
    cases hx : ws[i]? with
    | none => rw [hx] at hw; cases hw
    | some x => rw [hx] at hw; cases hw; exact (h i x p hx hp).1⟩
theorem StepsK.snoc {ws : List ByteArray} {l : List Sp} {x : ByteArray} {p : Sp} (h : StepsK ws l) (hx : ws[l.length]? = some x) (hp : StepRel x.data.toList p ∧ SpZ p) : StepsK ws (l ++ [p]) := fun i y q hy hq => by
  rw [List.getElem?_append] at hq
  split at hq
  · exact h i y q hy hq
  · rename_i hn
    have : i - l.length = 0 := by
      have := (List.getElem?_eq_some_iff.1 hq).1
      simp at this; omega
    obtain rfl : i = l.length := by omega
    rw [hx] at hy; cases hy
    simp at hq; subst hq
    exact hp
theorem extract_take (s : ByteArray) (k : Nat) : s.extract 0 k = ⟨(s.data.toList.take k).toArray⟩ := by
  apply ByteArray.ext
  rw [ByteArray.data_extract]
  apply Array.ext'
  simp
theorem extract_drop (s : ByteArray) (k : Nat) : (s.extract k s.size).data.toList = s.data.toList.drop k := by
  rw [ByteArray.data_extract, Array.toList_extract, List.extract_eq_take_drop]
  apply List.take_of_length_le
  rw [List.length_drop, ← Lib.size_eq]
  exact Nat.le_refl _
theorem spz_zero : SpZ ⟨⟨#[]⟩, 0⟩ := ⟨Nat.zero_le _, by decide, by decide⟩
theorem rel_none {s : ByteArray} (h : (∀ c ∈ s.data.toList, c.toNat < 128) → cutAt s.data.toList = s.data.toList.length) : StepRel s.data.toList ⟨⟨#[]⟩, 0⟩ ∧ SpZ ⟨⟨#[]⟩, 0⟩ := ⟨fun ha => by
  unfold pStep; rw [if_pos (h ha)], spz_zero⟩
theorem rel_ok {s : ByteArray} {k : Nat} {v : Int} (hs : s.size ≤ 1000000) (h : (∀ c ∈ s.data.toList, c.toNat < 128) → k < s.size ∧ cutAt s.data.toList = k) (hp : Lib.parseIntB 64 (s.extract k s.size).data.toList = .ok v) : StepRel s.data.toList ⟨s.extract 0 k, v⟩ ∧ SpZ ⟨s.extract 0 k, v⟩ := ⟨fun ha => by
  obtain ⟨h1, h2⟩ := h ha
  rw [extract_drop] at hp
  unfold pStep
  rw [h2, if_neg (by rw [← Lib.size_eq]; omega), hp, extract_take s k], by
  have h1 := Lib.parseIntB_bounds hp
  rw [show ((2 ^ (64 - 1) : Nat) : Int) = 9223372036854775808 by decide] at h1
  refine ⟨?_, h1.1, by have := h1.2; show v ≤ _; omega⟩
  show (s.extract 0 k).size ≤ _
  rw [extract_take, Lib.size_mk, List.length_take]
  have := Lib.size_eq s
  omega⟩
theorem rel_bad {s : ByteArray} {k : Nat} (h : (∀ c ∈ s.data.toList, c.toNat < 128) → k < s.size ∧ cutAt s.data.toList = k) (hp : ∀ u, Lib.parseIntB 64 (s.extract k s.size).data.toList ≠ .ok u) : StepRel s.data.toList ⟨⟨#[]⟩, 0⟩ ∧ SpZ ⟨⟨#[]⟩, 0⟩ := ⟨fun ha => by
  obtain ⟨h1, h2⟩ := h ha
  rw [extract_drop] at hp
  unfold pStep
  rw [h2, if_neg (by rw [← Lib.size_eq]; omega)]
  rcases hq : Lib.parseIntB 64 (s.data.toList.drop k) with v | _ | _
  · exact absurd hq (hp v)
  · rfl
  · rfl, spz_zero⟩
end
end Go.Proofs.YtojodekmmkemgaaGreatDoor
