/- strings.SplitSeq at a line feed: the iterator's contract. Condition: the text has at most 65,536 bytes. -/
import Derived.RangeFuncNested
import Derived.RangeFuncBound
import Derived.RangeFuncCalls
import Derived.RangeFuncLeaves
import Derived.Shelf.Abstract
import Derived.Shelf.RegionOpen
import Derived.WalkKit
import Derived.OwnWalkIn
import Derived.TacticsInMore
import Derived.LoopNIn
import Derived.LoopIn
import Derived.BigRegionIn
import Derived.Lib.IndexLaws
import Derived.Test.YtojodekmmkemgaaGreatDoorScLs
import Derived.Test.YtojodekmmkemgaaGreatDoorSeqM
import Derived.Test.YtojodekmmkemgaaGreatDoorPsS
namespace Go.Proofs.YtojodekmmkemgaaGreatDoor
open Go.RowKit Go.Shelf
attribute [local go_sem] Oper.semAt_some

/-- A step of the iterator: what is left turns. -/
def LinM (K : Nat) (A B : World) : Prop := ∃ v0 v, Boxed A K 9 v0 ∧ B = A.setCell ⟨K, 0, none⟩ v
def LinK (K : Nat) (W W' : World) : Prop := W'.heap[K]? = W.heap[K]? ∧ W'.heap[K + 1]? = W.heap[K + 1]? ∧ W'.heap[K + 2]? = W.heap[K + 2]?
/-- A line. -/
abbrev Ln := { l : List UInt8 // l.length ≤ 65536 }
def lnV (x : Ln) : Value := .string ⟨x.1.toArray⟩
theorem split10 (m : List UInt8) : ((10 : UInt8) ∉ m ∧ Lib.indexByte m 10 = -1 ∧ linesL m = [m]) ∨ ∃ a b, m = a ++ 10 :: b ∧ Lib.indexByte m 10 = (a.length : Int) ∧ linesL m = a :: linesL b := by
  have hge := Lib.indexByte_ge m 10
  rcases (show -1 < Lib.indexByte m 10 ∨ -1 = Lib.indexByte m 10 by omega) with h | h
  · obtain ⟨o, ho⟩ : ∃ o : Nat, Lib.indexByte m 10 = o := ⟨(Lib.indexByte m 10).toNat, by omega⟩
    obtain ⟨h1, h2⟩ := Lib.indexByte_some ho
    have e : m = m.take o ++ 10 :: m.drop (o + 1) := by
      obtain ⟨hlt, hg⟩ := List.getElem?_eq_some_iff.1 h1
      have h3 := List.take_append_drop o m
      rw [List.drop_eq_getElem_cons hlt, hg] at h3
      exact h3.symm
    have hn : (10 : UInt8) ∉ m.take o := fun hm => by
      obtain ⟨k, hk⟩ := List.getElem?_of_mem hm
      rw [List.getElem?_take] at hk
      split at hk
      · exact h2 k (by assumption) hk
      · cases hk
    have hlt := (List.getElem?_eq_some_iff.1 h1).1
    refine .inr ⟨m.take o, m.drop (o + 1), e, by rw [ho, List.length_take, Nat.min_eq_left (by omega)], ?_⟩
    rw [← linesL_line hn, ← e]
  · refine .inl ⟨fun hm => ?_, h.symm, ?_⟩
    · obtain ⟨k, hk⟩ := List.getElem?_of_mem hm
      exact Lib.indexByte_none h.symm k hk
    · exact linesL_last (fun hm => by
        obtain ⟨k, hk⟩ := List.getElem?_of_mem hm
        exact Lib.indexByte_none h.symm k hk)
theorem splitSeq_in (k : Nat) (s sep : ByteArray) (w : World) :
    CallsIn Fence.wide k Tryz.prog 80 #[.string s, .string sep, .int .i64 0] w fun e w' => e = .returned (.func (.func 114) #[] #[.pointer (some ⟨w.heap.size + 1, 0, none⟩), .pointer (some ⟨w.heap.size, 0, none⟩), .pointer (some ⟨w.heap.size + 1 + 1, 0, none⟩)]) ∧ w' = ((w.alloc (.cells #[.string s] 9)).alloc (.cells #[.string sep] 9)).alloc (.cells #[.int .i64 0] 3) := by
  refine callsIn_of_wp Tryz.func80 rfl trivial ?_ rfl
  simp only [Tryz.ntmps80, List.size_toArray, List.length_cons, List.length_nil, Nat.reduceAdd, Nat.reduceSub, Array.replicate_succ, Array.replicate_zero, List.push_toArray, List.append_toArray, List.nil_append, List.cons_append]
  gi_wp2
  go_ret
  exact ⟨rfl, rfl⟩
theorem SplitSeq_in (k : Nat) (hk : 1 ≤ k) (s sep : ByteArray) (w : World) :
    CallsIn Fence.wide k Tryz.prog 44 #[.string s, .string sep] w fun e w' => e = .returned (.func (.func 114) #[] #[.pointer (some ⟨w.heap.size + 1, 0, none⟩), .pointer (some ⟨w.heap.size, 0, none⟩), .pointer (some ⟨w.heap.size + 1 + 1, 0, none⟩)]) ∧ w' = ((w.alloc (.cells #[.string s] 9)).alloc (.cells #[.string sep] 9)).alloc (.cells #[.int .i64 0] 3) := by
  refine callsIn_of_wp Tryz.func44 rfl trivial ?_ rfl
  simp only [Tryz.ntmps44, List.size_toArray, List.length_cons, List.length_nil, Nat.reduceAdd, Nat.reduceSub, Array.replicate_succ, Array.replicate_zero, List.push_toArray, List.append_toArray, List.nil_append, List.cons_append]
  gi_wp2_with (refine ⟨trivial, ?_⟩; gi_at_call 80; refine (splitSeq_in _ _ _ _).mono ?_; rintro e w2 ⟨rfl, rfl⟩)
  go_ret
  exact ⟨rfl, rfl⟩
set_option maxRecDepth 100000 in
set_option maxHeartbeats 4000000 in
theorem lines_in (s : List UInt8) (n : Nat) (hn : 1 ≤ n) (K : Nat) (w : World) (hl : s.length ≤ 65536) (hb : Boxed w K 9 (.string ⟨s.toArray⟩)) (hb1 : Boxed w (K + 1) 9 (.string ⟨#[10]⟩)) (hb2 : Boxed w (K + 2) 3 (.int .i64 0)) :
    SeqM Fence.wide n Tryz.prog 114 #[.pointer (some ⟨K + 1, 0, none⟩), .pointer (some ⟨K, 0, none⟩), .pointer (some ⟨K + 1 + 1, 0, none⟩)] (fun x : Ln => #[lnV x]) (LinM K) (LinK K) (fun xs => xs.map (·.1) = linesL s) (fun pre => ∃ rest, linesL s = pre.map (·.1) ++ rest) (linesL s).length w := by
  intro l J Jx W hW hJ hJx hJM hJxM hY h0
  have HJM := Lib.hid hJM
  have HY := Lib.hid hY
  have hbW : Boxed W K 9 (.string ⟨s.toArray⟩) := hb.kept (gbelow hW) (by simp)
  have hbW1 : Boxed W (K + 1) 9 (.string ⟨#[10]⟩) := hb1.kept (gbelow hW) (by simp)
  have hbW2 : Boxed W (K + 2) 3 (.int .i64 0) := hb2.kept (gbelow hW) (by simp)
  have HIX := Lib.hid (fun (m : List UInt8) (X : World) => Tryz.strings_Index_one ⟨m.toArray⟩ 10 X)
  have c1 := hbW1.cell
  clear hJ hJx hJM hJxM hY hW hb hb1 hb2
  refine callsIn_of_wp Tryz.func114 rfl trivial ?_ rfl
  simp only [Tryz.ntmps114, List.size_toArray, List.length_cons, List.length_nil, Nat.reduceAdd, Nat.reduceSub, Array.replicate_succ, Array.replicate_zero, List.push_toArray, List.append_toArray, List.nil_append, List.cons_append]
  gi_wp2
  gi_loopw [7, 8] (fun _ _ wr => ∃ (m : List UInt8) (pre : List Ln), m.length ≤ 65536 ∧ Hid (linesL s = pre.map (·.1) ++ linesL m) ∧ J pre wr ∧ Boxed wr K 9 (.string ⟨m.toArray⟩) ∧ Boxed wr (K + 1) 9 (.string ⟨#[10]⟩) ∧ Boxed wr (K + 2) 3 (.int .i64 0)) (fun _ _ wr => match wr.cell? ⟨K, 0, none⟩ with | some (.string k) => k.size | _ => 0)
  case atStart => exact ⟨s, [], hl, Lib.hid rfl, h0, hbW, hbW1, hbW2⟩
  case round =>
    clear h0 hbW hbW1 hbW2 c1
    obtain ⟨m, pre, hm, HU, hJ, hB, hB1, hB2⟩ := hrel
    have c0 := hB.cell
    have c1 := hB1.cell
    have c2 := hB2.cell
    have f0 := hB.frozen
    have HBB := Lib.hid (And.intro hB (And.intro hB1 hB2))
    have IX := HIX.out m
    rcases split10 m with ⟨hno, hi, hL⟩ | ⟨a, b, hab, hi, hL⟩
    · have hlen : pre.length < (linesL s).length := by rw [HU.out, List.length_append, List.length_map, hL]; simp
      have hYQ := HY.out pre ⟨m, hm⟩ wr hJ hlen
      unfold lnV at hYQ
      have HE : Hid ((pre ++ [(⟨m, hm⟩ : Ln)]).map (·.1) = linesL s) := Lib.hid (by rw [HU.out, hL, List.map_append]; rfl)
      obtain ⟨fn, tmps, assign, body, hyy, hR⟩ := hYQ
      have HR := Lib.hid hR
      have IX : Hid (∀ X : World, Calls Tryz.prog 48 #[.string ⟨m.toArray⟩, .string ⟨#[10]⟩] X fun e w' => e = .returned (.int .i64 (-1)) ∧ w' = X) := Lib.hid (fun X => by have := IX X; rw [show Lib.indexByte (ByteArray.mk m.toArray).data.toList 10 = -1 from hi] at this; exact this)
      clear hR hB hB1 hB2 hJ hlen hno hi hL
      gi_wp2_with (refine ⟨trivial, ?_⟩; gi_at_call 48; refine (callsIn_wide.2 (IX.out _)).mono ?_; rintro e w2 ⟨rfl, rfl⟩)
      refine HR.out.mono ?_
      rintro e W3 (⟨rfl, hJ3, hk3⟩ | ⟨rfl, hJx3⟩)
      · gi_wp2
        go_end0
        exact ⟨⟨_, rfl⟩, .inl ⟨_, HE.out, hJ3⟩⟩
      · gi_wp2
        go_end0
        exact ⟨⟨_, rfl⟩, .inr ⟨_, ⟨[], by rw [HE.out, List.append_nil]⟩, hJx3⟩⟩
    · have ha : a.length ≤ 65536 := by have := congrArg List.length hab; rw [List.length_append, List.length_cons] at this; omega
      have hbl : a.length + 1 + b.length = m.length := by have := congrArg List.length hab; rw [List.length_append, List.length_cons] at this; omega
      have hlen : pre.length < (linesL s).length := by rw [HU.out, List.length_append, List.length_map, hL, List.length_cons]; omega
      have hYQ := HY.out pre ⟨a, ha⟩ wr hJ hlen
      unfold lnV at hYQ
      have HE : Hid (linesL s = (pre ++ [(⟨a, ha⟩ : Ln)]).map (·.1) ++ linesL b) := Lib.hid (by rw [HU.out, hL, List.map_append, List.append_assoc]; rfl)
      obtain ⟨fn, tmps, assign, body, hyy, hR⟩ := hYQ
      have HR := Lib.hid hR
      have IX : Hid (∀ X : World, Calls Tryz.prog 48 #[.string ⟨m.toArray⟩, .string ⟨#[10]⟩] X fun e w' => e = .returned (.int .i64 (a.length : Int)) ∧ w' = X) := Lib.hid (fun X => by have := IX X; rw [show Lib.indexByte (ByteArray.mk m.toArray).data.toList 10 = (a.length : Int) from hi] at this; exact this)
      have hx1 : (ByteArray.mk m.toArray).extract 0 a.length = ⟨a.toArray⟩ := by rw [extract_take]; congr 1; rw [show (ByteArray.mk m.toArray).data.toList = m from rfl, hab, List.take_left]
      have hx2 : (ByteArray.mk m.toArray).extract (a.length + 1) (ByteArray.mk m.toArray).size = ⟨b.toArray⟩ := ba_of (by rw [extract_drop, show (ByteArray.mk m.toArray).data.toList = m from rfl, hab, ← List.drop_drop, List.drop_left]; rfl)
      have hsz : (ByteArray.mk m.toArray).size = m.length := Lib.size_mk m
      have HBL := Lib.hid (And.intro hbl (And.intro ha hm))
      have HX := Lib.hid (And.intro hx1 (And.intro hx2 hsz))
      clear hR hB hB1 hB2 hJ hlen hi hL hab hx1 hx2 hsz
      obtain ⟨M, hM⟩ : ∃ M : ByteArray, M = ⟨m.toArray⟩ := ⟨_, rfl⟩
      obtain ⟨q, hq⟩ : ∃ q : Nat, q = a.length := ⟨_, rfl⟩
      rw [← hM, ← hq] at HX
      rw [← hM] at HBB c0
      rw [← hM, ← hq] at IX
      rw [← HX.out.1] at hyy
      have HQ := Lib.hid (And.intro hq hM)
      have hq0 : ¬ ((q : Int) < 0) := by omega
      have hq2 : q + 1 ≤ M.size := by rw [HX.out.2.2, hq]; omega
      have hq1 : q ≤ M.size := by omega
      have hqb : q ≤ 65536 := by omega
      have hw0 : wrap64 (q : Int) = (q : Int) := by unfold wrap64; omega
      have hw1 : wrap64 ((q : Int) + 1) = (q : Int) + 1 := by unfold wrap64; omega
      clear hM hq hbl hm
      gi_wp2_with (refine ⟨trivial, ?_⟩; gi_at_call 48; refine (callsIn_wide.2 (IX.out _)).mono ?_; rintro e w2 ⟨rfl, rfl⟩)
      refine HR.out.mono ?_
      rintro e W3 (⟨rfl, hJ3, hk3⟩ | ⟨rfl, hJx3⟩)
      · have hB3 : Boxed W3 K 9 (.string M) := hk3.1.trans HBB.out.1
        have hB4 : Boxed W3 (K + 1) 9 (.string ⟨#[10]⟩) := hk3.2.1.trans HBB.out.2.1
        have hB5 : Boxed W3 (K + 2) 3 (.int .i64 0) := hk3.2.2.trans HBB.out.2.2
        have c3 := hB3.cell
        have c4 := hB4.cell
        have f3 := hB3.frozen
        have HJ3 := Lib.hid (HJM.out _ _ _ hJ3 ⟨_, .string (M.extract (q + 1) M.size), hB3, rfl⟩)
        have HB3 := Lib.hid (And.intro (hB3.set (.string (M.extract (q + 1) M.size))) (And.intro (hB4.other (B' := K) (by omega) (.string (M.extract (q + 1) M.size))) (hB5.other (B' := K) (by omega) (.string (M.extract (q + 1) M.size)))))
        have HC3 := Lib.hid HB3.out.1.cell
        have HC0 := Lib.hid c0
        clear hB3 hB4 hB5 hJ3 hk3
        gi_wp2

        go_roundw
        case rel => exact ⟨b, _, by have := HBL.out; omega, HE, HJ3.out, by rw [← HX.out.2.1]; exact HB3.out.1, HB3.out.2.1, HB3.out.2.2⟩
        case measure =>
          rw [HC3.out, HC0.out]
          show (M.extract (q + 1) M.size).size < M.size
          rw [HX.out.2.1, HX.out.2.2, Lib.size_mk]
          have := HBL.out
          omega
      · gi_wp2
        refine bodyPost_ret (results_none rfl _ _ _) rfl ?_
        exact ⟨⟨_, rfl⟩, .inr ⟨_, ⟨_, HE.out⟩, hJx3⟩⟩
end Go.Proofs.YtojodekmmkemgaaGreatDoor
