/- The program's iterator over the steps that words say: its own walk. Conditions: the words are short; the program's own variables lie as its start lays them. -/
import Derived.Test.YtgeljnjcpkmlmaaGreatDoorDfSeq
import Derived.Sort.CutIn
namespace Go.Proofs.YtgeljnjcpkmlmaaGreatDoor
open Go.RowKit Go.Shelf
attribute [local go_sem] Oper.semAt_some

set_option maxRecDepth 100000 in
set_option maxHeartbeats 8000000 in
theorem steps1_in (n : Nat) (hn : 1 ≤ n) (Bx : Nat) (A : Option Addr) (m c : Nat) (ws : List ByteArray) (w : World) (hE : DfE w) (hb : Boxed w Bx 27 (.slice A m c)) (hs : SlW w A ws) (hm : ws.length = m) (hmb : m ≤ 1000000) (hz : ∀ x ∈ ws, x.size ≤ 1000000) :
    SeqM Fence.wide n Tryz.prog 96 #[.pointer (some ⟨Bx, 0, none⟩)] (fun p : Sp => #[stV p]) MvB (KpB w.heap.size) (fun xs => xs.length = m ∧ StepsK ws xs) (fun _ => True) m w := by
  intro l J Jx W hW hJ hJx hJM hJxM hY h0
  have HJM := Lib.hid hJM
  have HY := Lib.hid hY
  have HE := Lib.hid hE
  have HS := Lib.hid hs
  have HZ := Lib.hid hz
  have HM := Lib.hid hm
  have HBX := Lib.hid hb
  have HW := Lib.hid hW
  have c0 := (hb.kept (gbelow hW) (by simp)).cell
  clear hJ hJx hJM hJxM hY hE hs hz hm hb hW
  refine callsIn_of_wp Tryz.func96 rfl trivial ?_ rfl
  simp only [Tryz.ntmps96, List.size_toArray, List.length_cons, List.length_nil, Nat.reduceAdd, Nat.reduceSub, Array.replicate_succ, Array.replicate_zero, List.push_toArray, List.append_toArray, List.nil_append, List.cons_append]
  gi_wp2
  gi_loopw [11] (fun i wr => ∃ (k : Nat) (pre : List Sp), k ≤ m ∧ i = .int .i64 k ∧ Hid (pre.length = k ∧ StepsK ws pre ∧ J pre wr ∧ Below w.heap.size w wr)) (fun i _ => m - (intOf i).toNat)
  case atStart => exact ⟨0, [], by omega, rfl, Lib.hid ⟨rfl, fun i x p _ hp => by simp at hp, h0, HW.out⟩⟩
  case round =>
    clear h0
    obtain ⟨k, pre, hk, rfl, HI⟩ := hrel
    by_cases hkm : k < m
    · obtain ⟨x, hx⟩ : ∃ x, ws[k]? = some x := ⟨_, List.getElem?_eq_getElem (by rw [HM.out]; exact hkm)⟩
      obtain ⟨g, o, rfl, y0⟩ := (HS.out.keep HI.out.2.2.2) k x hx
      have hxs := HZ.out x (List.mem_of_getElem? hx)
      have HX := Lib.hid hx
      have HXS := Lib.hid hxs
      have hk0 : (0 : Int) ≤ (k : Int) := by omega
      have hkm' : (k : Int) < (m : Int) := by omega
      have hwk : IntKind.i64.wrap ((k : Int) + 1) = (k : Int) + 1 := IntWalk.i64_in _ (by omega)
      have BA := Lib.hid ((Below.refl _ wr).alloc (Nat.le_refl _) (.cells #[.string ⟨#[]⟩, .int .i64 0] 37))
      have NA := Lib.hid (Whole.new wr 37 #[.string ⟨#[]⟩, .int .i64 0])
      have IX := Lib.hid (idx2_any x (wr.alloc (.cells #[.string ⟨#[]⟩, .int .i64 0] 37)) hxs)
      have PX := Lib.hid (fun (q : Nat) (W : World) (hE : DfE W) => parse2_any (x.extract q x.size) W (by have := Lib.size_eq (x.extract q x.size); rw [extract_drop] at this; rw [this, List.length_drop, ← Lib.size_eq]; omega) hE)
      have HKM := Lib.hid hkm
      have HL := Lib.hid (show wr.heap.size < (wr.alloc (.cells #[.string ⟨#[]⟩, .int .i64 0] 37)).heap.size by simp)
      clear hx hkm
      gi_upto_region 9 with (first
        | (refine ⟨trivial, ?_⟩; gi_at_call 97; refine (callsIn_wide.2 IX.out).mono ?_; rintro e w2 ⟨(⟨q, rfl, hq1, hq2⟩ | ⟨rfl, hq2⟩), hb2⟩; all_goals (have hB2 := Lib.hid (BA.out.trans (hb2.mono (Nat.le_of_lt HL.out))); have hE2 := Lib.hid (HE.out.keep (HI.out.2.2.2.trans (hB2.out.mono HI.out.2.2.2.size))); have hN2 := Lib.hid (NA.out.keep hb2); have hQ2 := Lib.hid hq2; clear hq2 hb2))
        | (refine ⟨trivial, ?_⟩; gi_at_call 98; refine (callsIn_wide.2 (PX.out q w2 hE2.out)).mono ?_; rintro e w3 ⟨(⟨v, rfl, hp⟩ | ⟨v, N, rfl, hp⟩), hb3⟩; all_goals (have hN3 := hN2.out.keep hb3; have z0 := hN3.cell 0; have z1 := hN3.cell 1; have f0 := hN3.fr 0; have f1 := hN3.fr 1; simp only [List.getElem?_toArray, List.getElem?_cons_succ, List.getElem?_cons_zero] at z0 z1; have hN3 := Lib.hid hN3; have hP3 := Lib.hid hp; have hB3 := Lib.hid (hB2.out.trans (hb3.mono hB2.out.size)); clear hp hb3)))
      · have BF : Hid (Below wr.heap.size wr ((w3.setCell ⟨wr.heap.size, 0, none⟩ (.string (x.extract 0 q))).setCell ⟨wr.heap.size, 1, none⟩ (.int .i64 v))) := Lib.hid ((hB3.out.setCell (p := ⟨wr.heap.size, 0, none⟩) (Nat.le_refl _) _).setCell (p := ⟨wr.heap.size, 1, none⟩) (Nat.le_refl _) _)
        have NF := (hN3.out.put 0 (.string (x.extract 0 q))).put 1 (.int .i64 v)
        generalize (w3.setCell ⟨wr.heap.size, 0, none⟩ (.string (x.extract 0 q))).setCell ⟨wr.heap.size, 1, none⟩ (.int .i64 v) = wf at BF NF ⊢
        clear z0 z1 f0 f1
        have z0 := NF.cell 0
        have z1 := NF.cell 1
        simp only [List.getElem?_toArray, List.getElem?_cons_succ, List.getElem?_cons_zero, List.setIfInBounds_toArray, List.set_cons_zero, List.set_cons_succ] at z0 z1
        clear NF
        have HJF := HJM.out _ _ _ HI.out.2.2.1 BF.out
        have hlen : pre.length < m := by rw [HI.out.1]; exact HKM.out
        have hY := HY.out pre ⟨x.extract 0 q, v⟩ wf HJF hlen
        unfold stV at hY
        dsimp only at hY
        obtain ⟨fn, tmps, assign, body, hyy, hR⟩ := hY
        have HR := Lib.hid hR
        have HST : Hid (StepRel x.data.toList ⟨x.extract 0 q, v⟩ ∧ SpZ ⟨x.extract 0 q, v⟩) := Lib.hid (rel_ok HXS.out hQ2.out hP3.out)
        clear hR HJF hlen
        gi_wp2
        refine HR.out.mono ?_
        rintro e W3 (⟨rfl, hJ3, hk3⟩ | ⟨rfl, hJx3⟩)
        · have HF : Hid ((pre ++ [(⟨x.extract 0 q, v⟩ : Sp)]).length = k + 1 ∧ StepsK ws (pre ++ [(⟨x.extract 0 q, v⟩ : Sp)]) ∧ J (pre ++ [(⟨x.extract 0 q, v⟩ : Sp)]) W3 ∧ Below w.heap.size w W3) := Lib.hid ⟨by rw [List.length_append, HI.out.1]; rfl, HI.out.2.1.snoc (by rw [HI.out.1]; exact HX.out) HST.out, hJ3, (HI.out.2.2.2.trans (BF.out.mono HI.out.2.2.2.size)).trans hk3⟩
          clear hJ3 hk3
          gi_wp2
          go_roundw
          case rel => exact ⟨k + 1, _, by have := HKM.out; omega, by go_num, HF⟩
          case measure => have := HKM.out; simp [intOf]; omega
        · gi_wp2
          refine bodyPost_ret (results_none rfl _ _ _) rfl ?_
          exact ⟨⟨_, rfl⟩, .inr ⟨_, trivial, hJx3⟩⟩
      · have BF := Lib.hid hB3.out
        have HJF := HJM.out _ _ _ HI.out.2.2.1 BF.out
        have hlen : pre.length < m := by rw [HI.out.1]; exact HKM.out
        have hY := HY.out pre ⟨⟨#[]⟩, 0⟩ w3 HJF hlen
        unfold stV at hY
        dsimp only at hY
        obtain ⟨fn, tmps, assign, body, hyy, hR⟩ := hY
        have HR := Lib.hid hR
        have HST : Hid (StepRel x.data.toList ⟨⟨#[]⟩, 0⟩ ∧ SpZ ⟨⟨#[]⟩, 0⟩) := Lib.hid (rel_bad hQ2.out hP3.out)
        clear hR HJF hlen
        gi_wp2
        refine HR.out.mono ?_
        rintro e W3 (⟨rfl, hJ3, hk3⟩ | ⟨rfl, hJx3⟩)
        · have HF : Hid ((pre ++ [(⟨⟨#[]⟩, 0⟩ : Sp)]).length = k + 1 ∧ StepsK ws (pre ++ [(⟨⟨#[]⟩, 0⟩ : Sp)]) ∧ J (pre ++ [(⟨⟨#[]⟩, 0⟩ : Sp)]) W3 ∧ Below w.heap.size w W3) := Lib.hid ⟨by rw [List.length_append, HI.out.1]; rfl, HI.out.2.1.snoc (by rw [HI.out.1]; exact HX.out) HST.out, hJ3, (HI.out.2.2.2.trans (BF.out.mono HI.out.2.2.2.size)).trans hk3⟩
          clear hJ3 hk3
          gi_wp2
          go_roundw
          case rel => exact ⟨k + 1, _, by have := HKM.out; omega, by go_num, HF⟩
          case measure => have := HKM.out; simp [intOf]; omega
        · gi_wp2
          refine bodyPost_ret (results_none rfl _ _ _) rfl ?_
          exact ⟨⟨_, rfl⟩, .inr ⟨_, trivial, hJx3⟩⟩
      · have BF := Lib.hid hB2.out
        have z0 := hN2.out.cell 0
        have z1 := hN2.out.cell 1
        simp only [List.getElem?_toArray, List.getElem?_cons_succ, List.getElem?_cons_zero] at z0 z1
        have HJF := HJM.out _ _ _ HI.out.2.2.1 BF.out
        have hlen : pre.length < m := by rw [HI.out.1]; exact HKM.out
        have hY := HY.out pre ⟨⟨#[]⟩, 0⟩ w2 HJF hlen
        unfold stV at hY
        dsimp only at hY
        obtain ⟨fn, tmps, assign, body, hyy, hR⟩ := hY
        have HR := Lib.hid hR
        have HST : Hid (StepRel x.data.toList ⟨⟨#[]⟩, 0⟩ ∧ SpZ ⟨⟨#[]⟩, 0⟩) := Lib.hid (rel_none hQ2.out)
        clear hR HJF hlen
        gi_wp2
        refine HR.out.mono ?_
        rintro e W3 (⟨rfl, hJ3, hk3⟩ | ⟨rfl, hJx3⟩)
        · have HF : Hid ((pre ++ [(⟨⟨#[]⟩, 0⟩ : Sp)]).length = k + 1 ∧ StepsK ws (pre ++ [(⟨⟨#[]⟩, 0⟩ : Sp)]) ∧ J (pre ++ [(⟨⟨#[]⟩, 0⟩ : Sp)]) W3 ∧ Below w.heap.size w W3) := Lib.hid ⟨by rw [List.length_append, HI.out.1]; rfl, HI.out.2.1.snoc (by rw [HI.out.1]; exact HX.out) HST.out, hJ3, (HI.out.2.2.2.trans (BF.out.mono HI.out.2.2.2.size)).trans hk3⟩
          clear hJ3 hk3
          gi_wp2
          go_roundw
          case rel => exact ⟨k + 1, _, by have := HKM.out; omega, by go_num, HF⟩
          case measure => have := HKM.out; simp [intOf]; omega
        · gi_wp2
          refine bodyPost_ret (results_none rfl _ _ _) rfl ?_
          exact ⟨⟨_, rfl⟩, .inr ⟨_, trivial, hJx3⟩⟩
    · obtain rfl : k = m := by omega
      gi_wp2
      go_end0
      exact ⟨⟨_, rfl⟩, .inl ⟨_, ⟨HI.out.1, HI.out.2.1⟩, HI.out.2.2.1⟩⟩
end Go.Proofs.YtgeljnjcpkmlmaaGreatDoor
