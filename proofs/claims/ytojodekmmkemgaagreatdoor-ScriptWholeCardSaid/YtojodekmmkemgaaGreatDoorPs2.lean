/- Merged by program: DfSeq2, SeqA, DfCol, DfPar, DfPrs. -/
import Derived.Test.YtojodekmmkemgaaGreatDoorPsS
import Derived.Sort.CutIn
import Derived.Test.YtojodekmmkemgaaGreatDoorSeqM
import Derived.Maps.OwnIn
import Derived.Test.YtojodekmmkemgaaGreatDoorGnS
import Derived.Deep.DeepFit
namespace Go.Proofs.YtojodekmmkemgaaGreatDoor
section
open Go.RowKit Go.Shelf
attribute [local go_sem] Oper.semAt_some

set_option maxRecDepth 100000 in
set_option maxHeartbeats 8000000 in
theorem steps1_in (n : Nat) (hn : 1 ≤ n) (Bx : Nat) (A : Option Addr) (m c : Nat) (ws : List ByteArray) (w : World) (hE : DfE w) (hb : Boxed w Bx 43 (.slice A m c)) (hs : SlW w A ws) (hm : ws.length = m) (hmb : m ≤ 1000000) (hz : ∀ x ∈ ws, x.size ≤ 1000000) :
    SeqM Fence.wide n Tryz.prog 157 #[.pointer (some ⟨Bx, 0, none⟩)] (fun p : Sp => #[stV p]) MvB (KpB w.heap.size) (fun xs => xs.length = m ∧ StepsK ws xs) (fun _ => True) m w := by
  intro l J Jx W hW hJ hJx hJM hJxM hY h0
  have HJM := Lib.hid hJM
  have HY := Lib.hid hY
  have HE := Lib.hid hE
  have HS := Lib.hid hs
  have HZ := Lib.hid hz
  have HM := Lib.hid hm
  have HBX := Lib.hid hb
  have HW := Lib.hid hW
  have c0 := (hb.kept (gbelow hW) (by simp)).cell
  clear hJ hJx hJM hJxM hY hE hs hz hm hb hW
  refine callsIn_of_wp Tryz.func157 rfl trivial ?_ rfl
  simp only [Tryz.ntmps157, List.size_toArray, List.length_cons, List.length_nil, Nat.reduceAdd, Nat.reduceSub, Array.replicate_succ, Array.replicate_zero, List.push_toArray, List.append_toArray, List.nil_append, List.cons_append]
  gi_wp2
  gi_loopw [11] (fun i wr => ∃ (k : Nat) (pre : List Sp), k ≤ m ∧ i = .int .i64 k ∧ Hid (pre.length = k ∧ StepsK ws pre ∧ J pre wr ∧ Below w.heap.size w wr)) (fun i _ => m - (intOf i).toNat)
  case atStart => exact ⟨0, [], by omega, rfl, Lib.hid ⟨rfl, fun i x p _ hp => by simp at hp, h0, HW.out⟩⟩
  case round =>
    clear h0
    obtain ⟨k, pre, hk, rfl, HI⟩ := hrel
    by_cases hkm : k < m
    · obtain ⟨x, hx⟩ : ∃ x, ws[k]? = some x := ⟨_, List.getElem?_eq_getElem (by rw [HM.out]; exact hkm)⟩
      obtain ⟨g, o, rfl, y0⟩ := (HS.out.keep HI.out.2.2.2) k x hx
      have hxs := HZ.out x (List.mem_of_getElem? hx)
      have HX := Lib.hid hx
      have HXS := Lib.hid hxs
      have hk0 : (0 : Int) ≤ (k : Int) := by omega
      have hkm' : (k : Int) < (m : Int) := by omega
      have hwk : IntKind.i64.wrap ((k : Int) + 1) = (k : Int) + 1 := IntWalk.i64_in _ (by omega)
      have BA := Lib.hid ((Below.refl _ wr).alloc (Nat.le_refl _) (.cells #[.string ⟨#[]⟩, .int .i64 0] 71))
      have NA := Lib.hid (Whole.new wr 71 #[.string ⟨#[]⟩, .int .i64 0])
      have IX := Lib.hid (idx2_any x (wr.alloc (.cells #[.string ⟨#[]⟩, .int .i64 0] 71)) hxs)
      have PX := Lib.hid (fun (q : Nat) (W : World) (hE : DfE W) => parse2_any (x.extract q x.size) W (by have := Lib.size_eq (x.extract q x.size); rw [extract_drop] at this; rw [this, List.length_drop, ← Lib.size_eq]; omega) hE)
      have HKM := Lib.hid hkm
      have HL := Lib.hid (show wr.heap.size < (wr.alloc (.cells #[.string ⟨#[]⟩, .int .i64 0] 71)).heap.size by simp)
      clear hx hkm
      gi_upto_region 9 with (first
        | (refine ⟨trivial, ?_⟩; gi_at_call 158; refine (callsIn_wide.2 IX.out).mono ?_; rintro e w2 ⟨(⟨q, rfl, hq1, hq2⟩ | ⟨rfl, hq2⟩), hb2⟩; all_goals (have hB2 := Lib.hid (BA.out.trans (hb2.mono (Nat.le_of_lt HL.out))); have hE2 := Lib.hid (HE.out.keep (HI.out.2.2.2.trans (hB2.out.mono HI.out.2.2.2.size))); have hN2 := Lib.hid (NA.out.keep hb2); have hQ2 := Lib.hid hq2; clear hq2 hb2))
        | (refine ⟨trivial, ?_⟩; gi_at_call 159; refine (callsIn_wide.2 (PX.out q w2 hE2.out)).mono ?_; rintro e w3 ⟨(⟨v, rfl, hp⟩ | ⟨v, N, rfl, hp⟩), hb3⟩; all_goals (have hN3 := hN2.out.keep hb3; have z0 := hN3.cell 0; have z1 := hN3.cell 1; have f0 := hN3.fr 0; have f1 := hN3.fr 1; simp only [List.getElem?_toArray, List.getElem?_cons_succ, List.getElem?_cons_zero] at z0 z1; have hN3 := Lib.hid hN3; have hP3 := Lib.hid hp; have hB3 := Lib.hid (hB2.out.trans (hb3.mono hB2.out.size)); clear hp hb3)))
      · have BF : Hid (Below wr.heap.size wr ((w3.setCell ⟨wr.heap.size, 0, none⟩ (.string (x.extract 0 q))).setCell ⟨wr.heap.size, 1, none⟩ (.int .i64 v))) := Lib.hid ((hB3.out.setCell (p := ⟨wr.heap.size, 0, none⟩) (Nat.le_refl _) _).setCell (p := ⟨wr.heap.size, 1, none⟩) (Nat.le_refl _) _)
        have NF := (hN3.out.put 0 (.string (x.extract 0 q))).put 1 (.int .i64 v)
        generalize (w3.setCell ⟨wr.heap.size, 0, none⟩ (.string (x.extract 0 q))).setCell ⟨wr.heap.size, 1, none⟩ (.int .i64 v) = wf at BF NF ⊢
        clear z0 z1 f0 f1
        have z0 := NF.cell 0
        have z1 := NF.cell 1
        simp only [List.getElem?_toArray, List.getElem?_cons_succ, List.getElem?_cons_zero, List.setIfInBounds_toArray, List.set_cons_zero, List.set_cons_succ] at z0 z1
        clear NF
        have HJF := HJM.out _ _ _ HI.out.2.2.1 BF.out
        have hlen : pre.length < m := by rw [HI.out.1]; exact HKM.out
        have hY := HY.out pre ⟨x.extract 0 q, v⟩ wf HJF hlen
        unfold stV at hY
        dsimp only at hY
        obtain ⟨fn, tmps, assign, body, hyy, hR⟩ := hY
        have HR := Lib.hid hR
        have HST : Hid (StepRel x.data.toList ⟨x.extract 0 q, v⟩ ∧ SpZ ⟨x.extract 0 q, v⟩) := Lib.hid (rel_ok HXS.out hQ2.out hP3.out)
        clear hR HJF hlen
        gi_wp2
        refine HR.out.mono ?_
        rintro e W3 (⟨rfl, hJ3, hk3⟩ | ⟨rfl, hJx3⟩)
        · have HF : Hid ((pre ++ [(⟨x.extract 0 q, v⟩ : Sp)]).length = k + 1 ∧ StepsK ws (pre ++ [(⟨x.extract 0 q, v⟩ : Sp)]) ∧ J (pre ++ [(⟨x.extract 0 q, v⟩ : Sp)]) W3 ∧ Below w.heap.size w W3) := Lib.hid ⟨by rw [List.length_append, HI.out.1]; rfl, HI.out.2.1.snoc (by rw [HI.out.1]; exact HX.out) HST.out, hJ3, (HI.out.2.2.2.trans (BF.out.mono HI.out.2.2.2.size)).trans hk3⟩
          clear hJ3 hk3
          gi_wp2
          go_roundw
          case rel => exact ⟨k + 1, _, by have := HKM.out; omega, by go_num, HF⟩
          case measure => have := HKM.out; simp [intOf]; omega
        · gi_wp2
          refine bodyPost_ret (results_none rfl _ _ _) rfl ?_
          exact ⟨⟨_, rfl⟩, .inr ⟨_, trivial, hJx3⟩⟩
      · have BF := Lib.hid hB3.out
        have HJF := HJM.out _ _ _ HI.out.2.2.1 BF.out
        have hlen : pre.length < m := by rw [HI.out.1]; exact HKM.out
        have hY := HY.out pre ⟨⟨#[]⟩, 0⟩ w3 HJF hlen
        unfold stV at hY
        dsimp only at hY
        obtain ⟨fn, tmps, assign, body, hyy, hR⟩ := hY
        have HR := Lib.hid hR
        have HST : Hid (StepRel x.data.toList ⟨⟨#[]⟩, 0⟩ ∧ SpZ ⟨⟨#[]⟩, 0⟩) := Lib.hid (rel_bad hQ2.out hP3.out)
        clear hR HJF hlen
        gi_wp2
        refine HR.out.mono ?_
        rintro e W3 (⟨rfl, hJ3, hk3⟩ | ⟨rfl, hJx3⟩)
        · have HF : Hid ((pre ++ [(⟨⟨#[]⟩, 0⟩ : Sp)]).length = k + 1 ∧ StepsK ws (pre ++ [(⟨⟨#[]⟩, 0⟩ : Sp)]) ∧ J (pre ++ [(⟨⟨#[]⟩, 0⟩ : Sp)]) W3 ∧ Below w.heap.size w W3) := Lib.hid ⟨by rw [List.length_append, HI.out.1]; rfl, HI.out.2.1.snoc (by rw [HI.out.1]; exact HX.out) HST.out, hJ3, (HI.out.2.2.2.trans (BF.out.mono HI.out.2.2.2.size)).trans hk3⟩
          clear hJ3 hk3
          gi_wp2
          go_roundw
          case rel => exact ⟨k + 1, _, by have := HKM.out; omega, by go_num, HF⟩
          case measure => have := HKM.out; simp [intOf]; omega
        · gi_wp2
          refine bodyPost_ret (results_none rfl _ _ _) rfl ?_
          exact ⟨⟨_, rfl⟩, .inr ⟨_, trivial, hJx3⟩⟩
      · have BF := Lib.hid hB2.out
        have z0 := hN2.out.cell 0
        have z1 := hN2.out.cell 1
        simp only [List.getElem?_toArray, List.getElem?_cons_succ, List.getElem?_cons_zero] at z0 z1
        have HJF := HJM.out _ _ _ HI.out.2.2.1 BF.out
        have hlen : pre.length < m := by rw [HI.out.1]; exact HKM.out
        have hY := HY.out pre ⟨⟨#[]⟩, 0⟩ w2 HJF hlen
        unfold stV at hY
        dsimp only at hY
        obtain ⟨fn, tmps, assign, body, hyy, hR⟩ := hY
        have HR := Lib.hid hR
        have HST : Hid (StepRel x.data.toList ⟨⟨#[]⟩, 0⟩ ∧ SpZ ⟨⟨#[]⟩, 0⟩) := Lib.hid (rel_none hQ2.out)
        clear hR HJF hlen
        gi_wp2
        refine HR.out.mono ?_
        rintro e W3 (⟨rfl, hJ3, hk3⟩ | ⟨rfl, hJx3⟩)
        · have HF : Hid ((pre ++ [(⟨⟨#[]⟩, 0⟩ : Sp)]).length = k + 1 ∧ StepsK ws (pre ++ [(⟨⟨#[]⟩, 0⟩ : Sp)]) ∧ J (pre ++ [(⟨⟨#[]⟩, 0⟩ : Sp)]) W3 ∧ Below w.heap.size w W3) := Lib.hid ⟨by rw [List.length_append, HI.out.1]; rfl, HI.out.2.1.snoc (by rw [HI.out.1]; exact HX.out) HST.out, hJ3, (HI.out.2.2.2.trans (BF.out.mono HI.out.2.2.2.size)).trans hk3⟩
          clear hJ3 hk3
          gi_wp2
          go_roundw
          case rel => exact ⟨k + 1, _, by have := HKM.out; omega, by go_num, HF⟩
          case measure => have := HKM.out; simp [intOf]; omega
        · gi_wp2
          refine bodyPost_ret (results_none rfl _ _ _) rfl ?_
          exact ⟨⟨_, rfl⟩, .inr ⟨_, trivial, hJx3⟩⟩
    · obtain rfl : k = m := by omega
      gi_wp2
      go_end0
      exact ⟨⟨_, rfl⟩, .inl ⟨_, ⟨HI.out.1, HI.out.2.1⟩, HI.out.2.2.1⟩⟩
end
section
open Go.RowKit

theorem rangeA {α : Type} {F : Fence} {n : Nat} {P : Program} {g : Operand} {ps : Array Tmp} {assign body : Code} {Q : Exit → Act → World → Prop} {a : Act} {w : World}
    (hro : F.round = none) (h1 : 1 ≤ n) {gf : Nat} {lb : Array Value} (hg : a.eval g = .func (.func gf) #[] lb) (hFg : F.fn gf) (eg : ∀ args w, (callFunc gf args).run P w = .ok (.enter gf args) w)
    {encs : α → Array Value} {Mv Kp : World → World → Prop} {S Sp : List α → Prop} {N : Nat} {w0 : World} (hseq : SeqM F (n - 1) P gf lb encs Mv Kp S Sp N w0)
    (hMv : ∀ (A B : World) (i : Nat) (o : Obj), Mv A B → A.heap[i]? = some o → o.isCells = false → B.heap[i]? = some o)
    (hKt : ∀ {A B C : World}, Kp A B → Kp B C → Kp A C) (hKb : ∀ (W : World) (l : Nat) (o o' : Obj), w.heap.size ≤ l → W.heap[l]? = some o → o.isCells = false → o.isWalk = false → Kp W (W.putObj l o')) (hb0 : Below w0.heap.size w0 w) (hps : ∀ x, (encs x).size = ps.size)
    (I : List α → World → Prop) (Ix : Code → List α → World → Prop) (hI : OwnFrom w.heap.size I) (hIx : ∀ c, OwnFrom w.heap.size (Ix c)) (hIM : ∀ s A B, I s A → Mv A B → I s B) (hIxM : ∀ c s A B, Ix c s A → Mv A B → Ix c s B) (h0 : I [] w) (V : α → Act → World → Prop) (hV : ∀ x a2, OwnFrom w.heap.size (fun (_ : Unit) W => V x a2 W)) (hKa : ∀ A B : World, w.heap.size ≤ A.heap.size → A.grownBy B none → Kp A B)
    (hassign : ∀ (l : Nat) (pre : List α) (x : α) (W : World) (K : Act → World → Prop), I pre W → w.heap.size ≤ W.heap.size → (∀ a2 W2, W.grownBy W2 none → V x a2 W2 → K a2 W2) →
      assign.wpIn (F.inRound l) (n - 1 - 1) P (Exit.then K (fun _ _ _ => False)) { tmps := (ps.zip (encs x)).foldl (fun t (p, v) => t.setIfInBounds p v) a.tmps, defers := [] } W)
    (hbody : ∀ (l : Nat) (pre : List α) (x : α) (a2 : Act) (W : World), I pre W → V x a2 W → pre.length < N → body.wpIn (F.inRound l) (n - 1 - 1) P (ownPostK Kp I Ix (pre ++ [x]) W) a2 W)
    (hdone : ∀ (D : Nat) (xs : List α) (W : World), w.heap.size ≤ D → S xs → I xs W → W.heap[D]? = some (.deferred (some [])) → Q .normal { a with defers := { target := .collected D, args := #[] } :: a.defers } W)
    (hstop : ∀ (D : Nat) (c : Code) (pre : List α) (W : World), w.heap.size ≤ D → Sp pre → Ix c pre W → W.heap[D]? = some (.deferred (some [])) → c.wpIn F n P Q { a with defers := { target := .collected D, args := #[] } :: a.defers } W) :
    (Code.rangeFunc g ps assign body).wpIn F n P Q a w := by
  refine wpIn_rangeFunc (fun fn hfn => ?_)
  rw [hro]
  generalize hD : w.heap.size = D at *
  obtain ⟨rec, hrec⟩ : ∃ rec : LoopState → Option Code → Loop, rec = fun st pe => { state := st, pending := pe, fn, tmps := a.tmps, params := ps, assign, body, defers := D } := ⟨_, rfl⟩
  obtain ⟨W1, hW1⟩ : ∃ W1, (w.alloc (.deferred (some []))).alloc (.loop (rec .ready none)) = W1 := ⟨_, rfl⟩
  have hs1 : D + 2 = W1.heap.size := by rw [← hW1]; simp [hD]
  have bk1 : LoopBk D (rec .ready none) W1 := by
    have e := World.alloc_heap_new (w.alloc (.deferred (some []))) (.loop (rec .ready none))
    rw [World.size_alloc, hD] at e
    have e2 := World.alloc_heap_new w (.deferred (some []))
    rw [hD] at e2
    rw [← hW1]
    exact ⟨e, (Below.heap_alloc _ _ _ (by rw [World.size_alloc, hD]; omega)).trans e2⟩
  have hb1 : Below w0.heap.size w0 W1 := by
    rw [← hW1]
    exact hb0.trans ((((Below.refl _ w).alloc (Nat.le_refl _) _).alloc (by simp) _).mono hb0.size)
  refine ⟨D + 1, [{ target := .collected D, args := #[] }], W1, { target := .fn (.func gf) lb, args := #[.func (.yield (D + 1)) #[] #[]] }, W1, gf, #[.func (.yield (D + 1)) #[] #[]] ++ lb, W1, ?_, ?_, ?_, ?_, fun _ => h1, ?_⟩
  · rw [← hW1, hrec, ← hD]; exact run_enterLoop_outer _ _ _ _ _
  · simp only [resolve, hg]; simp [go_sem]
  · intro f' hf'; simp [Target.leads] at hf'; subst hf'; exact hFg
  · simp [invoke, go_sem, eg]
  have wk : ∀ {A : World} {row : Option Nat}, (∀ r, row = some r → W1.heap.size ≤ r ∧ ∃ o : Obj, A.heap[r]? = some o ∧ o.isWalk = true) → ∀ r, row = some r → D ≤ r ∧ ∃ o : Obj, A.heap[r]? = some o ∧ o.isCells = false := fun hr r e => by
    obtain ⟨hB, o, ho, hw⟩ := hr r e
    exact ⟨by omega, o, ho, Obj.not_cells_of_walk hw⟩
  have mvb : ∀ {r : Loop} {A B : World}, LoopBk D r A → Mv A B → LoopBk D r B := fun h hm => ⟨hMv _ _ _ _ hm h.1 rfl, hMv _ _ _ _ hm h.2 rfl⟩
  refine (hseq (D + 1) (fun pre W => I pre W ∧ LoopBk D (rec .ready none) W) (fun pre W => ∃ c, Ix c pre W ∧ LoopBk D (rec .done (some c)) W) W1 hb1
    (fun s A B row hs hg' hr => ⟨hI s A B row hs.1 hg' (wk hr), hs.2.grown hg' hr⟩) (fun s A B row ⟨c, hc, hk⟩ hg' hr => ⟨c, hIx c s A B row hc hg' (wk hr), hk.grown hg' hr⟩)
    (fun s A B hs hm => ⟨hIM s A B hs.1 hm, mvb hs.2 hm⟩) (fun s A B ⟨c, hc, hk⟩ hm => ⟨c, hIxM c s A B hc hm, mvb hk hm⟩) ?_ ⟨by rw [← hW1]; exact hI.alloc _ (hI.alloc _ h0), bk1⟩).mono ?_
  · rintro pre x W ⟨hi, bk⟩ hlen
    have hy := run_yield (P := P) (args := encs x) bk.1 (by rw [hrec]; exact hps x)
    rw [hrec] at hy
    have hsz : D ≤ W.heap.size := by have := (Array.getElem?_eq_some_iff.1 bk.1).1; omega
    refine ⟨fn, _, assign, body, hy, roundIn_of_wpIn hfn (hassign _ pre x W _ hi hsz (fun a2 W2 hg2 hv2 => ⟨_, run_beginRound (bk.grown (B := D) hg2 (fun k e => by cases e)).1 (by rw [hrec]), ?_⟩))⟩
    have bk' := bk.grown (B := D) hg2 (fun k e => by cases e)
    have bk2 := bk'.put { rec .ready none with state := .busy }
    have k2 : Kp W2 (W2.putObj (D + 1) (.loop { rec .ready none with state := .busy })) := hKb _ _ _ _ (by omega) bk'.1 rfl rfl
    have hi2 : I pre W2 := hI _ _ _ _ hi hg2 (fun k e => by cases e)
    refine wpIn_mono (hbody _ pre x _ _ (hI.putObj _ hi2 (by omega) bk'.1 rfl) ((hV x a2).putObj (s := ()) _ hv2 (by omega) bk'.1 rfl) hlen) ?_
    have fin : ∀ (jump : Option Code) (W3 : World), KeepsOthers (W2.putObj (D + 1) (.loop { rec .ready none with state := .busy })) W3 →
        (Instr.endRound (D + 1) jump).run P W3 = .ok (.bool jump.isNone) (W3.putObj (D + 1) (.loop (rec (if jump.isNone then .ready else .done) jump))) ∧ LoopBk D { rec .ready none with state := .busy } W3 := fun jump W3 hk3 => by
      have b3 := bk2.keeps hk3
      have e := run_endRound (P := P) jump b3.1
      rw [hrec] at e ⊢
      exact ⟨e, by rw [hrec] at b3; exact b3⟩
    have out : ∀ (c : Code) (W3 : World), KeepsOthers (W2.putObj (D + 1) (.loop { rec .ready none with state := .busy })) W3 → Ix c (pre ++ [x]) W3 →
        ∃ v W4, (Instr.endRound (D + 1) (some c)).run P W3 = .ok v W4 ∧ (fun e W' => (e = Ending.returned (.bool true) ∧ (I (pre ++ [x]) W' ∧ LoopBk D (rec .ready none) W') ∧ Kp W W') ∨ (e = .returned (.bool false) ∧ ∃ c, Ix c (pre ++ [x]) W' ∧ LoopBk D (rec .done (some c)) W')) (.returned v) W4 := fun c W3 hk3 hi3 => by
      obtain ⟨e, b3⟩ := fin (some c) W3 hk3
      exact ⟨_, _, e, .inr ⟨rfl, c, (hIx c).putObj _ hi3 (by omega) b3.1 rfl, b3.put _⟩⟩
    rintro e a3 W3 hp
    cases e with
    | normal =>
      obtain ⟨hk3, hkp3, hi3⟩ := hp
      obtain ⟨e, b3⟩ := fin none W3 hk3
      exact ⟨_, _, e, .inl ⟨rfl, ⟨hI.putObj _ hi3 (by omega) b3.1 rfl, b3.put _⟩, hKt (hKa _ _ hsz hg2) (hKt (hKt k2 hkp3) (hKb _ _ _ _ (by omega) b3.1 rfl rfl))⟩⟩
    | ret => exact out .ret W3 hp.1 hp.2
    | exit id => exact out (.exit id) W3 hp.1 hp.2
    | goto t => exact out (.goto t) W3 hp.1 hp.2
    | panic ch => exact hp.elim
    | outgrown => exact hp.elim
  · rintro e W2 ⟨⟨v, rfl⟩, (⟨xs, hS, hi, bk⟩ | ⟨pre, hSp, c, hi, bk⟩)⟩
    · have e := run_endLoop (P := P) bk.1 (by rw [hrec]; simp)
      rw [hrec] at e
      exact ⟨none, _, e, hdone D xs _ (Nat.le_refl _) hS (hI.putObj _ hi (by omega) bk.1 rfl) (bk.put _).2⟩
    · have e := run_endLoop (P := P) bk.1 (by rw [hrec]; simp)
      rw [hrec] at e
      exact ⟨some c, _, e, hstop D c pre _ (Nat.le_refl _) hSp ((hIx c).putObj _ hi (by omega) bk.1 rfl) (bk.put _).2⟩

theorem wpListIn_append_run {F : Fence} {n : Nat} {P : Program} {w : World} {ops : Array Oper} {rest : List Oper} {o : Oper} {a : Act} {Q : Exit → Act → World → Prop}
    (hg : o.guard = none) (s x : Operand) (t : TypeId) (hop : o.op = Op.call { callee := Callee.builtin Builtin.append, args := #[s, x], argTypes := #[t, t] })
    {v xv v' : Value} {w' : World} (hs : a.eval s = v) (hx : a.eval x = xv) (hrun : (Builtin.append_ #[t, t] o.type #[v, xv]).run P w = .ok v' w') (h : wpListIn F n P ops Q rest (a.put o.dst v') w') :
    wpListIn F n P ops Q (o :: rest) a w := by
  refine wpListIn_plain hg fun K hK' => ?_
  unfold Oper.wpIn
  refine ⟨?_, ?_⟩
  · simp [Oper.about, hop, resolve, Target.leads, Sem.run_pure]
  · rw [Oper.semAt_plain F _ _ (by rw [hop]; intro c hc'; cases hc')]
    simp [execOp, hop, resolve, invoke, builtin, hs, hx, hrun, Result.andThen]
    exact hK' _ _ h
end
section
open Go.RowKit Go.Shelf
attribute [local go_sem] Oper.semAt_some

def itF (Bx : Nat) : Value := .func (.func 157) #[] #[.pointer (some ⟨Bx, 0, none⟩)]
def colAct (Bx Bt C : Nat) (x : Sp) : Act := { tmps := #[.slice none 0 0, itF Bx, .pointer (some ⟨Bt, 0, none⟩), undef, .slice none 0 0, .pointer (some ⟨C, 0, none⟩), itF Bx, .agg #[.string x.k, .int .i64 x.v], undef, undef, undef, undef, undef], defers := [] }
theorem below_nc {n : Nat} {A B : World} (hn : n ≤ A.heap.size) (hg : A.grownBy B none) : Below n A B := ⟨hg.os, hg.tape, hg.output, hg.size, fun k hk => hg.block k (by omega) (by simp)⟩
theorem stC_len (pre : List Sp) : (pre.flatMap stC).length = pre.length * 2 := by
  induction pre with
  | nil => rfl
  | cons p l ih => rw [List.flatMap_cons, List.length_append, ih, List.length_cons]; show 2 + _ = _; omega
set_option maxRecDepth 100000 in
set_option maxHeartbeats 8000000 in
theorem appSeq_any (A : Option Addr) (m c Bx : Nat) (ws : List ByteArray) (w : World) (hE : DfE w) (hb : Boxed w Bx 43 (.slice A m c)) (hs : SlW w A ws) (hm : ws.length = m) (hmb : m ≤ 1000000) (hz : ∀ x ∈ ws, x.size ≤ 1000000) :
    Calls Tryz.prog 156 #[.slice none 0 0, itF Bx] w fun e w' => (∃ v xs, e = .returned v ∧ xs.length = m ∧ StepsK ws xs ∧ w'.ownsRow w.heap.size 71 2 v m (xs.flatMap stC)) ∧ Below w.heap.size w w' := by
  unfold itF
  have HSQ := Lib.hid (steps1_in (8 - 1) (by decide) Bx A m c ws w hE hb hs hm hmb hz)
  clear hE hb hs hz
  refine (callsIn_wide (n := 8)).1 ?_
  refine callsIn_of_wp_marks Tryz.func156 rfl trivial ?_ rfl
  simp only [Tryz.ntmps156, List.size_toArray, List.length_cons, List.length_nil, Nat.reduceAdd, Nat.reduceSub, Array.replicate_succ, Array.replicate_zero, List.push_toArray, List.append_toArray, List.nil_append, List.cons_append]
  gi_wp2
  have X0 := Boxed.new w 30 (.slice none 0 0)
  have K0 := (Below.refl w.heap.size w).alloc (Nat.le_refl _) (.cells #[.slice none 0 0] 30)
  have O0 := World.ownsRow_nil (w.alloc (.cells #[.slice none 0 0] 30)) w.heap.size 71 2
  have hsz : (w.alloc (.cells #[.slice none 0 0] 30)).heap.size = w.heap.size + 1 := by simp
  obtain ⟨W0, hW0⟩ : ∃ W0, w.alloc (.cells #[.slice none 0 0] 30) = W0 := ⟨_, rfl⟩
  rw [hW0] at X0 K0 O0 hsz ⊢
  clear hW0
  refine rangeA rfl (by decide) (gf := 157) (lb := #[.pointer (some ⟨Bx, 0, none⟩)]) rfl trivial (enters_of Tryz.func157 (by kernel_rfl) rfl)
    HSQ.out (fun A B i o hm hi ho => ?mv) (fun h k => Below.trans h k) (fun W q o o' hq ho h1 h2 => ?kb) K0 (fun _ => rfl)
    (fun pre X => (∃ v, Boxed X w.heap.size 30 v ∧ X.ownsRow w.heap.size 71 2 v pre.length (pre.flatMap stC)) ∧ Below w.heap.size w X) (fun _ _ _ => False)
    (fun s A B row hs hg hr => ?own)
    (fun _ _ _ _ _ h _ _ => h) (fun s A B hs hm => ?im) (fun _ _ _ _ h _ => h) ⟨⟨_, X0, O0⟩, K0⟩
    (fun x a2 X => ∃ C, a2 = colAct Bx w.heap.size C x ∧ Whole X C 71 #[.string x.k, .int .i64 x.v]) (fun x a2 s A B row hs hg hr => ?vown) (fun A B hA hg => ?ka) ?assign ?body ?done ?stop
  case mv => exact (hm.block i (Array.getElem?_eq_some_iff.1 hi).1).trans hi
  case kb => exact ⟨rfl, rfl, rfl, by simp [World.putObj], fun k hk => World.putObj_heap_other (by omega)⟩
  case own =>
    obtain ⟨⟨v, h1, h2⟩, h3⟩ := hs
    exact ⟨⟨v, (cells_same hg (fun r e => (hr r e).2) h1).trans h1, own_nc h2 hg (fun r e => (hr r e).2)⟩, h3.grown hg h3.size (fun k e => by have := (hr k e).1; omega)⟩
  case im =>
    obtain ⟨⟨v, h1, h2⟩, h3⟩ := hs
    exact ⟨⟨v, h1.kept (gbelow hm) (by simp), h2.kept (gbelow hm) (Classical.em _)⟩, h3.trans (hm.mono h3.size)⟩
  case vown =>
    obtain ⟨C, rfl, h1⟩ := hs
    exact ⟨C, rfl, (cells_same hg (fun r e => (hr r e).2) h1).trans h1⟩
  case ka => exact below_nc (by omega) hg
  case assign =>
    intro L pre x W K hI hsW hK
    unfold stV
    gi_wp2
    exact hK _ _ (World.grownBy_alloc W _ none) ⟨_, rfl, Whole.new W _ _⟩
  case body =>
    rintro L pre x a2 X ⟨⟨v, hbx, hown⟩, hB⟩ ⟨C, rfl, hC⟩ hlen
    have hB1 := hbx.cell
    have hF1 := hbx.frozen
    have z0 := hC.cell 0
    have z1 := hC.cell 1
    simp only [List.getElem?_toArray, List.getElem?_cons_succ, List.getElem?_cons_zero] at z0 z1
    have Y0 : Below X.heap.size X (X.alloc (.cells #[.string x.k, .int .i64 x.v] 71)) := (Below.refl _ X).alloc (Nat.le_refl _) _
    have hown2 : (X.alloc (.cells #[.string x.k, .int .i64 x.v] 71)).ownsRow w.heap.size 71 2 v pre.length (pre.flatMap stC) := hown.kept (gbelow Y0) (Classical.em _)
    obtain ⟨v', w', hrun, hown', hgrow⟩ := run_app_step (X.alloc (.cells #[.string x.k, .int .i64 x.v] 71)) w.heap.size v pre.length (pre.flatMap stC) hown2 ⟨X.heap.size, 0, none⟩ 1 1 (stC x) rfl (news_at X 71 (stC x) X.heap.size rfl) (by intro u hu; simp [stC] at hu; rcases hu with rfl | rfl <;> rfl) (by omega) (by have := hB.size; have := Y0.size; omega)
    obtain ⟨g9, cap9, rfl, _, _⟩ := hown'.form (by omega)
    have hbx2 := (hbx.kept (gbelow Y0) (by simp)).kept hgrow (own_ne hown2 (show Whole _ _ _ _ from hbx.kept (gbelow Y0) (by simp)) (by decide))
    have e1 := hbx2.cell
    have e2 := hbx2.frozen
    have FIN : Hid (KeepsOthers X (w'.setCell ⟨w.heap.size, 0, none⟩ (.slice (some ⟨g9, 0, none⟩) (pre.length + 1) cap9)) ∧ KpB w.heap.size X (w'.setCell ⟨w.heap.size, 0, none⟩ (.slice (some ⟨g9, 0, none⟩) (pre.length + 1) cap9)) ∧ ((∃ v, Boxed (w'.setCell ⟨w.heap.size, 0, none⟩ (.slice (some ⟨g9, 0, none⟩) (pre.length + 1) cap9)) w.heap.size 30 v ∧ (w'.setCell ⟨w.heap.size, 0, none⟩ (.slice (some ⟨g9, 0, none⟩) (pre.length + 1) cap9)).ownsRow w.heap.size 71 2 v (pre ++ [x]).length ((pre ++ [x]).flatMap stC)) ∧ Below w.heap.size w (w'.setCell ⟨w.heap.size, 0, none⟩ (.slice (some ⟨g9, 0, none⟩) (pre.length + 1) cap9)))) := by
      have KP : Below w.heap.size X (w'.setCell ⟨w.heap.size, 0, none⟩ (.slice (some ⟨g9, 0, none⟩) (pre.length + 1) cap9)) := (((Y0.mono hB.size).grown hgrow (by have := hB.size; have := Y0.size; omega) (fun k e => (hown2.lt k e).1)).setCell (p := ⟨w.heap.size, 0, none⟩) (Nat.le_refl _) _)
      refine Lib.hid ⟨?_, KP, ⟨_, hbx2.set _, ?_⟩, hB.trans KP⟩
      · refine ((KeepsOthers.alloc _ _).trans (KeepsOthers.of_grownBy hgrow fun j o ej hj => ?_)).trans (KeepsOthers.setCell _ _ _)
        rcases hown2.2 with ⟨rfl, _⟩ | ⟨g, cap, cur, rfl, _, hgb, _⟩
        · simp [Value.ownBlock] at ej
        · obtain rfl : g = j := by simpa [Value.ownBlock] using ej
          rw [hgb] at hj; cases hj; rfl
      · have := hown'.kept (grown_set (World.grownBy.refl w' (some w.heap.size)) 0 (.slice (some ⟨g9, 0, none⟩) (pre.length + 1) cap9)) (.inr (own_ne hown' (show Whole _ _ _ _ from hbx2) (by decide)).symm)
        rw [List.length_append, List.flatMap_append]
        simpa using this
    have HR := Lib.hid hrun
    clear hrun hown' hgrow hown2 Y0 hown hbx2 hB hbx hC
    unfold colAct itF
    gi_wp2_with (gi_at_builtin; refine wpListIn_append_run rfl (.tmp 8) (.tmp 10) 30 rfl rfl rfl HR.out ?_)
    exact FIN.out
  case done =>
    rintro D xs W hD ⟨hl, hK⟩ ⟨⟨v, h1, h2⟩, h3⟩ hD2
    have hB1 := h1.cell
    gi_wp2
    refine ⟨by simp, .inl ⟨_, _, rfl, run_takeDeferred hD2, ?_⟩⟩
    have HF : Hid ((W.putObj D (.deferred none)).ownsRow w.heap.size 71 2 v m (xs.flatMap stC) ∧ Below w.heap.size w (W.putObj D (.deferred none))) := Lib.hid ⟨by rw [← hl]; exact own_nc h2 (grownBy_putObj' _ D _) (fun r e => by cases e; exact ⟨_, hD2, rfl⟩), h3.grown (grownBy_putObj' _ D _) h3.size (fun k e => by cases e; omega)⟩
    exact ⟨_, results_tmp rfl _ _ _, ⟨v, xs, rfl, hl, hK, HF.out.1⟩, HF.out.2⟩
  case stop =>
    rintro D c pre W hD _ h _
    exact h.elim
end
section
open Go.RowKit Go.Shelf

theorem splitK_le : ∀ (k : Nat) (l w : List UInt8), w ∈ Lib.splitK [32] 0 k l → w.length ≤ l.length
  | 0, l, w, h => by simp [Lib.splitK] at h; rw [h]; exact Nat.le_refl _
  | k + 1, l, w, h => by
    unfold Lib.splitK at h
    split at h
    · simp at h; rw [h]; exact Nat.le_refl _
    · rcases List.mem_cons.1 h with rfl | h
      · rw [List.length_take]; omega
      · have := splitK_le k _ w h
        rw [List.length_drop] at this; omega
theorem splitK_pos : ∀ (k : Nat) (l : List UInt8), 1 ≤ (Lib.splitK [32] 0 k l).length
  | 0, l => by simp [Lib.splitK]
  | k + 1, l => by
    unfold Lib.splitK
    split
    · simp
    · simp
theorem splitN_any (s : ByteArray) (w : World) (hs : s.size ≤ 1000000) (hE : DfE w) :
    Calls Tryz.prog 132 #[.string s, .string ⟨#[32]⟩, .int .i64 12] w fun e w' =>
      (∃ ws G m c, e = .returned (.slice (some ⟨G, 0, none⟩) m c) ∧ ws.length = m ∧ m ≤ c ∧ m ≤ 12 ∧ wL ws = Lib.splitK [32] 0 (min 12 (s.data.toList.length + 1) - 1) s.data.toList ∧ SlW w' (some ⟨G, 0, none⟩) ws ∧ ∀ x ∈ ws, x.size ≤ 1000000) ∧ Below w.heap.size w w' := by
  refine (Tryz.strings_SplitN_shaped s ⟨#[32]⟩ 12 w hE.sh (by omega) (by decide) (by decide) (by decide)).mono ?_
  rintro e w' ⟨rfl, rfl⟩
  have hd := Lib.splitB_data ⟨#[32]⟩ 0 (min 12 (s.size + 1) - 1) s
  have hll := Lib.splitB_length_le ⟨#[32]⟩ 0 (min 12 (s.size + 1) - 1) s
  generalize Lib.splitB ⟨#[32]⟩ 0 (min 12 (s.size + 1) - 1) s = ws at hd hll
  have hle : ws.length ≤ min 12 (s.size + 1) := by omega
  refine ⟨⟨ws, _, _, _, rfl, rfl, hle, by omega, ?_, ?_, ?_⟩, (Below.refl _ w).alloc (Nat.le_refl _) _⟩
  · rw [← Lib.size_eq]; exact hd
  · intro i x hi
    refine ⟨w.heap.size, 0, rfl, ?_⟩
    have := (Whole.new w 9 (Lib.cellsOf ws (min 12 (s.size + 1)))).cell i
    rw [Nat.zero_add, this]
    unfold Lib.cellsOf
    rw [List.getElem?_toArray, List.getElem?_append_left (by rw [List.length_map]; exact (List.getElem?_eq_some_iff.1 hi).1), List.getElem?_map, hi]
    rfl
  · intro x hx
    have : x.data.toList ∈ Lib.splitK [32] 0 (min 12 (s.size + 1) - 1) s.data.toList := by
      have h2 : x.data.toList ∈ ws.map (·.data.toList) := List.mem_map_of_mem hx
      rw [hd] at h2; exact h2
    have := splitK_le _ _ _ this
    rw [Lib.size_eq]
    rw [← Lib.size_eq s] at this
    omega
theorem steps_any (A : Option Addr) (m c : Nat) (w : World) :
    Calls Tryz.prog 134 #[.slice A m c] w fun e w' => (∃ Bx, e = .returned (itF Bx) ∧ Boxed w' Bx 43 (.slice A m c)) ∧ Below w.heap.size w w' := by
  have b1 := (Below.refl w.heap.size w).alloc (Nat.le_refl _) (.cells #[.slice A m c] 43)
  have X := Boxed.new w 43 (.slice A m c)
  go_enter Tryz.func134, Tryz.ntmps134
  go_wp2
  go_ret
  exact ⟨⟨w.heap.size, rfl, X⟩, b1⟩
theorem collect_any (A : Option Addr) (m c Bx : Nat) (ws : List ByteArray) (w : World) (hE : DfE w) (hb : Boxed w Bx 43 (.slice A m c)) (hs : SlW w A ws) (hm : ws.length = m) (hmb : m ≤ 1000000) (hz : ∀ x ∈ ws, x.size ≤ 1000000) :
    Calls Tryz.prog 133 #[itF Bx] w fun e w' => (∃ v xs, e = .returned v ∧ xs.length = m ∧ StepsK ws xs ∧ w'.ownsRow w.heap.size 71 2 v m (xs.flatMap stC)) ∧ Below w.heap.size w w' := by
  have AP := Lib.hid (appSeq_any A m c Bx ws w hE hb hs hm hmb hz)
  clear hE hb hs hm hmb hz
  unfold itF at AP ⊢
  go_enter Tryz.func133, Tryz.ntmps133
  go_wp2_with (go_at_call 156; refine AP.out.mono ?_; rintro e w1 ⟨⟨v, xs, rfl, h1, h2, h3⟩, hb1⟩)
  go_ret
  exact ⟨⟨v, xs, rfl, h1, h2, h3⟩, hb1⟩
theorem cells_stC : ∀ (s : List Sp) (i : Nat) p, s[i]? = some p → (s.flatMap stC)[i * 2]? = some (.string p.k) ∧ (s.flatMap stC)[i * 2 + 1]? = some (.int .i64 p.v)
  | [], _, _, h => by simp at h
  | q :: s, 0, p, h => by
    simp at h; subst h
    exact ⟨rfl, rfl⟩
  | q :: s, i + 1, p, h => by
    have h' : s[i]? = some p := by simpa using h
    obtain ⟨a, b⟩ := cells_stC s i p h'
    have e : (i + 1) * 2 = i * 2 + 1 + 1 := by omega
    rw [e, List.flatMap_cons]
    exact ⟨a, b⟩
/-- A row of steps that lies is a slice of them. -/
theorem slD_own {w : World} {base n c : Nat} {A : Option Addr} {s : List Sp} (h : w.ownsRow base 71 2 (.slice A n c) n (s.flatMap stC)) (hn : s.length = n) : SlD w A s := by
  intro i p hi
  rcases h.2 with ⟨_, h2⟩ | ⟨g, cap, cur, h1, _, _⟩
  · rw [← hn] at h2
    have := (List.getElem?_eq_some_iff.1 hi).1; omega
  · cases h1
    have hlt : i < n := by rw [← hn]; exact (List.getElem?_eq_some_iff.1 hi).1
    obtain ⟨a, b⟩ := cells_stC s i p hi
    refine ⟨g, 0, rfl, ?_, ?_⟩
    · rw [Nat.zero_add, h.cellAt _ (by omega)]; exact a
    · rw [Nat.zero_add, h.cellAt _ (by omega)]; exact b
theorem own_slice2 {w : World} {base n : Nat} {t : TypeId} {size : Nat} {v : Value} {xs : List Value} (h : w.ownsRow base t size v n xs) : ∃ A c, v = .slice A n c ∧ n ≤ c := by
  rcases h.2 with ⟨rfl, rfl⟩ | ⟨g, cap, cur, rfl, _, _, hc, _⟩
  · exact ⟨none, 0, rfl, Nat.le_refl _⟩
  · exact ⟨_, cap, rfl, hc⟩
end
section
open Go.RowKit Go.Shelf

theorem par_ws {s : List UInt8} {ws : List ByteArray} (hws : wL ws = Lib.splitK [32] 0 (min 12 (s.length + 1) - 1) s) {d0 : Dv} (h0 : defOk d0) (h1 : textD d0 = s) : wL ws = wordsD d0 := by
  rw [hws, ← h1]; exact split_text h0
theorem par_short {s : List UInt8} {ws : List ByteArray} (hws : wL ws = Lib.splitK [32] 0 (min 12 (s.length + 1) - 1) s) (hl : ws.length < 4) : ∀ d0, defOk d0 → textD d0 ≠ s := fun d0 h0 h1 => by
  have h2 := congrArg List.length (par_ws hws h0 h1)
  rw [wordsD_len, wL, List.length_map] at h2
  have := h0.2.2.2.2.2.1; omega
theorem par_num {s : List UInt8} {ws : List ByteArray} {x : ByteArray} (hws : wL ws = Lib.splitK [32] 0 (min 12 (s.length + 1) - 1) s) {k : Nat} (hk : k = 1 ∨ k = 2) (hx : ws[k]? = some x) (hn : ∀ u, Lib.atoiAll x.data.toList ≠ .ok u) : ∀ d0, defOk d0 → textD d0 ≠ s := fun d0 h0 h1 => by
  have h2 : (wL ws)[k]? = (wordsD d0)[k]? := by rw [par_ws hws h0 h1]
  rw [wL, List.getElem?_map, hx] at h2
  rcases hk with rfl | rfl
  · have e : x.data.toList = dgs d0.r := by simpa [wordsD] using h2
    exact hn d0.r (by rw [e]; exact atoiAll_dgs h0.2.1 (by have := h0.2.2.1; omega))
  · have e : x.data.toList = dgs d0.dl := by simpa [wordsD] using h2
    exact hn d0.dl (by rw [e]; exact atoiAll_dgs h0.2.2.2.1 (by have := h0.2.2.2.2.1; omega))
theorem par_d {s : List UInt8} {ws : List ByteArray} {x0 x1 x2 : ByteArray} {r dl : Int} {xs : List Sp} (hws : wL ws = Lib.splitK [32] 0 (min 12 (s.length + 1) - 1) s) (h0 : ws[0]? = some x0) (h1 : ws[1]? = some x1) (h2 : ws[2]? = some x2)
    (hr : Lib.atoiAll x1.data.toList = .ok r) (hd : Lib.atoiAll x2.data.toList = .ok dl) (hl : xs.length = (ws.drop 3).length) (hk : StepsK (ws.drop 3) xs) {d0 : Dv} (hok : defOk d0) (ht : textD d0 = s) : (⟨x0, r, dl, xs⟩ : Dv) = d0 := by
  have hw := par_ws hws hok ht
  have g : ∀ k : Nat, (ws[k]?).map (·.data.toList) = (wordsD d0)[k]? := fun k => by rw [← hw, wL, List.getElem?_map]
  have g0 := g 0
  have g1 := g 1
  have g2 := g 2
  rw [h0] at g0; rw [h1] at g1; rw [h2] at g2
  have e0 : x0.data.toList = d0.n.data.toList := by simpa [wordsD] using g0
  have e1 : x1.data.toList = dgs d0.r := by simpa [wordsD] using g1
  have e2 : x2.data.toList = dgs d0.dl := by simpa [wordsD] using g2
  rw [e1, atoiAll_dgs hok.2.1 (by have := hok.2.2.1; omega)] at hr
  rw [e2, atoiAll_dgs hok.2.2.2.1 (by have := hok.2.2.2.2.1; omega)] at hd
  injection hr with hr
  injection hd with hd
  have hs : wL (ws.drop 3) = d0.s.map spW := by
    have := congrArg (List.drop 3) hw
    rw [wL, ← List.map_drop] at this
    exact this
  have hx := steps_rel (fun p hp => hok.2.2.2.2.2.2.2.all hp) (by rw [← hs]; exact hk.rel hl)
  have en : x0 = d0.n := by rw [← ba_eta x0, e0, ba_eta]
  obtain ⟨n', r', dl', s'⟩ := d0
  dsimp only at hx en hr hd
  rw [hx, en, hr, hd]
theorem defAt_zero (w : World) : DefAt w none 0 0 zeroD := ⟨rfl, Nat.le_refl _, Nat.zero_le _, ⟨by decide, by decide, by decide, fun i p h => by simp [zeroD] at h⟩, fun i p h => by simp [zeroD] at h⟩
def ParseR (s : List UInt8) (w w' : World) (e : Ending) : Prop := (∃ d A n c er, e = .returned (.tuple #[dV d A n c, .int .i64 er]) ∧ ParR s d er ∧ DefAt w' A n c d) ∧ Below w.heap.size w w'
/-- .. and its definition's steps lie in memory made since. -/
def ParseF (s : List UInt8) (w w' : World) (e : Ending) : Prop := (∃ d A n c er, e = .returned (.tuple #[dV d A n c, .int .i64 er]) ∧ ParR s d er ∧ DefAt w' A n c d ∧ ∀ a : Addr, A = some a → w.heap.size ≤ a.block) ∧ Below w.heap.size w w'
theorem parse_zero {s : List UInt8} {w w' : World} (h : ∀ d0, defOk d0 → textD d0 ≠ s) (hb : Below w.heap.size w w') : ParseR s w w' (.returned (.tuple #[.agg #[.string ⟨#[]⟩, .int .i64 0, .int .i64 0, .slice none 0 0], .int .i64 10])) :=
  ⟨⟨zeroD, none, 0, 0, 10, rfl, Or.inr ⟨rfl, rfl, h⟩, defAt_zero w'⟩, hb⟩
theorem parseF_zero {s : List UInt8} {w w' : World} (h : ∀ d0, defOk d0 → textD d0 ≠ s) (hb : Below w.heap.size w w') : ParseF s w w' (.returned (.tuple #[.agg #[.string ⟨#[]⟩, .int .i64 0, .int .i64 0, .slice none 0 0], .int .i64 10])) :=
  ⟨⟨zeroD, none, 0, 0, 10, rfl, Or.inr ⟨rfl, rfl, h⟩, defAt_zero w', fun a ha => by cases ha⟩, hb⟩
theorem whole4 {W : World} {R : Nat} {t : TypeId} {a b c d : Value} (h : Whole W R t #[a, b, c, d]) : (W.cell? ⟨R, 0, none⟩ = some a ∧ W.cell? ⟨R, 1, none⟩ = some b ∧ W.cell? ⟨R, 2, none⟩ = some c ∧ W.cell? ⟨R, 3, none⟩ = some d) ∧ (W.frozen? ⟨R, 0, none⟩ = false ∧ W.frozen? ⟨R, 1, none⟩ = false ∧ W.frozen? ⟨R, 2, none⟩ = false ∧ W.frozen? ⟨R, 3, none⟩ = false) :=
  ⟨⟨h.cell 0, h.cell 1, h.cell 2, h.cell 3⟩, h.fr 0, h.fr 1, h.fr 2, h.fr 3⟩
theorem whole_put4 {W : World} {D : Nat} {t : TypeId} {a b c d : Value} (h : Whole W D t #[a, b, c, d]) (a' b' c' d' : Value) : Whole ((((W.setCell ⟨D, 0, none⟩ a').setCell ⟨D, 1, none⟩ b').setCell ⟨D, 2, none⟩ c').setCell ⟨D, 3, none⟩ d') D t #[a', b', c', d'] := by
  have := (((h.put 0 a').put 1 b').put 2 c').put 3 d'
  simpa using this
theorem put4_grown (W : World) (D : Nat) (a' b' c' d' : Value) : W.grownBy ((((W.setCell ⟨D, 0, none⟩ a').setCell ⟨D, 1, none⟩ b').setCell ⟨D, 2, none⟩ c').setCell ⟨D, 3, none⟩ d') (some D) :=
  grown_set (grown_set (grown_set (grown_set (World.grownBy.refl W (some D)) 0 a') 1 b') 2 c') 3 d'
/-- The definition has been built behind the steps. -/
theorem prs_new {w3 w7 : World} {m c9 : Nat} {A9 : Option Addr} {ws : List ByteArray} {xs : List Sp} {x0 : ByteArray} {v1 v2 : Int} {base : Nat} (ho : w7.ownsRow base 71 2 (.slice A9 m c9) m (xs.flatMap stC)) (hl : xs.length = m) (hk : StepsK ws xs) (hc : m ≤ c9) (hb : Below w3.heap.size w3 w7) (hbase : w3.heap.size ≤ base) :
    Whole (w7.alloc (.cells #[.string x0, .int .i64 v1, .int .i64 v2, .slice A9 m c9] 32)) w7.heap.size 32 #[.string x0, .int .i64 v1, .int .i64 v2, .slice A9 m c9] ∧ xs.length = m ∧ StepsK ws xs ∧ SlD (w7.alloc (.cells #[.string x0, .int .i64 v1, .int .i64 v2, .slice A9 m c9] 32)) A9 xs ∧ m ≤ c9 ∧ Below w3.heap.size w3 (w7.alloc (.cells #[.string x0, .int .i64 v1, .int .i64 v2, .slice A9 m c9] 32)) ∧ ∀ a : Addr, A9 = some a → w3.heap.size ≤ a.block :=
  ⟨Whole.new _ _ _, hl, hk, (slD_own ho hl).keep ((Below.refl _ _).alloc (Nat.le_refl _) _), hc, hb.alloc hb.size _, fun a ea => Nat.le_trans hbase ((ho.lt a.block (by rw [ea]; rfl)).1)⟩
/-- It is laid into a block that was there. -/
theorem prs_put {w3 w7 : World} {m c9 D : Nat} {A9 : Option Addr} {ws : List ByteArray} {xs : List Sp} {a b c d : Value} {base : Nat} (x0 : ByteArray) (v1 v2 : Int) (ho : w7.ownsRow base 71 2 (.slice A9 m c9) m (xs.flatMap stC)) (hl : xs.length = m) (hk : StepsK ws xs) (hc : m ≤ c9) (hb : Below w3.heap.size w3 w7) (hD : Whole w7 D 32 #[a, b, c, d]) (h3 : w3.heap.size ≤ D) (hbase : w3.heap.size ≤ base) :
    Whole ((((w7.setCell ⟨D, 0, none⟩ (.string x0)).setCell ⟨D, 1, none⟩ (.int .i64 v1)).setCell ⟨D, 2, none⟩ (.int .i64 v2)).setCell ⟨D, 3, none⟩ (.slice A9 m c9)) D 32 #[.string x0, .int .i64 v1, .int .i64 v2, .slice A9 m c9] ∧ xs.length = m ∧ StepsK ws xs ∧ SlD ((((w7.setCell ⟨D, 0, none⟩ (.string x0)).setCell ⟨D, 1, none⟩ (.int .i64 v1)).setCell ⟨D, 2, none⟩ (.int .i64 v2)).setCell ⟨D, 3, none⟩ (.slice A9 m c9)) A9 xs ∧ m ≤ c9 ∧ Below w3.heap.size w3 ((((w7.setCell ⟨D, 0, none⟩ (.string x0)).setCell ⟨D, 1, none⟩ (.int .i64 v1)).setCell ⟨D, 2, none⟩ (.int .i64 v2)).setCell ⟨D, 3, none⟩ (.slice A9 m c9)) ∧ ∀ a : Addr, A9 = some a → w3.heap.size ≤ a.block := by
  have hg := put4_grown w7 D (.string x0) (.int .i64 v1) (.int .i64 v2) (.slice A9 m c9)
  refine ⟨whole_put4 hD _ _ _ _, hl, hk, (slD_own ho hl).grown hg (fun a ea _ e => own_ne ho hD (by decide) ?_), hc, hb.grown hg hb.size (fun k e => by cases e; exact h3), fun a ea => Nat.le_trans hbase ((ho.lt a.block (by rw [ea]; rfl)).1)⟩
  rw [← e, ea]; rfl
set_option maxRecDepth 100000 in
set_option maxHeartbeats 1000000 in
theorem defParseF_any (s : ByteArray) (w : World) (hs : s.size ≤ 1000000) (hE : DfE w) :
    Calls Tryz.prog 103 #[.string s] w fun e w' => ParseF s.data.toList w w' e := by
  have R1 := Lib.hid (Whole.new w 32 #[.string ⟨#[]⟩, .int .i64 0, .int .i64 0, .slice none 0 0])
  have b1 := Lib.hid ((Below.refl w.heap.size w).alloc (Nat.le_refl _) (.cells #[.string ⟨#[]⟩, .int .i64 0, .int .i64 0, .slice none 0 0] 32))
  have SP := Lib.hid (splitN_any s _ hs (hE.keep b1.out))
  have HE := Lib.hid hE
  clear hE hs
  go_enter Tryz.func103, Tryz.ntmps103
  go_upto_region 2 with (go_at_call 132; refine SP.out.mono ?_; rintro e w1 ⟨⟨ws, G, m, c, rfl, hwm, hwc, hw12, hws, hsl, hsz⟩, hb1⟩)
  have R2 := Lib.hid (R1.out.keep hb1)
  have BW1 := Lib.hid (b1.out.trans (hb1.mono b1.out.size))
  have HWS := Lib.hid hws
  have HSL := Lib.hid hsl
  have HSZ := Lib.hid hsz
  have HWM := Lib.hid hwm
  clear R1 b1 SP hb1 hws hsl hsz hwm
  have hRlt := R2.out.lt
  by_cases hlen : m < 4
  case pos =>
    have HB := Lib.hid (par_short HWS.out (by rw [HWM.out]; exact hlen))
    obtain ⟨⟨r0, r1, r2, r3⟩, s0, s1, s2, s3⟩ := whole4 R2.out
    go_wp2_with fail
    refine bodyPost_ret (v := .tuple #[.agg #[.string ⟨#[]⟩, .int .i64 0, .int .i64 0, .slice none 0 0], .int .i64 10]) ?_ rfl ?_
    · simp [results, Tryz.results103, go_sem, r0, r1, r2, r3]
    · exact parseF_zero HB.out ((((BW1.out.setCell (p := ⟨w.heap.size, 0, none⟩) (Nat.le_refl _) _).setCell (p := ⟨w.heap.size, 1, none⟩) (Nat.le_refl _) _).setCell (p := ⟨w.heap.size, 2, none⟩) (Nat.le_refl _) _).setCell (p := ⟨w.heap.size, 3, none⟩) (Nat.le_refl _) _)
  obtain ⟨x0, hx0⟩ : ∃ x, ws[0]? = some x := ⟨_, List.getElem?_eq_getElem (by rw [HWM.out]; omega)⟩
  obtain ⟨x1, hx1⟩ : ∃ x, ws[1]? = some x := ⟨_, List.getElem?_eq_getElem (by rw [HWM.out]; omega)⟩
  obtain ⟨x2, hx2⟩ : ∃ x, ws[2]? = some x := ⟨_, List.getElem?_eq_getElem (by rw [HWM.out]; omega)⟩
  have hC : ∀ (k : Nat) x, ws[k]? = some x → w1.cell? ⟨G, k, none⟩ = some (.string x) := fun k x hx => by
    obtain ⟨g, o, e, h⟩ := HSL.out k x hx
    cases e; rw [Nat.zero_add] at h; exact h
  have y1 := hC 1 x1 hx1
  have y2 := hC 2 x2 hx2
  have HY0 := Lib.hid (hC 0 x0 hx0)
  have HX := Lib.hid (And.intro hx0 (And.intro hx1 hx2))
  have AT1 := Lib.hid (fun W hE => atoi2_any x1 W (HSZ.out x1 (List.mem_of_getElem? hx1)) hE)
  have AT2 := Lib.hid (fun W hE => atoi2_any x2 W (HSZ.out x2 (List.mem_of_getElem? hx2)) hE)
  have HE1 := Lib.hid (HE.out.keep BW1.out)
  have h1m : (1 : Int) < (m : Int) := by omega
  have h2m : (2 : Int) < (m : Int) := by omega
  clear hC hx0 hx1 hx2
  go_upto_region 6 with (first
    | (go_at_call 131; go_fit (AT1.out _ HE1.out); rintro e w2 ⟨(⟨v1, rfl, hv1⟩ | ⟨v1, N1, rfl, hv1⟩), hb2⟩; all_goals (have y2 := bcell y2 hb2; have B2 := Lib.hid hb2; have HE2 := Lib.hid (HE1.out.keep hb2); have HV1 := Lib.hid hv1; clear hb2 hv1))
    | (go_at_call 131; go_fit (AT2.out _ HE2.out); rintro e w3 ⟨(⟨v2, rfl, hv2⟩ | ⟨v2, N2, rfl, hv2⟩), hb3⟩; all_goals (have B3 := Lib.hid (B2.out.trans (hb3.mono B2.out.size)); have HV2 := Lib.hid hv2; clear hb3 hv2)))
  rotate_left
  · have HB := Lib.hid (par_num HWS.out (Or.inr rfl) (HX.out.2.2) HV2.out)
    have R3 := Lib.hid (R2.out.keep B3.out)
    have BW3 := Lib.hid (BW1.out.trans (B3.out.mono BW1.out.size))
    obtain ⟨⟨r0, r1, r2, r3⟩, s0, s1, s2, s3⟩ := whole4 R3.out
    have hRl3 := R3.out.lt
    clear y1 h1m h2m
    go_wp2_with fail
    refine bodyPost_ret (v := .tuple #[.agg #[.string ⟨#[]⟩, .int .i64 0, .int .i64 0, .slice none 0 0], .int .i64 10]) ?_ rfl ?_
    · simp [results, Tryz.results103, go_sem, r0, r1, r2, r3]
    · exact parseF_zero HB.out ((((BW3.out.setCell (p := ⟨w.heap.size, 0, none⟩) (Nat.le_refl _) _).setCell (p := ⟨w.heap.size, 1, none⟩) (Nat.le_refl _) _).setCell (p := ⟨w.heap.size, 2, none⟩) (Nat.le_refl _) _).setCell (p := ⟨w.heap.size, 3, none⟩) (Nat.le_refl _) _)
  · have HB := Lib.hid (par_num HWS.out (Or.inl rfl) (HX.out.2.1) HV1.out)
    have R3 := Lib.hid (R2.out.keep B3.out)
    have BW3 := Lib.hid (BW1.out.trans (B3.out.mono BW1.out.size))
    obtain ⟨⟨r0, r1, r2, r3⟩, s0, s1, s2, s3⟩ := whole4 R3.out
    have hRl3 := R3.out.lt
    clear y1 h1m h2m
    go_wp2_with fail
    refine bodyPost_ret (v := .tuple #[.agg #[.string ⟨#[]⟩, .int .i64 0, .int .i64 0, .slice none 0 0], .int .i64 10]) ?_ rfl ?_
    · simp [results, Tryz.results103, go_sem, r0, r1, r2, r3]
    · exact parseF_zero HB.out ((((BW3.out.setCell (p := ⟨w.heap.size, 0, none⟩) (Nat.le_refl _) _).setCell (p := ⟨w.heap.size, 1, none⟩) (Nat.le_refl _) _).setCell (p := ⟨w.heap.size, 2, none⟩) (Nat.le_refl _) _).setCell (p := ⟨w.heap.size, 3, none⟩) (Nat.le_refl _) _)
  · have HB := Lib.hid (par_num HWS.out (Or.inl rfl) (HX.out.2.1) HV1.out)
    have R3 := Lib.hid (R2.out.keep B3.out)
    have BW3 := Lib.hid (BW1.out.trans (B3.out.mono BW1.out.size))
    obtain ⟨⟨r0, r1, r2, r3⟩, s0, s1, s2, s3⟩ := whole4 R3.out
    have hRl3 := R3.out.lt
    clear y1 h1m h2m
    go_wp2_with fail
    refine bodyPost_ret (v := .tuple #[.agg #[.string ⟨#[]⟩, .int .i64 0, .int .i64 0, .slice none 0 0], .int .i64 10]) ?_ rfl ?_
    · simp [results, Tryz.results103, go_sem, r0, r1, r2, r3]
    · exact parseF_zero HB.out ((((BW3.out.setCell (p := ⟨w.heap.size, 0, none⟩) (Nat.le_refl _) _).setCell (p := ⟨w.heap.size, 1, none⟩) (Nat.le_refl _) _).setCell (p := ⟨w.heap.size, 2, none⟩) (Nat.le_refl _) _).setCell (p := ⟨w.heap.size, 3, none⟩) (Nat.le_refl _) _)
  have R3 := Lib.hid (R2.out.keep B3.out)
  have BW3 := Lib.hid (BW1.out.trans (B3.out.mono BW1.out.size))
  have HE3 := Lib.hid (HE.out.keep BW3.out)
  have SL3 : Hid (SlW w3 (some ⟨G, 3, none⟩) (ws.drop 3)) := Lib.hid (fun k x hx => by
    rw [List.getElem?_drop] at hx
    obtain ⟨g, o, e, h⟩ := HSL.out.keep B3.out (3 + k) x hx
    cases e
    exact ⟨G, 3, rfl, by rw [show 3 + k = 0 + (3 + k) by omega]; exact h⟩)
  have SA : Hid (w3.drew.cell? ⟨G, 0, none⟩ = some (.string x0) ∧ Below w3.heap.size w3 w3.drew) := Lib.hid ⟨bcell (w' := w3) HY0.out B3.out, (Below.refl _ _).drew⟩
  clear y1 y2 h1m h2m HY0
  go_upto_region 8 with fail
  go_cut [9] from 39 (fun s9 wx => ∃ (D c9 : Nat) (A9 : Option Addr) (xs : List Sp), s9 = .pointer (some ⟨D, 0, none⟩) ∧ Hid (Whole wx D 32 #[.string x0, .int .i64 v1, .int .i64 v2, .slice A9 (m - 3) c9] ∧ xs.length = m - 3 ∧ StepsK (ws.drop 3) xs ∧ SlD wx A9 xs ∧ m - 3 ≤ c9 ∧ Below w3.heap.size w3 wx ∧ ∀ a : Addr, A9 = some a → w3.heap.size ≤ a.block))
  case first =>
    have h3m : (3 : Int) ≤ (m : Int) := by omega
    have h3c : 3 ≤ c := by omega
    have h0m : 0 < m := by omega
    have h3n : 3 ≤ m := by omega
    go_wp2_with fail
    refine wp_region_held_drew (S := fun wx => wx.cell? ⟨G, 0, none⟩ = some (.string x0) ∧ Below w3.heap.size w3 wx) (by kernel_rfl) SA.out (fun hHeld => ?_)
    refine wpAnyH_take (i := 0) (v := ?_) rfl (by kernel_rfl) (by kernel_rfl) (by kernel_rfl) (fun _ _ _ h => h) (Or.inl ⟨by rfl, ?_⟩) (by assumption) ?_
    rotate_left
    · intro w hSw
      go_simp
      try with_reducible rfl
    simp only [Act.put, List.getElem_toArray, List.getElem_cons_zero, List.setIfInBounds_toArray, List.set_cons_zero, List.set_cons_succ]
    refine wpAnyH_take (i := 1) (v := ?_) rfl (by kernel_rfl) (by kernel_rfl) (by kernel_rfl) (fun _ _ _ h => h) (Or.inl ⟨by rfl, ?_⟩) (by assumption) ?_
    rotate_left
    · intro w hSw
      go_simp
      try with_reducible rfl
    simp only [Act.put, List.getElem_toArray, List.getElem_cons_succ, List.getElem_cons_zero, List.setIfInBounds_toArray, List.set_cons_zero, List.set_cons_succ]
    refine wpAnyH_take (i := 2) (v := ?_) rfl (by kernel_rfl) (by kernel_rfl) (by kernel_rfl) (fun _ _ _ h => h) (Or.inl ⟨by rfl, ?_⟩) (by assumption) ?_
    rotate_left
    · intro w hSw
      go_simp
      try with_reducible rfl
    simp only [Act.put, List.getElem_toArray, List.getElem_cons_succ, List.getElem_cons_zero, List.setIfInBounds_toArray, List.set_cons_zero, List.set_cons_succ]
    refine wpAnyH_take (i := 3) (v := ?_) rfl (by kernel_rfl) (by kernel_rfl) (by kernel_rfl) (fun _ _ _ h => h) (Or.inl ⟨by rfl, ?_⟩) (by assumption) ?_
    rotate_left
    · intro w hSw
      go_simp
      try with_reducible rfl
    simp only [Act.put, List.getElem_toArray, List.getElem_cons_succ, List.getElem_cons_zero, List.setIfInBounds_toArray, List.set_cons_zero, List.set_cons_succ]
    refine wpAnyH_take (i := 4) (v := ?_) rfl (by kernel_rfl) (by kernel_rfl) (by kernel_rfl) (fun _ _ _ h => h) (Or.inl ⟨by rfl, ?_⟩) (by assumption) ?_
    rotate_left
    · intro w hSw
      go_simp
      try with_reducible rfl
    simp only [Act.put, List.getElem_toArray, List.getElem_cons_succ, List.getElem_cons_zero, List.setIfInBounds_toArray, List.set_cons_zero, List.set_cons_succ]
    refine wpAnyH_take (i := 5) (v := ?_) rfl (by kernel_rfl) (by kernel_rfl) (by kernel_rfl) (fun _ _ _ h => h) (Or.inl ⟨by rfl, ?_⟩) (by assumption) ?_
    rotate_left
    · intro w hSw
      go_simp
      try with_reducible rfl
    simp only [Act.put, List.getElem_toArray, List.getElem_cons_succ, List.getElem_cons_zero, List.setIfInBounds_toArray, List.set_cons_zero, List.set_cons_succ]
    refine wpAnyH_take (i := 6) (v := ?_) rfl (by kernel_rfl) (by kernel_rfl) (by kernel_rfl) (fun _ _ _ h => h) (Or.inl ⟨by rfl, ?_⟩) (by assumption) ?_
    rotate_left
    · intro w hSw
      go_simp
      try with_reducible rfl
    simp only [Act.put, List.getElem_toArray, List.getElem_cons_succ, List.getElem_cons_zero, List.setIfInBounds_toArray, List.set_cons_zero, List.set_cons_succ]
    have HWD : Hid ((ws.drop 3).length = m - 3) := Lib.hid (by rw [List.length_drop, HWM.out])
    have HZD : Hid (∀ x ∈ ws.drop 3, x.size ≤ 1000000) := Lib.hid (fun x hx => HSZ.out x (List.mem_of_mem_drop hx))
    have hGl : G < w3.heap.size := lt_cell SA.out.1
    have hc3 : ¬ c = 3 := by omega
    refine wpAnyH_ready (rs := [7, 10]) (by kernel_rfl) (by simp) ?_
    refine AllReadyH.cons rfl (fun K hK => ?_) (AllReadyH.cons rfl (fun K hK => ?_) AllReadyH.nil)
    · go_simp
      refine (steps_any (some ⟨G, 3, none⟩) (m - 3) (c - 3) _).mono ?_
      rintro e w6 ⟨⟨Bx, rfl, hbx⟩, hb6⟩
      try go_wp2_with fail
      refine hK.out _ _ ?_ (fun hHeld' => ?_)
      · exact ⟨bcell hHeld.1 hb6, hHeld.2.trans (hb6.mono hHeld.2.size)⟩
      clear hK K hHeld
      have hHeld := hHeld'
      clear hHeld'
      try simp only [Act.put, List.getElem_toArray, List.getElem_cons_succ, List.getElem_cons_zero, List.setIfInBounds_toArray, List.set_cons_zero, List.set_cons_succ]
      have h6 := hHeld.2.size
      refine wpAnyH_ready (rs := [8, 10]) (by kernel_rfl) (by simp) ?_
      refine AllReadyH.cons rfl (fun K hK => ?_) (AllReadyH.cons rfl (fun K hK => ?_) AllReadyH.nil)
      · go_simp
        refine (collect_any (some ⟨G, 3, none⟩) (m - 3) (c - 3) Bx (ws.drop 3) _ (HE3.out.keep hHeld.2) hbx (SL3.out.keep hHeld.2) HWD.out (by omega) HZD.out).mono ?_
        rintro e w7 ⟨⟨v, xs, rfl, hl, hk, ho⟩, hb7⟩
        obtain ⟨A9, c9, rfl, hc9⟩ := own_slice2 ho
        have hbs := hHeld.2.size
        try go_wp2_with fail
        refine hK.out _ _ ?_ (fun hHeld' => ?_)
        · exact ⟨bcell hHeld.1 hb7, hHeld.2.trans (hb7.mono hHeld.2.size)⟩
        clear hK K hHeld
        have hHeld := hHeld'
        clear hHeld'
        try simp only [Act.put, List.getElem_toArray, List.getElem_cons_succ, List.getElem_cons_zero, List.setIfInBounds_toArray, List.set_cons_zero, List.set_cons_succ]
        have h7 := Lib.hid hHeld
        refine wpAnyH_take (i := 9) (v := ?_) rfl (by kernel_rfl) (by kernel_rfl) (by kernel_rfl) (fun _ _ _ h => h) (Or.inl ⟨by rfl, ?_⟩) (by assumption) ?_
        rotate_left
        · intro w hSw
          go_simp
          try with_reducible rfl
        simp only [Act.put, List.getElem_toArray, List.getElem_cons_succ, List.getElem_cons_zero, List.setIfInBounds_toArray, List.set_cons_zero, List.set_cons_succ]
        refine wpAnyH_ready (rs := [10]) (by kernel_rfl) (by simp) ?_
        refine AllReadyH.cons rfl (fun K hK => ?_) AllReadyH.nil
        go_simp
        refine hK.out _ _ ?_ (fun hHeld' => ?_)
        · exact ⟨acell _ hHeld.1, hHeld.2.alloc hHeld.2.size _⟩
        clear hK K hHeld
        have hHeld := hHeld'
        clear hHeld'
        try simp only [Act.put, List.getElem_toArray, List.getElem_cons_succ, List.getElem_cons_zero, List.setIfInBounds_toArray, List.set_cons_zero, List.set_cons_succ]
        refine wpAnyH_ready (rs := [11]) (by kernel_rfl) (by simp) ?_
        refine AllReadyH.cons rfl (fun K hK => ?_) AllReadyH.nil
        go_simp
        refine hK.out _ _ ?_ (fun hHeld' => ?_)
        · exact ⟨acell _ h7.out.1, h7.out.2.alloc h7.out.2.size _⟩
        clear hK K hHeld
        have hHeld := hHeld'
        clear hHeld'
        try simp only [Act.put, List.getElem_toArray, List.getElem_cons_succ, List.getElem_cons_zero, List.setIfInBounds_toArray, List.set_cons_zero, List.set_cons_succ]
        refine wpAnyH_done (by kernel_rfl) ?_ _
        have HF := Lib.hid (prs_new (x0 := x0) (v1 := v1) (v2 := v2) ho hl hk hc9 h7.out.2 hbs)
        clear hHeld SA ho
        go_wp2_with fail
        go_meet
        case rel => exact ⟨_, _, _, _, rfl, HF⟩
      · have hN := Whole.new w6 32 #[.string ⟨#[]⟩, .int .i64 0, .int .i64 0, .slice none 0 0]
        go_simp
        refine hK.out _ _ ?_ (fun hHeld' => ?_)
        · exact ⟨acell _ hHeld.1, hHeld.2.alloc hHeld.2.size _⟩
        clear hK K hHeld
        have hHeld := hHeld'
        clear hHeld'
        try simp only [Act.put, List.getElem_toArray, List.getElem_cons_succ, List.getElem_cons_zero, List.setIfInBounds_toArray, List.set_cons_zero, List.set_cons_succ]
        refine wpAnyH_ready (rs := [8]) (by kernel_rfl) (by simp) ?_
        refine AllReadyH.cons rfl (fun K hK => ?_) AllReadyH.nil
        go_simp
        refine (collect_any (some ⟨G, 3, none⟩) (m - 3) (c - 3) Bx (ws.drop 3) _ (HE3.out.keep hHeld.2) (hbx.alloc _) (SL3.out.keep hHeld.2) HWD.out (by omega) HZD.out).mono ?_
        rintro e w7 ⟨⟨v, xs, rfl, hl, hk, ho⟩, hb7⟩
        obtain ⟨A9, c9, rfl, hc9⟩ := own_slice2 ho
        have hbs := hHeld.2.size
        have N7 := hN.keep hb7
        obtain ⟨⟨n0, n1, n2, n3⟩, g0, g1, g2, g3⟩ := whole4 N7
        try go_wp2_with fail
        refine hK.out _ _ ?_ (fun hHeld' => ?_)
        · exact ⟨bcell hHeld.1 hb7, hHeld.2.trans (hb7.mono hHeld.2.size)⟩
        clear hK K hHeld
        have hHeld := hHeld'
        clear hHeld'
        try simp only [Act.put, List.getElem_toArray, List.getElem_cons_succ, List.getElem_cons_zero, List.setIfInBounds_toArray, List.set_cons_zero, List.set_cons_succ]
        have h7 := Lib.hid hHeld
        refine wpAnyH_take (i := 9) (v := ?_) rfl (by kernel_rfl) (by kernel_rfl) (by kernel_rfl) (fun _ _ _ h => h) (Or.inl ⟨by rfl, ?_⟩) (by assumption) ?_
        rotate_left
        · intro w hSw
          go_simp
          try with_reducible rfl
        simp only [Act.put, List.getElem_toArray, List.getElem_cons_succ, List.getElem_cons_zero, List.setIfInBounds_toArray, List.set_cons_zero, List.set_cons_succ]
        refine wpAnyH_ready (rs := [11]) (by kernel_rfl) (by simp) ?_
        refine AllReadyH.cons rfl (fun K hK => ?_) AllReadyH.nil
        go_simp
        refine hK.out _ _ ?_ (fun hHeld' => ?_)
        · exact ⟨gcell hHeld.1 (put4_grown _ _ _ _ _ _) (by simp; omega), hHeld.2.grown (put4_grown _ _ _ _ _ _) hHeld.2.size (fun k e => by cases e; omega)⟩
        clear hK K hHeld
        have hHeld := hHeld'
        clear hHeld'
        try simp only [Act.put, List.getElem_toArray, List.getElem_cons_succ, List.getElem_cons_zero, List.setIfInBounds_toArray, List.set_cons_zero, List.set_cons_succ]
        refine wpAnyH_done (by kernel_rfl) ?_ _
        have HF := Lib.hid (prs_put x0 v1 v2 ho hl hk hc9 h7.out.2 N7 h6 hbs)
        clear hHeld SA ho
        go_wp2_with fail
        go_meet
        case rel => exact ⟨_, _, _, _, rfl, HF⟩
    · have hN : Whole (w3.drew.alloc (.cells #[.string ⟨#[]⟩, .int .i64 0, .int .i64 0, .slice none 0 0] 32)) w3.heap.size 32 #[.string ⟨#[]⟩, .int .i64 0, .int .i64 0, .slice none 0 0] := Whole.new w3.drew _ _
      go_simp
      refine hK.out _ _ ?_ (fun hHeld' => ?_)
      · exact ⟨acell _ hHeld.1, hHeld.2.alloc hHeld.2.size _⟩
      clear hK K hHeld
      have hHeld := hHeld'
      clear hHeld'
      try simp only [Act.put, List.getElem_toArray, List.getElem_cons_succ, List.getElem_cons_zero, List.setIfInBounds_toArray, List.set_cons_zero, List.set_cons_succ]
      refine wpAnyH_ready (rs := [7]) (by kernel_rfl) (by simp) ?_
      refine AllReadyH.cons rfl (fun K hK => ?_) AllReadyH.nil
      go_simp
      refine (steps_any (some ⟨G, 3, none⟩) (m - 3) (c - 3) _).mono ?_
      rintro e w6 ⟨⟨Bx, rfl, hbx⟩, hb6⟩
      try go_wp2_with fail
      refine hK.out _ _ ?_ (fun hHeld' => ?_)
      · exact ⟨bcell hHeld.1 hb6, hHeld.2.trans (hb6.mono hHeld.2.size)⟩
      clear hK K hHeld
      have hHeld := hHeld'
      clear hHeld'
      try simp only [Act.put, List.getElem_toArray, List.getElem_cons_succ, List.getElem_cons_zero, List.setIfInBounds_toArray, List.set_cons_zero, List.set_cons_succ]
      have h6 := hHeld.2.size
      have hN := hN.keep hb6
      refine wpAnyH_ready (rs := [8]) (by kernel_rfl) (by simp) ?_
      refine AllReadyH.cons rfl (fun K hK => ?_) AllReadyH.nil
      go_simp
      refine (collect_any (some ⟨G, 3, none⟩) (m - 3) (c - 3) Bx (ws.drop 3) _ (HE3.out.keep hHeld.2) hbx (SL3.out.keep hHeld.2) HWD.out (by omega) HZD.out).mono ?_
      rintro e w7 ⟨⟨v, xs, rfl, hl, hk, ho⟩, hb7⟩
      obtain ⟨A9, c9, rfl, hc9⟩ := own_slice2 ho
      have hbs := hHeld.2.size
      have N7 := hN.keep hb7
      obtain ⟨⟨n0, n1, n2, n3⟩, g0, g1, g2, g3⟩ := whole4 N7
      try go_wp2_with fail
      refine hK.out _ _ ?_ (fun hHeld' => ?_)
      · exact ⟨bcell hHeld.1 hb7, hHeld.2.trans (hb7.mono hHeld.2.size)⟩
      clear hK K hHeld
      have hHeld := hHeld'
      clear hHeld'
      try simp only [Act.put, List.getElem_toArray, List.getElem_cons_succ, List.getElem_cons_zero, List.setIfInBounds_toArray, List.set_cons_zero, List.set_cons_succ]
      have h7 := Lib.hid hHeld
      refine wpAnyH_take (i := 9) (v := ?_) rfl (by kernel_rfl) (by kernel_rfl) (by kernel_rfl) (fun _ _ _ h => h) (Or.inl ⟨by rfl, ?_⟩) (by assumption) ?_
      rotate_left
      · intro w hSw
        go_simp
        try with_reducible rfl
      simp only [Act.put, List.getElem_toArray, List.getElem_cons_succ, List.getElem_cons_zero, List.setIfInBounds_toArray, List.set_cons_zero, List.set_cons_succ]
      refine wpAnyH_ready (rs := [11]) (by kernel_rfl) (by simp) ?_
      refine AllReadyH.cons rfl (fun K hK => ?_) AllReadyH.nil
      go_simp
      refine hK.out _ _ ?_ (fun hHeld' => ?_)
      · exact ⟨gcell hHeld.1 (put4_grown _ _ _ _ _ _) (by simp; omega), hHeld.2.grown (put4_grown _ _ _ _ _ _) hHeld.2.size (fun k e => by cases e; omega)⟩
      clear hK K hHeld
      have hHeld := hHeld'
      clear hHeld'
      try simp only [Act.put, List.getElem_toArray, List.getElem_cons_succ, List.getElem_cons_zero, List.setIfInBounds_toArray, List.set_cons_zero, List.set_cons_succ]
      refine wpAnyH_done (by kernel_rfl) ?_ _
      have HF := Lib.hid (prs_put x0 v1 v2 ho hl hk hc9 h7.out.2 N7 (Nat.le_refl _) hbs)
      clear hHeld SA ho
      go_wp2_with fail
      go_meet
      case rel => exact ⟨_, _, _, _, rfl, HF⟩
  case rest =>
    obtain ⟨D, c9, A9, xs, rfl, HF⟩ := hcut
    have HD : Hid (DefAt wc A9 (m - 3) c9 ⟨x0, v1, v2, xs⟩) := Lib.hid ⟨HF.out.2.1, HF.out.2.2.2.2.1, by omega, ⟨by have := HSZ.out x0 (List.mem_of_getElem? HX.out.1); show x0.size ≤ _; omega, Lib.atoiAll_bounds HV1.out, Lib.atoiAll_bounds HV2.out, fun i p hi => by
      have hlt := (List.getElem?_eq_some_iff.1 hi).1
      have hlt2 : i < (ws.drop 3).length := by rw [List.length_drop, HWM.out]; have : xs.length = m - 3 := HF.out.2.1; have : i < xs.length := hlt; omega
      exact (HF.out.2.2.1 i _ p (List.getElem?_eq_getElem hlt2) hi).2⟩, HF.out.2.2.2.1⟩
    have BC := Lib.hid (BW3.out.trans (HF.out.2.2.2.2.2.1.mono BW3.out.size))
    have TX := Lib.hid (defText_any _ _ _ _ wc HD.out (HE.out.keep BC.out))
    have RC := Lib.hid (R3.out.keep HF.out.2.2.2.2.2.1)
    have PD := Lib.hid (fun (d0 : Dv) (h0 : defOk d0) (h1 : textD d0 = s.data.toList) => par_d HWS.out HX.out.1 HX.out.2.1 HX.out.2.2 HV1.out HV2.out (by rw [List.length_drop, HWM.out]; exact HF.out.2.1) HF.out.2.2.1 h0 h1)
    obtain ⟨⟨n0, n1, n2, n3⟩, _⟩ := whole4 HF.out.1
    have HAD : Hid (∀ a : Addr, A9 = some a → (xs : List Sp) ≠ [] → some a.block ≠ some w.heap.size) := Lib.hid (fun a ea _ e => by have h1 := HF.out.2.2.2.2.2.2 a ea; have h2 := R3.out.lt; injection e with e; omega)
    have HA9 : Hid (∀ a : Addr, A9 = some a → (xs : List Sp) ≠ [] → some a.block ≠ some w.heap.size) := Lib.hid (HAD.out)
    have HFR : Hid (∀ a : Addr, A9 = some a → w.heap.size ≤ a.block) := Lib.hid (fun a ea => Nat.le_trans BW3.out.size (HF.out.2.2.2.2.2.2 a ea))
    unfold dV at TX
    clear SA SL3 hlen
    by_cases hok : defOk ⟨x0, v1, v2, xs⟩
    · have TX1 := Lib.hid (TX.out.mono (fun e w' ⟨h, hb⟩ => And.intro (h.resolve_right (fun h => h.1 hok)).2 hb))
      by_cases ht : textD ⟨x0, v1, v2, xs⟩ = s.data.toList
      · rw [ht, ba_eta] at TX1
        have PR : Hid (ParR s.data.toList ⟨x0, v1, v2, xs⟩ 0) := Lib.hid (Or.inl ⟨rfl, hok, ht⟩)
        clear ht hok
        go_upto_region 10 with (go_at_call 56; refine TX1.out.mono ?_; rintro e w5 ⟨rfl, hb5⟩)
        have B5 := Lib.hid (BC.out.trans (hb5.mono BC.out.size))
        have HB5 := Lib.hid hb5
        have R5 := Lib.hid (RC.out.keep hb5)
        obtain ⟨⟨r0, r1, r2, r3⟩, s0, s1, s2, s3⟩ := whole4 R5.out
        obtain ⟨⟨n0, n1, n2, n3⟩, _⟩ := whole4 (HF.out.1.keep hb5)
        have hR5 := R5.out.lt
        clear hb5
        go_wp2_with fail
        refine bodyPost_ret (v := .tuple #[.agg #[.string x0, .int .i64 v1, .int .i64 v2, .slice A9 (m - 3) c9], .int .i64 0]) ?_ rfl ?_
        · simp [results, Tryz.results103, go_sem, r0, r1, r2, r3]
        · have D5 := HD.out.keep (show Below wc.heap.size wc w5 from HB5.out)
          exact ⟨⟨⟨x0, v1, v2, xs⟩, A9, m - 3, c9, 0, rfl, PR.out, D5.grown (put4_grown _ _ _ _ _ _) (fun a ea hne => HA9.out a ea hne), HFR.out⟩, ((((B5.out.setCell (p := ⟨w.heap.size, 0, none⟩) (Nat.le_refl _) _).setCell (p := ⟨w.heap.size, 1, none⟩) (Nat.le_refl _) _).setCell (p := ⟨w.heap.size, 2, none⟩) (Nat.le_refl _) _).setCell (p := ⟨w.heap.size, 3, none⟩) (Nat.le_refl _) _)⟩
      · have hne : ((⟨(textD ⟨x0, v1, v2, xs⟩).toArray⟩ : ByteArray).toList == s.toList) = false := key_ne.2 (fun e => ht (by rw [← e]))
        have HB : Hid (∀ d0, defOk d0 → textD d0 ≠ s.data.toList) := Lib.hid (fun d0 h0 h1 => ht (by rw [PD.out d0 h0 h1]; exact h1))
        generalize (⟨(textD ⟨x0, v1, v2, xs⟩).toArray⟩ : ByteArray) = tb at TX1 hne
        clear ht hok
        go_upto_region 10 with (go_at_call 56; refine TX1.out.mono ?_; rintro e w5 ⟨rfl, hb5⟩)
        have B5 := Lib.hid (BC.out.trans (hb5.mono BC.out.size))
        have R5 := Lib.hid (RC.out.keep hb5)
        obtain ⟨⟨r0, r1, r2, r3⟩, s0, s1, s2, s3⟩ := whole4 R5.out
        obtain ⟨⟨n0, n1, n2, n3⟩, _⟩ := whole4 (HF.out.1.keep hb5)
        have hR5 := R5.out.lt
        clear hb5
        go_wp2_with fail
        refine bodyPost_ret (v := .tuple #[.agg #[.string ⟨#[]⟩, .int .i64 0, .int .i64 0, .slice none 0 0], .int .i64 10]) ?_ rfl ?_
        · simp [results, Tryz.results103, go_sem, r0, r1, r2, r3]
        · exact parseF_zero HB.out ((((B5.out.setCell (p := ⟨w.heap.size, 0, none⟩) (Nat.le_refl _) _).setCell (p := ⟨w.heap.size, 1, none⟩) (Nat.le_refl _) _).setCell (p := ⟨w.heap.size, 2, none⟩) (Nat.le_refl _) _).setCell (p := ⟨w.heap.size, 3, none⟩) (Nat.le_refl _) _)
    · have TX1 := Lib.hid (TX.out.mono (fun e w' ⟨h, hb⟩ => And.intro (h.resolve_left (fun h => hok h.1)).2 hb))
      have HB : Hid (∀ d0, defOk d0 → textD d0 ≠ s.data.toList) := Lib.hid (fun d0 h0 h1 => hok (by rw [PD.out d0 h0 h1]; exact h0))
      clear hok
      go_upto_region 10 with (go_at_call 56; refine TX1.out.mono ?_; rintro e w5 ⟨rfl, hb5⟩)
      have B5 := Lib.hid (BC.out.trans (hb5.mono BC.out.size))
      have R5 := Lib.hid (RC.out.keep hb5)
      obtain ⟨⟨r0, r1, r2, r3⟩, s0, s1, s2, s3⟩ := whole4 R5.out
      obtain ⟨⟨n0, n1, n2, n3⟩, _⟩ := whole4 (HF.out.1.keep hb5)
      have hR5 := R5.out.lt
      clear hb5
      go_wp2_with fail
      refine bodyPost_ret (v := .tuple #[.agg #[.string ⟨#[]⟩, .int .i64 0, .int .i64 0, .slice none 0 0], .int .i64 10]) ?_ rfl ?_
      · simp [results, Tryz.results103, go_sem, r0, r1, r2, r3]
      · exact parseF_zero HB.out ((((B5.out.setCell (p := ⟨w.heap.size, 0, none⟩) (Nat.le_refl _) _).setCell (p := ⟨w.heap.size, 1, none⟩) (Nat.le_refl _) _).setCell (p := ⟨w.heap.size, 2, none⟩) (Nat.le_refl _) _).setCell (p := ⟨w.heap.size, 3, none⟩) (Nat.le_refl _) _)
theorem defParse_any (s : ByteArray) (w : World) (hs : s.size ≤ 1000000) (hE : DfE w) :
    Calls Tryz.prog 103 #[.string s] w fun e w' => ParseR s.data.toList w w' e :=
  (defParseF_any s w hs hE).mono (fun _ _ ⟨⟨d, A, n, c, er, h1, h2, h3, _⟩, hb⟩ => ⟨⟨d, A, n, c, er, h1, h2, h3⟩, hb⟩)
end
end Go.Proofs.YtojodekmmkemgaaGreatDoor
