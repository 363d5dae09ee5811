/- A loop over an iterator whose own variable is made anew in each round: the loop's law. No condition. -/
import Derived.Test.YtgeljnjcpkmlmaaGreatDoorSeqM
import Derived.Maps.OwnIn
namespace Go.Proofs.YtgeljnjcpkmlmaaGreatDoor
open Go.RowKit

theorem rangeA {α : Type} {F : Fence} {n : Nat} {P : Program} {g : Operand} {ps : Array Tmp} {assign body : Code} {Q : Exit → Act → World → Prop} {a : Act} {w : World}
    (hro : F.round = none) (h1 : 1 ≤ n) {gf : Nat} {lb : Array Value} (hg : a.eval g = .func (.func gf) #[] lb) (hFg : F.fn gf) (eg : ∀ args w, (callFunc gf args).run P w = .ok (.enter gf args) w)
    {encs : α → Array Value} {Mv Kp : World → World → Prop} {S Sp : List α → Prop} {N : Nat} {w0 : World} (hseq : SeqM F (n - 1) P gf lb encs Mv Kp S Sp N w0)
    (hMv : ∀ (A B : World) (i : Nat) (o : Obj), Mv A B → A.heap[i]? = some o → o.isCells = false → B.heap[i]? = some o)
    (hKt : ∀ {A B C : World}, Kp A B → Kp B C → Kp A C) (hKb : ∀ (W : World) (l : Nat) (o o' : Obj), w.heap.size ≤ l → W.heap[l]? = some o → o.isCells = false → o.isWalk = false → Kp W (W.putObj l o')) (hb0 : Below w0.heap.size w0 w) (hps : ∀ x, (encs x).size = ps.size)
    (I : List α → World → Prop) (Ix : Code → List α → World → Prop) (hI : OwnFrom w.heap.size I) (hIx : ∀ c, OwnFrom w.heap.size (Ix c)) (hIM : ∀ s A B, I s A → Mv A B → I s B) (hIxM : ∀ c s A B, Ix c s A → Mv A B → Ix c s B) (h0 : I [] w) (V : α → Act → World → Prop) (hV : ∀ x a2, OwnFrom w.heap.size (fun (_ : Unit) W => V x a2 W)) (hKa : ∀ A B : World, w.heap.size ≤ A.heap.size → A.grownBy B none → Kp A B)
    (hassign : ∀ (l : Nat) (pre : List α) (x : α) (W : World) (K : Act → World → Prop), I pre W → w.heap.size ≤ W.heap.size → (∀ a2 W2, W.grownBy W2 none → V x a2 W2 → K a2 W2) →
      assign.wpIn (F.inRound l) (n - 1 - 1) P (Exit.then K (fun _ _ _ => False)) { tmps := (ps.zip (encs x)).foldl (fun t (p, v) => t.setIfInBounds p v) a.tmps, defers := [] } W)
    (hbody : ∀ (l : Nat) (pre : List α) (x : α) (a2 : Act) (W : World), I pre W → V x a2 W → pre.length < N → body.wpIn (F.inRound l) (n - 1 - 1) P (ownPostK Kp I Ix (pre ++ [x]) W) a2 W)
    (hdone : ∀ (D : Nat) (xs : List α) (W : World), w.heap.size ≤ D → S xs → I xs W → W.heap[D]? = some (.deferred (some [])) → Q .normal { a with defers := { target := .collected D, args := #[] } :: a.defers } W)
    (hstop : ∀ (D : Nat) (c : Code) (pre : List α) (W : World), w.heap.size ≤ D → Sp pre → Ix c pre W → W.heap[D]? = some (.deferred (some [])) → c.wpIn F n P Q { a with defers := { target := .collected D, args := #[] } :: a.defers } W) :
    (Code.rangeFunc g ps assign body).wpIn F n P Q a w := by
  refine wpIn_rangeFunc (fun fn hfn => ?_)
  rw [hro]
  generalize hD : w.heap.size = D at *
  obtain ⟨rec, hrec⟩ : ∃ rec : LoopState → Option Code → Loop, rec = fun st pe => { state := st, pending := pe, fn, tmps := a.tmps, params := ps, assign, body, defers := D } := ⟨_, rfl⟩
  obtain ⟨W1, hW1⟩ : ∃ W1, (w.alloc (.deferred (some []))).alloc (.loop (rec .ready none)) = W1 := ⟨_, rfl⟩
  have hs1 : D + 2 = W1.heap.size := by rw [← hW1]; simp [hD]
  have bk1 : LoopBk D (rec .ready none) W1 := by
    have e := World.alloc_heap_new (w.alloc (.deferred (some []))) (.loop (rec .ready none))
    rw [World.size_alloc, hD] at e
    have e2 := World.alloc_heap_new w (.deferred (some []))
    rw [hD] at e2
    rw [← hW1]
    exact ⟨e, (Below.heap_alloc _ _ _ (by rw [World.size_alloc, hD]; omega)).trans e2⟩
  have hb1 : Below w0.heap.size w0 W1 := by
    rw [← hW1]
    exact hb0.trans ((((Below.refl _ w).alloc (Nat.le_refl _) _).alloc (by simp) _).mono hb0.size)
  refine ⟨D + 1, [{ target := .collected D, args := #[] }], W1, { target := .fn (.func gf) lb, args := #[.func (.yield (D + 1)) #[] #[]] }, W1, gf, #[.func (.yield (D + 1)) #[] #[]] ++ lb, W1, ?_, ?_, ?_, ?_, fun _ => h1, ?_⟩
  · rw [← hW1, hrec, ← hD]; exact run_enterLoop_outer _ _ _ _ _
  · simp only [resolve, hg]; simp [go_sem]
  · intro f' hf'; simp [Target.leads] at hf'; subst hf'; exact hFg
  · simp [invoke, go_sem, eg]
  have wk : ∀ {A : World} {row : Option Nat}, (∀ r, row = some r → W1.heap.size ≤ r ∧ ∃ o : Obj, A.heap[r]? = some o ∧ o.isWalk = true) → ∀ r, row = some r → D ≤ r ∧ ∃ o : Obj, A.heap[r]? = some o ∧ o.isCells = false := fun hr r e => by
    obtain ⟨hB, o, ho, hw⟩ := hr r e
    exact ⟨by omega, o, ho, Obj.not_cells_of_walk hw⟩
  have mvb : ∀ {r : Loop} {A B : World}, LoopBk D r A → Mv A B → LoopBk D r B := fun h hm => ⟨hMv _ _ _ _ hm h.1 rfl, hMv _ _ _ _ hm h.2 rfl⟩
  refine (hseq (D + 1) (fun pre W => I pre W ∧ LoopBk D (rec .ready none) W) (fun pre W => ∃ c, Ix c pre W ∧ LoopBk D (rec .done (some c)) W) W1 hb1
    (fun s A B row hs hg' hr => ⟨hI s A B row hs.1 hg' (wk hr), hs.2.grown hg' hr⟩) (fun s A B row ⟨c, hc, hk⟩ hg' hr => ⟨c, hIx c s A B row hc hg' (wk hr), hk.grown hg' hr⟩)
    (fun s A B hs hm => ⟨hIM s A B hs.1 hm, mvb hs.2 hm⟩) (fun s A B ⟨c, hc, hk⟩ hm => ⟨c, hIxM c s A B hc hm, mvb hk hm⟩) ?_ ⟨by rw [← hW1]; exact hI.alloc _ (hI.alloc _ h0), bk1⟩).mono ?_
  · rintro pre x W ⟨hi, bk⟩ hlen
    have hy := run_yield (P := P) (args := encs x) bk.1 (by rw [hrec]; exact hps x)
    rw [hrec] at hy
    have hsz : D ≤ W.heap.size := by have := (Array.getElem?_eq_some_iff.1 bk.1).1; omega
    refine ⟨fn, _, assign, body, hy, roundIn_of_wpIn hfn (hassign _ pre x W _ hi hsz (fun a2 W2 hg2 hv2 => ⟨_, run_beginRound (bk.grown (B := D) hg2 (fun k e => by cases e)).1 (by rw [hrec]), ?_⟩))⟩
    have bk' := bk.grown (B := D) hg2 (fun k e => by cases e)
    have bk2 := bk'.put { rec .ready none with state := .busy }
    have k2 : Kp W2 (W2.putObj (D + 1) (.loop { rec .ready none with state := .busy })) := hKb _ _ _ _ (by omega) bk'.1 rfl rfl
    have hi2 : I pre W2 := hI _ _ _ _ hi hg2 (fun k e => by cases e)
    refine wpIn_mono (hbody _ pre x _ _ (hI.putObj _ hi2 (by omega) bk'.1 rfl) ((hV x a2).putObj (s := ()) _ hv2 (by omega) bk'.1 rfl) hlen) ?_
    have fin : ∀ (jump : Option Code) (W3 : World), KeepsOthers (W2.putObj (D + 1) (.loop { rec .ready none with state := .busy })) W3 →
        (Instr.endRound (D + 1) jump).run P W3 = .ok (.bool jump.isNone) (W3.putObj (D + 1) (.loop (rec (if jump.isNone then .ready else .done) jump))) ∧ LoopBk D { rec .ready none with state := .busy } W3 := fun jump W3 hk3 => by
      have b3 := bk2.keeps hk3
      have e := run_endRound (P := P) jump b3.1
      rw [hrec] at e ⊢
      exact ⟨e, by rw [hrec] at b3; exact b3⟩
    have out : ∀ (c : Code) (W3 : World), KeepsOthers (W2.putObj (D + 1) (.loop { rec .ready none with state := .busy })) W3 → Ix c (pre ++ [x]) W3 →
        ∃ v W4, (Instr.endRound (D + 1) (some c)).run P W3 = .ok v W4 ∧ (fun e W' => (e = Ending.returned (.bool true) ∧ (I (pre ++ [x]) W' ∧ LoopBk D (rec .ready none) W') ∧ Kp W W') ∨ (e = .returned (.bool false) ∧ ∃ c, Ix c (pre ++ [x]) W' ∧ LoopBk D (rec .done (some c)) W')) (.returned v) W4 := fun c W3 hk3 hi3 => by
      obtain ⟨e, b3⟩ := fin (some c) W3 hk3
      exact ⟨_, _, e, .inr ⟨rfl, c, (hIx c).putObj _ hi3 (by omega) b3.1 rfl, b3.put _⟩⟩
    rintro e a3 W3 hp
    cases e with
    | normal =>
      obtain ⟨hk3, hkp3, hi3⟩ := hp
      obtain ⟨e, b3⟩ := fin none W3 hk3
      exact ⟨_, _, e, .inl ⟨rfl, ⟨hI.putObj _ hi3 (by omega) b3.1 rfl, b3.put _⟩, hKt (hKa _ _ hsz hg2) (hKt (hKt k2 hkp3) (hKb _ _ _ _ (by omega) b3.1 rfl rfl))⟩⟩
    | ret => exact out .ret W3 hp.1 hp.2
    | exit id => exact out (.exit id) W3 hp.1 hp.2
    | goto t => exact out (.goto t) W3 hp.1 hp.2
    | panic ch => exact hp.elim
    | outgrown => exact hp.elim
  · rintro e W2 ⟨⟨v, rfl⟩, (⟨xs, hS, hi, bk⟩ | ⟨pre, hSp, c, hi, bk⟩)⟩
    · have e := run_endLoop (P := P) bk.1 (by rw [hrec]; simp)
      rw [hrec] at e
      exact ⟨none, _, e, hdone D xs _ (Nat.le_refl _) hS (hI.putObj _ hi (by omega) bk.1 rfl) (bk.put _).2⟩
    · have e := run_endLoop (P := P) bk.1 (by rw [hrec]; simp)
      rw [hrec] at e
      exact ⟨some c, _, e, hstop D c pre _ (Nat.le_refl _) hSp ((hIx c).putObj _ hi (by omega) bk.1 rfl) (bk.put _).2⟩

theorem wpListIn_append_run {F : Fence} {n : Nat} {P : Program} {w : World} {ops : Array Oper} {rest : List Oper} {o : Oper} {a : Act} {Q : Exit → Act → World → Prop}
    (hg : o.guard = none) (s x : Operand) (t : TypeId) (hop : o.op = Op.call { callee := Callee.builtin Builtin.append, args := #[s, x], argTypes := #[t, t] })
    {v xv v' : Value} {w' : World} (hs : a.eval s = v) (hx : a.eval x = xv) (hrun : (Builtin.append_ #[t, t] o.type #[v, xv]).run P w = .ok v' w') (h : wpListIn F n P ops Q rest (a.put o.dst v') w') :
    wpListIn F n P ops Q (o :: rest) a w := by
  refine wpListIn_plain hg fun K hK' => ?_
  unfold Oper.wpIn
  refine ⟨?_, ?_⟩
  · simp [Oper.about, hop, resolve, Target.leads, Sem.run_pure]
  · rw [Oper.semAt_plain F _ _ (by rw [hop]; intro c hc'; cases hc')]
    simp [execOp, hop, resolve, invoke, builtin, hs, hx, hrun, Result.andThen]
    exact hK' _ _ h
end Go.Proofs.YtgeljnjcpkmlmaaGreatDoor
