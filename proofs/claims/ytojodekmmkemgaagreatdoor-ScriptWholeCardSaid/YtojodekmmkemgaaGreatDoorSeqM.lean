/- A loop over an iterator that keeps its place in cells of its own: the loop's law. Mv says what the iterator itself may do to memory. No condition. -/
import Derived.RangeFuncFrom
import Derived.RangeFuncCalls
import Derived.OrdersIn
import Derived.OrdersHeld
import Derived.TacticsIn
namespace Go.Proofs.YtojodekmmkemgaaGreatDoor
open Go.RowKit

/-- What an iterator does that moves memory by Mv between two rounds. -/
def SeqM {α : Type} (F : Fence) (n : Nat) (P : Program) (g : Nat) (lb : Array Value) (encs : α → Array Value) (Mv Kp : World → World → Prop) (S Sp : List α → Prop) (N : Nat) (w : World) : Prop :=
  ∀ (l : Nat) (J Jx : List α → World → Prop) (W : World), Below w.heap.size w W → AbidesFrom W.heap.size J → AbidesFrom W.heap.size Jx → (∀ s A B, J s A → Mv A B → J s B) → (∀ s A B, Jx s A → Mv A B → Jx s B) →
    (∀ pre x W1, J pre W1 → pre.length < N → YieldAt F (n - 1) P l (encs x) W1 fun e W' => (e = .returned (.bool true) ∧ J (pre ++ [x]) W' ∧ Kp W1 W') ∨ (e = .returned (.bool false) ∧ Jx (pre ++ [x]) W')) →
    J [] W → CallsIn F n P g (#[.func (.yield l) #[] #[]] ++ lb) W fun e W' => (∃ v, e = .returned v) ∧ ((∃ xs, S xs ∧ J xs W') ∨ (∃ pre, Sp pre ∧ Jx pre W'))
/-- The loop's own two blocks. -/
def LoopBk (D : Nat) (r : Loop) (W : World) : Prop := W.heap[D + 1]? = some (.loop r) ∧ W.heap[D]? = some (.deferred (some []))
theorem LoopBk.grown {D B : Nat} {r : Loop} {A A' : World} {row : Option Nat} (h : LoopBk D r A) (hg : A.grownBy A' row) (hr : ∀ k, row = some k → B ≤ k ∧ ∃ o : Obj, A.heap[k]? = some o ∧ o.isWalk = true) : LoopBk D r A' :=
  ⟨(grownBy_keeps hg (fun k e => (hr k e).2) h.1 rfl).trans h.1, (grownBy_keeps hg (fun k e => (hr k e).2) h.2 rfl).trans h.2⟩
theorem LoopBk.put {D : Nat} {r : Loop} {A : World} (h : LoopBk D r A) (r' : Loop) : LoopBk D r' (A.putObj (D + 1) (.loop r')) :=
  ⟨World.putObj_heap_same (Array.getElem?_eq_some_iff.1 h.1).1, (World.putObj_heap_other (by omega)).trans h.2⟩
theorem LoopBk.keeps {D : Nat} {r : Loop} {A B : World} (h : LoopBk D r A) (hk : KeepsOthers A B) : LoopBk D r B := ⟨hk.same _ _ h.1 rfl, hk.same _ _ h.2 rfl⟩

theorem rangeM {α : Type} {F : Fence} {n : Nat} {P : Program} {g : Operand} {ps : Array Tmp} {assign body : Code} {Q : Exit → Act → World → Prop} {a : Act} {w : World}
    (hro : F.round = none) (h1 : 1 ≤ n) {gf : Nat} {lb : Array Value} (hg : a.eval g = .func (.func gf) #[] lb) (hFg : F.fn gf) (eg : ∀ args w, (callFunc gf args).run P w = .ok (.enter gf args) w)
    {encs : α → Array Value} {Mv Kp : World → World → Prop} {S Sp : List α → Prop} {N : Nat} {w0 : World} (hseq : SeqM F (n - 1) P gf lb encs Mv Kp S Sp N w0)
    (hMv : ∀ (A B : World) (i : Nat) (o : Obj), Mv A B → A.heap[i]? = some o → o.isCells = false → B.heap[i]? = some o)
    (hKt : ∀ {A B C : World}, Kp A B → Kp B C → Kp A C) (hKb : ∀ (W : World) (l : Nat) (o o' : Obj), w.heap.size ≤ l → W.heap[l]? = some o → o.isCells = false → o.isWalk = false → Kp W (W.putObj l o')) (hb0 : Below w0.heap.size w0 w) (hps : ∀ x, (encs x).size = ps.size)
    (I : List α → World → Prop) (Ix : Code → List α → World → Prop) (hI : OwnFrom w.heap.size I) (hIx : ∀ c, OwnFrom w.heap.size (Ix c)) (hIM : ∀ s A B, I s A → Mv A B → I s B) (hIxM : ∀ c s A B, Ix c s A → Mv A B → Ix c s B) (h0 : I [] w) (act : α → Act)
    (hassign : ∀ (l : Nat) (x : α) (W : World) (K : Act → World → Prop), K (act x) W →
      assign.wpIn (F.inRound l) (n - 1 - 1) P (Exit.then K (fun _ _ _ => False)) { tmps := (ps.zip (encs x)).foldl (fun t (p, v) => t.setIfInBounds p v) a.tmps, defers := [] } W)
    (hbody : ∀ (l : Nat) (pre : List α) (x : α) (W : World), I pre W → pre.length < N → body.wpIn (F.inRound l) (n - 1 - 1) P (ownPostK Kp I Ix (pre ++ [x]) W) (act x) W)
    (hdone : ∀ (D : Nat) (xs : List α) (W : World), w.heap.size ≤ D → S xs → I xs W → W.heap[D]? = some (.deferred (some [])) → Q .normal { a with defers := { target := .collected D, args := #[] } :: a.defers } W)
    (hstop : ∀ (D : Nat) (c : Code) (pre : List α) (W : World), w.heap.size ≤ D → Sp pre → Ix c pre W → W.heap[D]? = some (.deferred (some [])) → c.wpIn F n P Q { a with defers := { target := .collected D, args := #[] } :: a.defers } W) :
    (Code.rangeFunc g ps assign body).wpIn F n P Q a w := by
  refine wpIn_rangeFunc (fun fn hfn => ?_)
  rw [hro]
  generalize hD : w.heap.size = D at *
  obtain ⟨rec, hrec⟩ : ∃ rec : LoopState → Option Code → Loop, rec = fun st pe => { state := st, pending := pe, fn, tmps := a.tmps, params := ps, assign, body, defers := D } := ⟨_, rfl⟩
  obtain ⟨W1, hW1⟩ : ∃ W1, (w.alloc (.deferred (some []))).alloc (.loop (rec .ready none)) = W1 := ⟨_, rfl⟩
  have hs1 : D + 2 = W1.heap.size := by rw [← hW1]; simp [hD]
  have bk1 : LoopBk D (rec .ready none) W1 := by
    have e := World.alloc_heap_new (w.alloc (.deferred (some []))) (.loop (rec .ready none))
    rw [World.size_alloc, hD] at e
    have e2 := World.alloc_heap_new w (.deferred (some []))
    rw [hD] at e2
    rw [← hW1]
    exact ⟨e, (Below.heap_alloc _ _ _ (by rw [World.size_alloc, hD]; omega)).trans e2⟩
  have hb1 : Below w0.heap.size w0 W1 := by
    rw [← hW1]
    exact hb0.trans ((((Below.refl _ w).alloc (Nat.le_refl _) _).alloc (by simp) _).mono hb0.size)
  refine ⟨D + 1, [{ target := .collected D, args := #[] }], W1, { target := .fn (.func gf) lb, args := #[.func (.yield (D + 1)) #[] #[]] }, W1, gf, #[.func (.yield (D + 1)) #[] #[]] ++ lb, W1, ?_, ?_, ?_, ?_, fun _ => h1, ?_⟩
  · rw [← hW1, hrec, ← hD]; exact run_enterLoop_outer _ _ _ _ _
  · simp only [resolve, hg]; simp [go_sem]
  · intro f' hf'; simp [Target.leads] at hf'; subst hf'; exact hFg
  · simp [invoke, go_sem, eg]
  have wk : ∀ {A : World} {row : Option Nat}, (∀ r, row = some r → W1.heap.size ≤ r ∧ ∃ o : Obj, A.heap[r]? = some o ∧ o.isWalk = true) → ∀ r, row = some r → D ≤ r ∧ ∃ o : Obj, A.heap[r]? = some o ∧ o.isCells = false := fun hr r e => by
    obtain ⟨hB, o, ho, hw⟩ := hr r e
    exact ⟨by omega, o, ho, Obj.not_cells_of_walk hw⟩
  have mvb : ∀ {r : Loop} {A B : World}, LoopBk D r A → Mv A B → LoopBk D r B := fun h hm => ⟨hMv _ _ _ _ hm h.1 rfl, hMv _ _ _ _ hm h.2 rfl⟩
  refine (hseq (D + 1) (fun pre W => I pre W ∧ LoopBk D (rec .ready none) W) (fun pre W => ∃ c, Ix c pre W ∧ LoopBk D (rec .done (some c)) W) W1 hb1
    (fun s A B row hs hg' hr => ⟨hI s A B row hs.1 hg' (wk hr), hs.2.grown hg' hr⟩) (fun s A B row ⟨c, hc, hk⟩ hg' hr => ⟨c, hIx c s A B row hc hg' (wk hr), hk.grown hg' hr⟩)
    (fun s A B hs hm => ⟨hIM s A B hs.1 hm, mvb hs.2 hm⟩) (fun s A B ⟨c, hc, hk⟩ hm => ⟨c, hIxM c s A B hc hm, mvb hk hm⟩) ?_ ⟨by rw [← hW1]; exact hI.alloc _ (hI.alloc _ h0), bk1⟩).mono ?_
  · rintro pre x W ⟨hi, bk⟩ hlen
    have hy := run_yield (P := P) (args := encs x) bk.1 (by rw [hrec]; exact hps x)
    rw [hrec] at hy
    refine ⟨fn, _, assign, body, hy, roundIn_of_wpIn hfn (hassign _ x W _ ⟨_, run_beginRound bk.1 (by rw [hrec]), ?_⟩)⟩
    have bk2 := bk.put { rec .ready none with state := .busy }
    have k2 : Kp W (W.putObj (D + 1) (.loop { rec .ready none with state := .busy })) := hKb _ _ _ _ (by omega) bk.1 rfl rfl
    refine wpIn_mono (hbody _ pre x _ (hI.putObj _ hi (by omega) bk.1 rfl) hlen) ?_
    have fin : ∀ (jump : Option Code) (W3 : World), KeepsOthers (W.putObj (D + 1) (.loop { rec .ready none with state := .busy })) W3 →
        (Instr.endRound (D + 1) jump).run P W3 = .ok (.bool jump.isNone) (W3.putObj (D + 1) (.loop (rec (if jump.isNone then .ready else .done) jump))) ∧ LoopBk D { rec .ready none with state := .busy } W3 := fun jump W3 hk3 => by
      have b3 := bk2.keeps hk3
      have e := run_endRound (P := P) jump b3.1
      rw [hrec] at e ⊢
      exact ⟨e, by rw [hrec] at b3; exact b3⟩
    have out : ∀ (c : Code) (W3 : World), KeepsOthers (W.putObj (D + 1) (.loop { rec .ready none with state := .busy })) W3 → Ix c (pre ++ [x]) W3 →
        ∃ v W4, (Instr.endRound (D + 1) (some c)).run P W3 = .ok v W4 ∧ (fun e W' => (e = Ending.returned (.bool true) ∧ (I (pre ++ [x]) W' ∧ LoopBk D (rec .ready none) W') ∧ Kp W W') ∨ (e = .returned (.bool false) ∧ ∃ c, Ix c (pre ++ [x]) W' ∧ LoopBk D (rec .done (some c)) W')) (.returned v) W4 := fun c W3 hk3 hi3 => by
      obtain ⟨e, b3⟩ := fin (some c) W3 hk3
      exact ⟨_, _, e, .inr ⟨rfl, c, (hIx c).putObj _ hi3 (by omega) b3.1 rfl, b3.put _⟩⟩
    rintro e a3 W3 hp
    cases e with
    | normal =>
      obtain ⟨hk3, hkp3, hi3⟩ := hp
      obtain ⟨e, b3⟩ := fin none W3 hk3
      exact ⟨_, _, e, .inl ⟨rfl, ⟨hI.putObj _ hi3 (by omega) b3.1 rfl, b3.put _⟩, hKt (hKt k2 hkp3) (hKb _ _ _ _ (by omega) b3.1 rfl rfl)⟩⟩
    | ret => exact out .ret W3 hp.1 hp.2
    | exit id => exact out (.exit id) W3 hp.1 hp.2
    | goto t => exact out (.goto t) W3 hp.1 hp.2
    | panic ch => exact hp.elim
    | outgrown => exact hp.elim
  · rintro e W2 ⟨⟨v, rfl⟩, (⟨xs, hS, hi, bk⟩ | ⟨pre, hSp, c, hi, bk⟩)⟩
    · have e := run_endLoop (P := P) bk.1 (by rw [hrec]; simp)
      rw [hrec] at e
      exact ⟨none, _, e, hdone D xs _ (Nat.le_refl _) hS (hI.putObj _ hi (by omega) bk.1 rfl) (bk.put _).2⟩
    · have e := run_endLoop (P := P) bk.1 (by rw [hrec]; simp)
      rw [hrec] at e
      exact ⟨some c, _, e, hstop D c pre _ (Nat.le_refl _) hSp ((hIx c).putObj _ hi (by omega) bk.1 rfl) (bk.put _).2⟩

/-- An operation that is no defer does in a round what it does elsewhere. -/
theorem oper_in {P : Program} {Q : Exit → Act → World → Prop} {o : Oper} {a : Act} {w : World} {K K' : Act → World → Prop} (l n : Nat) (hd : ∀ c, o.op ≠ .defer c) (hK : ∀ a w, K a w → K' a w) (h : o.wp P a w K Q) : o.wpIn (Fence.wide.inRound l) n P a w K' Q := by
  refine ⟨fun _ _ => trivial, ?_⟩
  unfold Oper.wp at h
  rw [Fence.inRound_round, Oper.semAt_some l a.eval o hd]
  have hdep : ∀ X : Prop, ((Fence.wide.inRound l).depth.isSome = true → X) := fun X h => by simp [Fence.wide, Fence.inRound] at h
  cases hr : (execOp a.eval o).run P w with
  | ok x w' =>
    rw [hr] at h
    cases x with
    | value v => exact hK _ _ h
    | skip => exact hK _ _ h
    | defer d => exact hK _ _ h
    | enter f args =>
      refine ⟨hdep _, CallsIn.inRound l (callsIn_wide.2 ?_)⟩
      exact Calls.mono h (fun e w'' he => by cases e <;> first | exact hK _ _ he | exact he)
    | row r args =>
      refine ⟨hdep _, fun c cs _ => ?_⟩
      obtain ⟨v, w'', hv, hs⟩ := h c cs
      exact ⟨v, w'', hK _ _ hv, by rw [fenced_inRound]; exact stepsIn_wide.2 hs⟩
    | _ => exact h.elim
  | halt x w' =>
    rw [hr] at h
    cases x <;> exact h
theorem any_in {P : Program} {md : Region.Mode} {ops : Array Oper} {Q : Exit → Act → World → Prop} (l n : Nat) (hd : ∀ (i : Nat) (o : Oper), ops[i]? = some o → ∀ c, o.op ≠ .defer c) (hq : ¬ LetsOut Q) :
    ∀ (fuel : Nat) (listed : Array Bool) (a : Act) (w : World), wpAny P md ops Q fuel listed a w → wpAnyIn (Fence.wide.inRound l) n P md ops Q fuel listed a w
  | 0, _, _, _, h => h
  | fuel + 1, listed, a, w, h => by
    refine ⟨h.1, fun i hi => ?_⟩
    have hw := h.2 i hi
    unfold wpOp at hw
    unfold wpOpIn
    cases ho : ops[i]? with
    | none => rw [ho] at hw; exact any_in l n hd hq fuel _ _ _ hw
    | some o =>
      rw [ho] at hw
      dsimp only at hw ⊢
      split at hw
      · rename_i hwant
        rw [if_pos hwant]
        rcases hw with hw | hw
        · exact oper_in l n (hd i o ho) (fun a' w' h' => any_in l n hd hq fuel _ _ _ h') hw
        · exact absurd hw.2 hq
      · rename_i hwant
        rw [if_neg hwant]
        exact ⟨fun _ _ => trivial, any_in l n hd hq fuel _ _ _ hw⟩
def noDefer (o : Oper) : Bool := match o.op with | .defer _ => false | _ => true
/-- A region that draws its order, in a round: as elsewhere. -/
theorem region_in {P : Program} {id : Nat} {L : List Oper} {Q : Exit → Act → World → Prop} {a : Act} {w : World} (l n : Nat) (hm : P.follows .mixedOrders = true) (hd : L.all noDefer = true) (hq : ¬ LetsOut Q)
    (h : wpAny P .any L.toArray Q L.toArray.size (Array.replicate L.toArray.size false) a w.drew) : (Code.region id L.toArray true).wpIn (Fence.wide.inRound l) n P Q a w :=
  wpIn_region_any hm (any_in l n (fun i o ho c e => by
    have hmem : o ∈ L := by
      rw [List.getElem?_toArray] at ho
      exact List.mem_of_getElem? ho
    have := List.all_eq_true.1 hd o hmem
    unfold noDefer at this
    rw [e] at this
    cases this) hq _ _ _ _ h)
theorem region_held_in {P : Program} {id : Nat} {L : List Oper} {Q : Exit → Act → World → Prop} {a : Act} {w : World} {S : World → Prop} (l n : Nat) (hm : P.follows .mixedOrders = true) (hd : L.all noDefer = true) (hq : ¬ LetsOut Q) (hS : S w.drew)
    (h : S w.drew → wpAnyH P .any L.toArray Q S L.toArray.size (Array.replicate L.toArray.size false) a w.drew) : (Code.region id L.toArray true).wpIn (Fence.wide.inRound l) n P Q a w :=
  region_in l n hm hd hq (wpAny_of_held _ _ _ _ (h hS))
theorem ownPostK_in {α : Type} {Kp : World → World → Prop} {I : List α → World → Prop} {Ix : Code → List α → World → Prop} {xs : List α} {W : World} : ¬ LetsOut (ownPostK Kp I Ix xs W) := by
  rintro ⟨a, w, h⟩
  exact h
/-- Blocks of cells lie as they lay where blocks that are none turn. -/
theorem cells_same {A B : World} {row : Option Nat} {b : Nat} {cs : Array Value} {t : TypeId} {z : Nat × Nat} (hg : A.grownBy B row) (hr : ∀ r, row = some r → ∃ o : Obj, A.heap[r]? = some o ∧ o.isCells = false) (h : A.heap[b]? = some (.cells cs t z)) : B.heap[b]? = A.heap[b]? :=
  hg.block b (Array.getElem?_eq_some_iff.1 h).1 (fun e => by
    obtain ⟨o, ho, hc⟩ := hr b e.symm
    rw [h] at ho; cases ho; cases hc)
end Go.Proofs.YtojodekmmkemgaaGreatDoor
