/- Merged by program: PlBits, Zig, SeqM, Wrt, Wrt2, DfEnc. -/
import Derived.Test.YtgjnmfmbheejoaaGreatDoorPlC
import Derived.Laws.BitsAllLaws
import Derived.Laws.BitsLemmas
import Derived.Test.YtgjnmfmbheejoaaGreatDoorBaA
import Derived.Test.YtgjnmfmbheejoaaGreatDoorProg
import Derived.RangeFuncFrom
import Derived.RangeFuncCalls
import Derived.OrdersIn
import Derived.OrdersHeld
import Derived.TacticsIn
import Derived.RangeFuncNested
import Derived.RangeFuncBound
import Derived.RangeFuncLeaves
import Derived.Shelf.Abstract
import Derived.Shelf.RegionOpen
import Derived.WalkKit
import Derived.OwnWalkIn
import Derived.TacticsInMore
import Derived.LoopNIn
import Derived.LoopIn
import Derived.BigRegionIn
import Derived.Outline
import Derived.Lib.AppendStr
import Derived.Test.YtgjnmfmbheejoaaGreatDoorShelf
import Derived.WalkSpells
import Derived.Deep.Onto
namespace Go.Proofs.YtgjnmfmbheejoaaGreatDoor
section
open Go.RowKit

theorem xor_ones {x : Nat} (h : x < 2 ^ 64) : x ^^^ (2 ^ 64 - 1) = 2 ^ 64 - (x + 1) := by
  apply Nat.eq_of_testBit_eq
  intro i
  rw [Nat.testBit_xor, Nat.testBit_two_pow_sub_succ h, Nat.testBit_two_pow_sub_one]
  by_cases hi : i < 64
  · simp [hi]
  · have : x.testBit i = false := Nat.testBit_lt_two_pow (Nat.lt_of_lt_of_le h (Nat.pow_le_pow_right (by decide) (by omega)))
    simp [hi, this]
theorem zig_bits {a : Int} (h1 : -9223372036854775808 ≤ a) (h2 : a ≤ 9223372036854775807) :
    bits .xor .u64 (IntKind.u64.wrap (IntKind.u64.wrap a * 2)) (IntKind.u64.wrap (a / 9223372036854775808)) = (zig a : Int) := by
  simp only [IntKind.wrap_u64]
  unfold zig
  by_cases h : a < 0
  · rw [if_pos h]
    have e1 : a / 9223372036854775808 % 18446744073709551616 = ((2 ^ 64 - 1 : Nat) : Int) := by
      have : a / 9223372036854775808 = -1 := by omega
      rw [this]; decide
    have e2 : a % 18446744073709551616 * 2 % 18446744073709551616 = ((2 * a + 18446744073709551616).toNat : Int) := by omega
    rw [e1, e2, u64_xor_nat _ _ (by omega) (by decide), xor_ones (by omega)]
    omega
  · rw [if_neg h]
    have e1 : a / 9223372036854775808 % 18446744073709551616 = ((0 : Nat) : Int) := by omega
    have e2 : a % 18446744073709551616 * 2 % 18446744073709551616 = ((2 * a).toNat : Int) := by omega
    rw [e1, e2, u64_xor_nat _ _ (by omega) (by decide), Nat.xor_zero]
theorem i64_xor_ones {x : Nat} (h : x < 9223372036854775808) : bits .xor .i64 (x : Int) (-1) = -(x : Int) - 1 := by
  show IntKind.i64.wrap ((BitVec.ofInt 64 (x : Int) ^^^ BitVec.ofInt 64 (-1)).toNat : Int) = _
  have e : (BitVec.ofInt 64 (-1)).toNat = 2 ^ 64 - 1 := by decide
  rw [BitVec.toNat_xor, ofInt_u64 x (by omega), e, xor_ones (by omega), IntKind.wrap_i64]
  have : ((2 ^ 64 - (x + 1) : Nat) : Int) = 18446744073709551616 - ((x : Int) + 1) := by omega
  rw [this]
  omega
theorem i64_xor_zero {x : Nat} (h : x < 9223372036854775808) : bits .xor .i64 (x : Int) 0 = (x : Int) := by
  show IntKind.i64.wrap ((BitVec.ofInt 64 (x : Int) ^^^ BitVec.ofInt 64 0).toNat : Int) = _
  have e : (BitVec.ofInt 64 0).toNat = 0 := by decide
  rw [BitVec.toNat_xor, ofInt_u64 x (by omega), e, Nat.xor_zero, IntKind.wrap_i64]
  omega
theorem zag_bits {u : Nat} (h : u < 18446744073709551616) : bits .xor .i64 ((u : Int) / 2) (wrap64 (-wrap64 (bits .and .u64 (u : Int) 1))) = zag u := by
  have e1 : bits .and .u64 (u : Int) 1 = ((u % 2 : Nat) : Int) := by
    have := u64_and_nat u 1 h (by decide)
    rw [nat_mask1] at this
    exact this
  have e2 : (u : Int) / 2 = ((u / 2 : Nat) : Int) := by omega
  rw [e1, e2]
  unfold zag
  by_cases hu : u % 2 = 1
  · rw [if_pos hu, hu]
    have : wrap64 (-wrap64 ((1 : Nat) : Int)) = -1 := by decide +kernel
    rw [this, i64_xor_ones (by omega)]
  · rw [if_neg hu]
    have h0 : u % 2 = 0 := by omega
    have : wrap64 (-wrap64 ((0 : Nat) : Int)) = 0 := by decide +kernel
    rw [h0, this, i64_xor_zero (by omega)]
end
section
open Go.RowKit

theorem zig_ret {a : Int} {l : Array Value} (h1 : -9223372036854775808 ≤ a) (h2 : a ≤ 9223372036854775807) (h : l.getD 2 undef = .int .u64 (bits .xor .u64 (IntKind.u64.wrap (IntKind.u64.wrap a * 2)) (IntKind.u64.wrap (a / 9223372036854775808)))) : Ending.returned (l.getD 2 undef) = .returned (.int .u64 (zig a : Int)) := by
  rw [h, zig_bits h1 h2]
set_option maxHeartbeats 400000 in
theorem zig_any (a : Int) (w : World) (h1 : -9223372036854775808 ≤ a) (h2 : a ≤ 9223372036854775807) :
    Calls Tryz.prog 125 #[.int .i64 a] w fun e w' => e = .returned (.int .u64 (zig a : Int)) ∧ w = w' := by
  go_enter Tryz.func125, Tryz.ntmps125
  go_wp2
  go_ret
  exact ⟨zig_ret h1 h2 rfl, rfl⟩
theorem ret_u64 {a b : Int} (h : a = b) : Ending.returned (.int .u64 a) = .returned (.int .u64 b) := by rw [h]
theorem ret_i64 {a b : Int} (h : a = b) : Ending.returned (.int .i64 a) = .returned (.int .i64 b) := by rw [h]
set_option maxHeartbeats 400000 in
theorem rzig_any (a : Int) (w : World) (h1 : -9223372036854775808 ≤ a) (h2 : a ≤ 9223372036854775807) :
    Calls Tryz.prog 130 #[.int .i64 a] w fun e w' => e = .returned (.int .u64 (zig a : Int)) ∧ w = w' := by
  by_cases h : a < 0
  all_goals
    go_enter Tryz.func130, Tryz.ntmps130
    go_wp2
    go_ret
    exact ⟨ret_u64 (by unfold zig; split <;> omega), rfl⟩
set_option maxHeartbeats 400000 in
theorem zag_any (u : Nat) (w : World) (h : u < 18446744073709551616) :
    Calls Tryz.prog 121 #[.int .u64 (u : Int)] w fun e w' => e = .returned (.int .i64 (zag u)) ∧ w = w' := by
  go_enter Tryz.func121, Tryz.ntmps121
  go_wp2
  go_ret
  exact ⟨ret_i64 (zag_bits h), rfl⟩
set_option maxHeartbeats 400000 in
theorem rzag_any (u : Nat) (w : World) (h : u < 18446744073709551616) :
    Calls Tryz.prog 116 #[.int .u64 (u : Int)] w fun e w' => e = .returned (.int .i64 (zag u)) ∧ w = w' := by
  by_cases hu : u % 2 = 1
  · have e1 : ((u : Int) % 2 == 1) = true := by rw [beq_iff_eq]; omega
    go_enter Tryz.func116, Tryz.ntmps116
    go_wp2
    go_ret
    exact ⟨ret_i64 (by unfold zag; rw [if_pos hu]; omega), rfl⟩
  · have e1 : ((u : Int) % 2 == 1) = false := by rw [beq_eq_false_iff_ne]; omega
    go_enter Tryz.func116, Tryz.ntmps116
    go_wp2
    go_ret
    exact ⟨ret_i64 (by unfold zag; rw [if_neg hu]; omega), rfl⟩
end
section
open Go.RowKit

/-- What an iterator does that moves memory by Mv between two rounds. -/
def SeqM {α : Type} (F : Fence) (n : Nat) (P : Program) (g : Nat) (lb : Array Value) (encs : α → Array Value) (Mv Kp : World → World → Prop) (S Sp : List α → Prop) (N : Nat) (w : World) : Prop :=
  ∀ (l : Nat) (J Jx : List α → World → Prop) (W : World), Below w.heap.size w W → AbidesFrom W.heap.size J → AbidesFrom W.heap.size Jx → (∀ s A B, J s A → Mv A B → J s B) → (∀ s A B, Jx s A → Mv A B → Jx s B) →
    (∀ pre x W1, J pre W1 → pre.length < N → YieldAt F (n - 1) P l (encs x) W1 fun e W' => (e = .returned (.bool true) ∧ J (pre ++ [x]) W' ∧ Kp W1 W') ∨ (e = .returned (.bool false) ∧ Jx (pre ++ [x]) W')) →
    J [] W → CallsIn F n P g (#[.func (.yield l) #[] #[]] ++ lb) W fun e W' => (∃ v, e = .returned v) ∧ ((∃ xs, S xs ∧ J xs W') ∨ (∃ pre, Sp pre ∧ Jx pre W'))
/-- The loop's own two blocks. -/
def LoopBk (D : Nat) (r : Loop) (W : World) : Prop := W.heap[D + 1]? = some (.loop r) ∧ W.heap[D]? = some (.deferred (some []))
theorem LoopBk.grown {D B : Nat} {r : Loop} {A A' : World} {row : Option Nat} (h : LoopBk D r A) (hg : A.grownBy A' row) (hr : ∀ k, row = some k → B ≤ k ∧ ∃ o : Obj, A.heap[k]? = some o ∧ o.isWalk = true) : LoopBk D r A' :=
  ⟨(grownBy_keeps hg (fun k e => (hr k e).2) h.1 rfl).trans h.1, (grownBy_keeps hg (fun k e => (hr k e).2) h.2 rfl).trans h.2⟩
theorem LoopBk.put {D : Nat} {r : Loop} {A : World} (h : LoopBk D r A) (r' : Loop) : LoopBk D r' (A.putObj (D + 1) (.loop r')) :=
  ⟨World.putObj_heap_same (Array.getElem?_eq_some_iff.1 h.1).1, (World.putObj_heap_other (by omega)).trans h.2⟩
theorem LoopBk.keeps {D : Nat} {r : Loop} {A B : World} (h : LoopBk D r A) (hk : KeepsOthers A B) : LoopBk D r B := ⟨hk.same _ _ h.1 rfl, hk.same _ _ h.2 rfl⟩

theorem rangeM {α : Type} {F : Fence} {n : Nat} {P : Program} {g : Operand} {ps : Array Tmp} {assign body : Code} {Q : Exit → Act → World → Prop} {a : Act} {w : World}
    (hro : F.round = none) (h1 : 1 ≤ n) {gf : Nat} {lb : Array Value} (hg : a.eval g = .func (.func gf) #[] lb) (hFg : F.fn gf) (eg : ∀ args w, (callFunc gf args).run P w = .ok (.enter gf args) w)
    {encs : α → Array Value} {Mv Kp : World → World → Prop} {S Sp : List α → Prop} {N : Nat} {w0 : World} (hseq : SeqM F (n - 1) P gf lb encs Mv Kp S Sp N w0)
    (hMv : ∀ (A B : World) (i : Nat) (o : Obj), Mv A B → A.heap[i]? = some o → o.isCells = false → B.heap[i]? = some o)
    (hKt : ∀ {A B C : World}, Kp A B → Kp B C → Kp A C) (hKb : ∀ (W : World) (l : Nat) (o o' : Obj), w.heap.size ≤ l → W.heap[l]? = some o → o.isCells = false → o.isWalk = false → Kp W (W.putObj l o')) (hb0 : Below w0.heap.size w0 w) (hps : ∀ x, (encs x).size = ps.size)
    (I : List α → World → Prop) (Ix : Code → List α → World → Prop) (hI : OwnFrom w.heap.size I) (hIx : ∀ c, OwnFrom w.heap.size (Ix c)) (hIM : ∀ s A B, I s A → Mv A B → I s B) (hIxM : ∀ c s A B, Ix c s A → Mv A B → Ix c s B) (h0 : I [] w) (act : α → Act)
    (hassign : ∀ (l : Nat) (x : α) (W : World) (K : Act → World → Prop), K (act x) W →
      assign.wpIn (F.inRound l) (n - 1 - 1) P (Exit.then K (fun _ _ _ => False)) { tmps := (ps.zip (encs x)).foldl (fun t (p, v) => t.setIfInBounds p v) a.tmps, defers := [] } W)
    (hbody : ∀ (l : Nat) (pre : List α) (x : α) (W : World), I pre W → pre.length < N → body.wpIn (F.inRound l) (n - 1 - 1) P (ownPostK Kp I Ix (pre ++ [x]) W) (act x) W)
    (hdone : ∀ (D : Nat) (xs : List α) (W : World), w.heap.size ≤ D → S xs → I xs W → W.heap[D]? = some (.deferred (some [])) → Q .normal { a with defers := { target := .collected D, args := #[] } :: a.defers } W)
    (hstop : ∀ (D : Nat) (c : Code) (pre : List α) (W : World), w.heap.size ≤ D → Sp pre → Ix c pre W → W.heap[D]? = some (.deferred (some [])) → c.wpIn F n P Q { a with defers := { target := .collected D, args := #[] } :: a.defers } W) :
    (Code.rangeFunc g ps assign body).wpIn F n P Q a w := by
  refine wpIn_rangeFunc (fun fn hfn => ?_)
  rw [hro]
  generalize hD : w.heap.size = D at *
  obtain ⟨rec, hrec⟩ : ∃ rec : LoopState → Option Code → Loop, rec = fun st pe => { state := st, pending := pe, fn, tmps := a.tmps, params := ps, assign, body, defers := D } := ⟨_, rfl⟩
  obtain ⟨W1, hW1⟩ : ∃ W1, (w.alloc (.deferred (some []))).alloc (.loop (rec .ready none)) = W1 := ⟨_, rfl⟩
  have hs1 : D + 2 = W1.heap.size := by rw [← hW1]; simp [hD]
  have bk1 : LoopBk D (rec .ready none) W1 := by
    have e := World.alloc_heap_new (w.alloc (.deferred (some []))) (.loop (rec .ready none))
    rw [World.size_alloc, hD] at e
    have e2 := World.alloc_heap_new w (.deferred (some []))
    rw [hD] at e2
    rw [← hW1]
    exact ⟨e, (Below.heap_alloc _ _ _ (by rw [World.size_alloc, hD]; omega)).trans e2⟩
  have hb1 : Below w0.heap.size w0 W1 := by
    rw [← hW1]
    exact hb0.trans ((((Below.refl _ w).alloc (Nat.le_refl _) _).alloc (by simp) _).mono hb0.size)
  refine ⟨D + 1, [{ target := .collected D, args := #[] }], W1, { target := .fn (.func gf) lb, args := #[.func (.yield (D + 1)) #[] #[]] }, W1, gf, #[.func (.yield (D + 1)) #[] #[]] ++ lb, W1, ?_, ?_, ?_, ?_, fun _ => h1, ?_⟩
  · rw [← hW1, hrec, ← hD]; exact run_enterLoop_outer _ _ _ _ _
  · simp only [resolve, hg]; simp [go_sem]
  · intro f' hf'; simp [Target.leads] at hf'; subst hf'; exact hFg
  · simp [invoke, go_sem, eg]
  have wk : ∀ {A : World} {row : Option Nat}, (∀ r, row = some r → W1.heap.size ≤ r ∧ ∃ o : Obj, A.heap[r]? = some o ∧ o.isWalk = true) → ∀ r, row = some r → D ≤ r ∧ ∃ o : Obj, A.heap[r]? = some o ∧ o.isCells = false := fun hr r e => by
    obtain ⟨hB, o, ho, hw⟩ := hr r e
    exact ⟨by omega, o, ho, Obj.not_cells_of_walk hw⟩
  have mvb : ∀ {r : Loop} {A B : World}, LoopBk D r A → Mv A B → LoopBk D r B := fun h hm => ⟨hMv _ _ _ _ hm h.1 rfl, hMv _ _ _ _ hm h.2 rfl⟩
  refine (hseq (D + 1) (fun pre W => I pre W ∧ LoopBk D (rec .ready none) W) (fun pre W => ∃ c, Ix c pre W ∧ LoopBk D (rec .done (some c)) W) W1 hb1
    (fun s A B row hs hg' hr => ⟨hI s A B row hs.1 hg' (wk hr), hs.2.grown hg' hr⟩) (fun s A B row ⟨c, hc, hk⟩ hg' hr => ⟨c, hIx c s A B row hc hg' (wk hr), hk.grown hg' hr⟩)
    (fun s A B hs hm => ⟨hIM s A B hs.1 hm, mvb hs.2 hm⟩) (fun s A B ⟨c, hc, hk⟩ hm => ⟨c, hIxM c s A B hc hm, mvb hk hm⟩) ?_ ⟨by rw [← hW1]; exact hI.alloc _ (hI.alloc _ h0), bk1⟩).mono ?_
  · rintro pre x W ⟨hi, bk⟩ hlen
    have hy := run_yield (P := P) (args := encs x) bk.1 (by rw [hrec]; exact hps x)
    rw [hrec] at hy
    refine ⟨fn, _, assign, body, hy, roundIn_of_wpIn hfn (hassign _ x W _ ⟨_, run_beginRound bk.1 (by rw [hrec]), ?_⟩)⟩
    have bk2 := bk.put { rec .ready none with state := .busy }
    have k2 : Kp W (W.putObj (D + 1) (.loop { rec .ready none with state := .busy })) := hKb _ _ _ _ (by omega) bk.1 rfl rfl
    refine wpIn_mono (hbody _ pre x _ (hI.putObj _ hi (by omega) bk.1 rfl) hlen) ?_
    have fin : ∀ (jump : Option Code) (W3 : World), KeepsOthers (W.putObj (D + 1) (.loop { rec .ready none with state := .busy })) W3 →
        (Instr.endRound (D + 1) jump).run P W3 = .ok (.bool jump.isNone) (W3.putObj (D + 1) (.loop (rec (if jump.isNone then .ready else .done) jump))) ∧ LoopBk D { rec .ready none with state := .busy } W3 := fun jump W3 hk3 => by
      have b3 := bk2.keeps hk3
      have e := run_endRound (P := P) jump b3.1
      rw [hrec] at e ⊢
      exact ⟨e, by rw [hrec] at b3; exact b3⟩
    have out : ∀ (c : Code) (W3 : World), KeepsOthers (W.putObj (D + 1) (.loop { rec .ready none with state := .busy })) W3 → Ix c (pre ++ [x]) W3 →
        ∃ v W4, (Instr.endRound (D + 1) (some c)).run P W3 = .ok v W4 ∧ (fun e W' => (e = Ending.returned (.bool true) ∧ (I (pre ++ [x]) W' ∧ LoopBk D (rec .ready none) W') ∧ Kp W W') ∨ (e = .returned (.bool false) ∧ ∃ c, Ix c (pre ++ [x]) W' ∧ LoopBk D (rec .done (some c)) W')) (.returned v) W4 := fun c W3 hk3 hi3 => by
      obtain ⟨e, b3⟩ := fin (some c) W3 hk3
      exact ⟨_, _, e, .inr ⟨rfl, c, (hIx c).putObj _ hi3 (by omega) b3.1 rfl, b3.put _⟩⟩
    rintro e a3 W3 hp
    cases e with
    | normal =>
      obtain ⟨hk3, hkp3, hi3⟩ := hp
      obtain ⟨e, b3⟩ := fin none W3 hk3
      exact ⟨_, _, e, .inl ⟨rfl, ⟨hI.putObj _ hi3 (by omega) b3.1 rfl, b3.put _⟩, hKt (hKt k2 hkp3) (hKb _ _ _ _ (by omega) b3.1 rfl rfl)⟩⟩
    | ret => exact out .ret W3 hp.1 hp.2
    | exit id => exact out (.exit id) W3 hp.1 hp.2
    | goto t => exact out (.goto t) W3 hp.1 hp.2
    | panic ch => exact hp.elim
    | outgrown => exact hp.elim
  · rintro e W2 ⟨⟨v, rfl⟩, (⟨xs, hS, hi, bk⟩ | ⟨pre, hSp, c, hi, bk⟩)⟩
    · have e := run_endLoop (P := P) bk.1 (by rw [hrec]; simp)
      rw [hrec] at e
      exact ⟨none, _, e, hdone D xs _ (Nat.le_refl _) hS (hI.putObj _ hi (by omega) bk.1 rfl) (bk.put _).2⟩
    · have e := run_endLoop (P := P) bk.1 (by rw [hrec]; simp)
      rw [hrec] at e
      exact ⟨some c, _, e, hstop D c pre _ (Nat.le_refl _) hSp ((hIx c).putObj _ hi (by omega) bk.1 rfl) (bk.put _).2⟩

/-- An operation that is no defer does in a round what it does elsewhere. -/
theorem oper_in {P : Program} {Q : Exit → Act → World → Prop} {o : Oper} {a : Act} {w : World} {K K' : Act → World → Prop} (l n : Nat) (hd : ∀ c, o.op ≠ .defer c) (hK : ∀ a w, K a w → K' a w) (h : o.wp P a w K Q) : o.wpIn (Fence.wide.inRound l) n P a w K' Q := by
  refine ⟨fun _ _ => trivial, ?_⟩
  unfold Oper.wp at h
  rw [Fence.inRound_round, Oper.semAt_some l a.eval o hd]
  have hdep : ∀ X : Prop, ((Fence.wide.inRound l).depth.isSome = true → X) := fun X h => by simp [Fence.wide, Fence.inRound] at h
  cases hr : (execOp a.eval o).run P w with
  | ok x w' =>
    rw [hr] at h
    cases x with
    | value v => exact hK _ _ h
    | skip => exact hK _ _ h
    | defer d => exact hK _ _ h
    | enter f args =>
      refine ⟨hdep _, CallsIn.inRound l (callsIn_wide.2 ?_)⟩
      exact Calls.mono h (fun e w'' he => by cases e <;> first | exact hK _ _ he | exact he)
    | row r args =>
      refine ⟨hdep _, fun c cs _ => ?_⟩
      obtain ⟨v, w'', hv, hs⟩ := h c cs
      exact ⟨v, w'', hK _ _ hv, by rw [fenced_inRound]; exact stepsIn_wide.2 hs⟩
    | _ => exact h.elim
  | halt x w' =>
    rw [hr] at h
    cases x <;> exact h
theorem any_in {P : Program} {md : Region.Mode} {ops : Array Oper} {Q : Exit → Act → World → Prop} (l n : Nat) (hd : ∀ (i : Nat) (o : Oper), ops[i]? = some o → ∀ c, o.op ≠ .defer c) (hq : ¬ LetsOut Q) :
    ∀ (fuel : Nat) (listed : Array Bool) (a : Act) (w : World), wpAny P md ops Q fuel listed a w → wpAnyIn (Fence.wide.inRound l) n P md ops Q fuel listed a w
  | 0, _, _, _, h => h
  | fuel + 1, listed, a, w, h => by
    refine ⟨h.1, fun i hi => ?_⟩
    have hw := h.2 i hi
    unfold wpOp at hw
    unfold wpOpIn
    cases ho : ops[i]? with
    | none => rw [ho] at hw; exact any_in l n hd hq fuel _ _ _ hw
    | some o =>
      rw [ho] at hw
      dsimp only at hw ⊢
      split at hw
      · rename_i hwant
        rw [if_pos hwant]
        rcases hw with hw | hw
        · exact oper_in l n (hd i o ho) (fun a' w' h' => any_in l n hd hq fuel _ _ _ h') hw
        · exact absurd hw.2 hq
      · rename_i hwant
        rw [if_neg hwant]
        exact ⟨fun _ _ => trivial, any_in l n hd hq fuel _ _ _ hw⟩
def noDefer (o : Oper) : Bool := match o.op with | .defer _ => false | _ => true
/-- A region that draws its order, in a round: as elsewhere. -/
theorem region_in {P : Program} {id : Nat} {L : List Oper} {Q : Exit → Act → World → Prop} {a : Act} {w : World} (l n : Nat) (hm : P.follows .mixedOrders = true) (hd : L.all noDefer = true) (hq : ¬ LetsOut Q)
    (h : wpAny P .any L.toArray Q L.toArray.size (Array.replicate L.toArray.size false) a w.drew) : (Code.region id L.toArray true).wpIn (Fence.wide.inRound l) n P Q a w :=
  wpIn_region_any hm (any_in l n (fun i o ho c e => by
    have hmem : o ∈ L := by
      rw [List.getElem?_toArray] at ho
      exact List.mem_of_getElem? ho
    have := List.all_eq_true.1 hd o hmem
    unfold noDefer at this
    rw [e] at this
    cases this) hq _ _ _ _ h)
theorem region_held_in {P : Program} {id : Nat} {L : List Oper} {Q : Exit → Act → World → Prop} {a : Act} {w : World} {S : World → Prop} (l n : Nat) (hm : P.follows .mixedOrders = true) (hd : L.all noDefer = true) (hq : ¬ LetsOut Q) (hS : S w.drew)
    (h : S w.drew → wpAnyH P .any L.toArray Q S L.toArray.size (Array.replicate L.toArray.size false) a w.drew) : (Code.region id L.toArray true).wpIn (Fence.wide.inRound l) n P Q a w :=
  region_in l n hm hd hq (wpAny_of_held _ _ _ _ (h hS))
theorem ownPostK_in {α : Type} {Kp : World → World → Prop} {I : List α → World → Prop} {Ix : Code → List α → World → Prop} {xs : List α} {W : World} : ¬ LetsOut (ownPostK Kp I Ix xs W) := by
  rintro ⟨a, w, h⟩
  exact h
/-- Blocks of cells lie as they lay where blocks that are none turn. -/
theorem cells_same {A B : World} {row : Option Nat} {b : Nat} {cs : Array Value} {t : TypeId} {z : Nat × Nat} (hg : A.grownBy B row) (hr : ∀ r, row = some r → ∃ o : Obj, A.heap[r]? = some o ∧ o.isCells = false) (h : A.heap[b]? = some (.cells cs t z)) : B.heap[b]? = A.heap[b]? :=
  hg.block b (Array.getElem?_eq_some_iff.1 h).1 (fun e => by
    obtain ⟨o, ho, hc⟩ := hr b e.symm
    rw [h] at ho; cases ho; cases hc)
end
section
open Go.RowKit Go.Shelf
attribute [local go_sem] Oper.semAt_some

/-- A step of the iterator: its number turns. -/
def DigM (B1 : Nat) (A B : World) : Prop := ∃ v0 v, Boxed A B1 111 v0 ∧ B = A.setCell ⟨B1, 0, none⟩ v
def DigK (B1 : Nat) (W W' : World) : Prop := W'.heap[B1]? = W.heap[B1]?
theorem dig_byte {m : Nat} : u8V (m % 128 + 128).toUInt8 = .int .u8 (bits .or .u8 ((m : Int) % 256) 128) := by
  have e1 : (m : Int) % 256 = ((m % 256 : Nat) : Int) := by omega
  have e2 : (m % 256) ||| 128 = m % 128 + 128 := by
    have h := u8_all (fun c => decide (c.toNat ||| 128 = c.toNat % 128 + 128)) (by decide +kernel) (m % 256).toUInt8
    rw [decide_eq_true_eq, u8_lt (by omega)] at h
    rw [h]; omega
  have e3 := u8_or_nat (m % 256) 128 (by omega) (by decide)
  rw [e2] at e3
  rw [e1]
  unfold u8V
  rw [u8_lt (by omega)]
  congr 1
  exact e3.symm
theorem dig_last {m : Nat} (h : m < 128) : u8V m.toUInt8 = .int .u8 (m : Int) := by
  unfold u8V; rw [u8_lt (by omega)]
set_option maxRecDepth 100000 in
set_option maxHeartbeats 4000000 in
theorem digits1_in (n : Nat) (hn : 1 ≤ n) (B1 v : Nat) (hv : v < 18446744073709551616) (w : World) (hb : Boxed w B1 111 (.int .u64 (v : Int))) :
    SeqM Fence.wide n Tryz.prog 204 #[.pointer (some ⟨B1, 0, none⟩)] (fun c : UInt8 => #[u8V c]) (DigM B1) (DigK B1) (fun xs => xs = uvB v) (fun _ => True) (uvB v).length w := by
  intro l J Jx W hW hJ hJx hJM hJxM hY h0
  have HJM := Lib.hid hJM
  have HY := Lib.hid hY
  have hbW : Boxed W B1 111 (.int .u64 (v : Int)) := hb.kept (gbelow hW) (by simp)
  clear hJ hJx hJM hJxM hY hW hb
  refine callsIn_of_wp Tryz.func204 rfl trivial ?_ rfl
  simp only [Tryz.ntmps204, List.size_toArray, List.length_cons, List.length_nil, Nat.reduceAdd, Nat.reduceSub, Array.replicate_succ, Array.replicate_zero, List.push_toArray, List.append_toArray, List.nil_append, List.cons_append]
  gi_wp2
  gi_loopw [3] (fun _ wr => ∃ (m : Nat) (pre : List UInt8), m < 18446744073709551616 ∧ Hid (uvB v = pre ++ uvB m) ∧ J pre wr ∧ Boxed wr B1 111 (.int .u64 (m : Int))) (fun _ wr => match wr.cell? ⟨B1, 0, none⟩ with | some (.int _ k) => k.toNat | _ => 0)
  case atStart => exact ⟨v, [], hv, Lib.hid rfl, h0, hbW⟩
  case round =>
    clear h0 hbW
    obtain ⟨m, pre, hm, HU, hJ, hB⟩ := hrel
    have c1 := hB.cell
    have f1 := hB.frozen
    have HB := Lib.hid hB
    have HJ := Lib.hid hJ
    have HC1 := Lib.hid c1
    by_cases hge : 128 ≤ m
    · have hlen : pre.length < (uvB v).length := by rw [HU.out, List.length_append]; have := uvB_pos m; omega
      have hYQ := HY.out pre (m % 128 + 128).toUInt8 wr hJ hlen
      rw [dig_byte] at hYQ
      obtain ⟨fn, tmps, assign, body, hyy, hR⟩ := hYQ
      have HR := Lib.hid hR
      clear hR hB hJ hlen
      gi_wp2
      refine HR.out.mono ?_
      rintro e W3 (⟨rfl, hJ3, hk3⟩ | ⟨rfl, hJx3⟩)
      · have hB3 : Boxed W3 B1 111 (.int .u64 (m : Int)) := (show W3.heap[B1]? = _ from hk3).trans HB.out
        have c3 := hB3.cell
        have f3 := hB3.frozen
        have HJ3 := Lib.hid (HJM.out _ _ _ hJ3 ⟨_, .int .u64 ((m : Int) / 128), hB3, rfl⟩)
        have HB3 := Lib.hid (hB3.set (.int .u64 ((m : Int) / 128)))
        have HU3 : Hid (uvB v = (pre ++ [(m % 128 + 128).toUInt8]) ++ uvB (m / 128)) := Lib.hid (by rw [HU.out, uvB_ge hge]; simp)
        have hc3 : (W3.setCell ⟨B1, 0, none⟩ (.int .u64 ((m : Int) / 128))).cell? ⟨B1, 0, none⟩ = some (.int .u64 ((m : Int) / 128)) := HB3.out.cell
        have HC3 := Lib.hid hc3
        clear hB3 hJ3 hk3 hc3
        gi_wp2
        go_roundw
        case rel => exact ⟨m / 128, _, by omega, HU3, HJ3.out, HB3.out⟩
        case measure => rw [HC3.out, HC1.out]; show (m / 128 : Int).toNat < (m : Int).toNat; omega
      · gi_wp2
        refine bodyPost_ret (results_none rfl _ _ _) rfl ?_
        exact ⟨⟨_, rfl⟩, .inr ⟨_, trivial, hJx3⟩⟩
    · have hlt : m < 128 := by omega
      have hlen : pre.length < (uvB v).length := by rw [HU.out, List.length_append]; have := uvB_pos m; omega
      have hYQ := HY.out pre m.toUInt8 wr hJ hlen
      rw [dig_last hlt] at hYQ
      have HE : Hid (pre ++ [m.toUInt8] = uvB v) := Lib.hid (by rw [HU.out, uvB_lt hlt])
      obtain ⟨fn, tmps, assign, body, hyy, hR⟩ := hYQ
      have HR := Lib.hid hR
      clear hR hB hJ hlen hlt
      gi_wp2
      refine HR.out.mono ?_
      rintro e W3 (⟨rfl, hJ3, hk3⟩ | ⟨rfl, hJx3⟩)
      · gi_wp2
        go_end0
        exact ⟨⟨_, rfl⟩, .inl ⟨_, HE.out, hJ3⟩⟩
      · gi_wp2
        go_end0
        exact ⟨⟨_, rfl⟩, .inr ⟨_, trivial, hJx3⟩⟩

/-- A writer of the program in memory with these bytes; its row lies at or above base. -/
def WrP (W : World) (base C : Nat) (l : List UInt8) : Prop := base ≤ C ∧ ∃ v, Whole W C 164 #[.bool true, v] ∧ W.ownsRow base 5 1 v l.length (bV l)
/-- What a writer's call leaves: what lay below base, and blocks that are neither bytes nor the writer's. -/
def WrK (W W' : World) (base C : Nat) : Prop := Below base W W' ∧ ∀ (b : Nat) (t : TypeId) cs, W.heap[b]? = some (.cells cs t (0, 0)) → t ≠ 5 → b ≠ C → W'.heap[b]? = W.heap[b]?
theorem WrP.lt {W : World} {base C : Nat} {l : List UInt8} (h : WrP W base C l) : C < W.heap.size := by obtain ⟨_, v, h1, _⟩ := h; exact h1.lt
theorem WrK.refl (W : World) (base C : Nat) : WrK W W base C := ⟨Below.refl _ _, fun _ _ _ _ _ _ => rfl⟩
theorem WrK.trans {A B D : World} {base C : Nat} (h : WrK A B base C) (k : WrK B D base C) : WrK A D base C :=
  ⟨h.1.trans k.1, fun b t cs hb ht hC => (k.2 b t cs ((h.2 b t cs hb ht hC).trans hb) ht hC).trans (h.2 b t cs hb ht hC)⟩
theorem WrK.of_below {A B : World} {base C : Nat} (h : Below A.heap.size A B) (hb : base ≤ A.heap.size) : WrK A B base C := ⟨h.mono hb, fun b _ _ hx _ _ => h.block b (Array.getElem?_eq_some_iff.1 hx).1⟩
theorem WrK.whole {A B : World} {base C b : Nat} {t : TypeId} {cs : Array Value} (h : WrK A B base C) (hw : Whole A b t cs) (ht : t ≠ 5) (hC : b ≠ C) : Whole B b t cs := (h.2 b t cs hw ht hC).trans hw
theorem WrP.keep {W W' : World} {base C : Nat} {l : List UInt8} (h : WrP W base C l) (hb : Below W.heap.size W W') : WrP W' base C l := by
  obtain ⟨h0, v, h1, h2⟩ := h
  exact ⟨h0, v, h1.keep hb, h2.kept (gbelow hb) (Classical.em _)⟩
theorem infoB : (Tryz.prog.info? 5).map (fun i => (i.zero, i.size, i.bytes)) = some (some (.int .u8 0), 1, 1) := by kernel_rfl
theorem run_app_u8 (w : World) (base : Nat) (v : Value) (n : Nat) (xs : List Value) (hown : w.ownsRow base 5 1 v n xs) (a : Addr) (m c : Nat) (news : List Value) (hm : news.length = m) (hc : ∀ j u, news[j]? = some u → w.cell? (a.add j) = some u) (h1 : ∀ u ∈ news, u.oneCell' = true) (hn : n + m ≤ 1099511627776) (hbase : base ≤ w.heap.size) :
    ∃ v' w', (Builtin.append_ #[22, 22] 22 #[v, .slice (some a) m c]).run Tryz.prog w = .ok v' w' ∧ w'.ownsRow base 5 1 v' (n + m) (xs ++ news) ∧ w.grownBy w' v.ownBlock := by
  obtain ⟨i, hi, hz0, hz1, hz2⟩ := info_parts infoB
  obtain ⟨v', w', hrun, h4, h5, _, _⟩ := run_append_own_at (P := Tryz.prog) w base 22 22 5 i (.int .u8 0) 1 1 Tryz.underlying22 hi hz0 hz1 hz2 rfl (by decide) v n xs hown a m c news (by omega) hc h1 (by unfold maxLen; omega) (by omega) hbase
  exact ⟨v', w', hrun, h4, h5⟩
theorem strCells_bV (s : ByteArray) : Lib.strCells s = bV s.data.toList := rfl
theorem run_app_str (w : World) (base : Nat) (v : Value) (n : Nat) (xs : List Value) (hown : w.ownsRow base 5 1 v n xs) (s : ByteArray) (hn : n + s.size ≤ 1099511627776) (hbase : base ≤ w.heap.size) :
    ∃ v' w', (Builtin.append_ #[22, 9] 22 #[v, .string s]).run Tryz.prog w = .ok v' w' ∧ w'.ownsRow base 5 1 v' (n + s.size) (xs ++ bV s.data.toList) ∧ w.grownBy w' v.ownBlock := by
  obtain ⟨i, hi, hz0, hz1, hz2⟩ := info_parts infoB
  obtain ⟨v', w', hrun, h4, h5, _⟩ := Lib.run_append_own_string (P := Tryz.prog) w base 22 9 22 5 i Tryz.underlying22 Tryz.underlying9 hi hz0 hz1 hz2 v n xs hown s (by unfold maxLen; omega) (by omega) hbase
  exact ⟨v', w', hrun, by rw [← strCells_bV]; exact h4, h5⟩
theorem own_not {W : World} {base n : Nat} {v : Value} {xs : List Value} {b : Nat} {t : TypeId} {cs : Array Value} (h : W.ownsRow base 5 1 v n xs) (hb : W.heap[b]? = some (.cells cs t (0, 0))) (ht : t ≠ 5) : some b ≠ v.ownBlock := own_ne h (show Whole W b t cs from hb) ht
/-- A longer row is laid into the writer. -/
theorem WrP.store {W w' : World} {base C : Nat} {l m : List UInt8} {v v' : Value} (hb : base ≤ C) (hC : Whole W C 164 #[.bool true, v]) (hown : W.ownsRow base 5 1 v l.length (bV l)) (hg : W.grownBy w' v.ownBlock)
    (hown' : w'.ownsRow base 5 1 v' (l.length + m.length) (bV l ++ bV m)) : WrP (w'.setCell ⟨C, 1, none⟩ v') base C (l ++ m) ∧ WrK W (w'.setCell ⟨C, 1, none⟩ v') base C ∧ KeepsOthers W (w'.setCell ⟨C, 1, none⟩ v') ∧ Whole w' C 164 #[.bool true, v] := by
  have hC' := hC.grown hg (own_ne hown hC (by decide))
  refine ⟨⟨hb, v', ?_, ?_⟩, ⟨?_, fun b t cs hx ht hne => ?_⟩, ?_, hC'⟩
  · have := hC'.put 1 v'
    simpa using this
  · rw [List.length_append, bV_app]
    exact hown'.kept (grown_set (World.grownBy.refl w' (some C)) 1 v') (.inr (own_ne hown' hC' (by decide)).symm)
  · refine ((Below.refl base W).grown hg (by have := hC.lt; omega) (fun k e => ?_)).setCell (p := ⟨C, 1, none⟩) hb v'
    exact (hown.lt k e).1
  · exact (Below.heap_setCell w' ⟨C, 1, none⟩ v' b hne).trans (hg.block b (Array.getElem?_eq_some_iff.1 hx).1 (own_not hown hx ht))
  · refine (KeepsOthers.of_grownBy hg fun j o ej hj => ?_).trans (KeepsOthers.setCell _ _ _)
    rcases hown.2 with ⟨rfl, _⟩ | ⟨g, cap, cur, rfl, _, hgb, _⟩
    · simp [Value.ownBlock] at ej
    · obtain rfl : g = j := by simpa [Value.ownBlock] using ej
      rw [hgb] at hj; cases hj; rfl

theorem own_nc {A B : World} {row : Option Nat} {base n size : Nat} {e : TypeId} {v : Value} {xs : List Value} (h : A.ownsRow base e size v n xs) (hg : A.grownBy B row) (hr : ∀ r, row = some r → ∃ o : Obj, A.heap[r]? = some o ∧ o.isCells = false) : B.ownsRow base e size v n xs := by
  refine h.kept hg ?_
  rcases h.2 with ⟨rfl, _⟩ | ⟨g, cap, cur, rfl, _, hgb, _⟩
  · exact .inl rfl
  · refine .inr fun e' => ?_
    obtain ⟨o, ho, hc⟩ := hr g (by simpa [Value.ownBlock] using e'.symm)
    rw [hgb] at ho; cases ho; cases hc
theorem WrP.nc {A B : World} {row : Option Nat} {base C : Nat} {l : List UInt8} (h : WrP A base C l) (hg : A.grownBy B row) (hr : ∀ r, row = some r → ∃ o : Obj, A.heap[r]? = some o ∧ o.isCells = false) : WrP B base C l := by
  obtain ⟨h0, v, h1, h2⟩ := h
  exact ⟨h0, v, (cells_same hg hr h1).trans h1, own_nc h2 hg hr⟩
theorem WrK.nc {w A B : World} {row : Option Nat} {base C : Nat} (h : WrK w A base C) (hb : base ≤ w.heap.size) (hg : A.grownBy B row) (hr : ∀ r, row = some r → w.heap.size ≤ r) : WrK w B base C :=
  ⟨h.1.grown hg (Nat.le_trans hb h.1.size) (fun k e => Nat.le_trans hb (hr k e)), fun b t cs hx ht hC => (hg.block b (Nat.lt_of_lt_of_le (Array.getElem?_eq_some_iff.1 hx).1 h.1.size) (fun e => by have := hr b e.symm; have := (Array.getElem?_eq_some_iff.1 hx).1; omega)).trans (h.2 b t cs hx ht hC)⟩
theorem WrP.far {A : World} {base C b : Nat} {t : TypeId} {u : Value} {l : List UInt8} (h : WrP A base C l) (hb : Boxed A b t u) (ht : t ≠ 5) (hC : C ≠ b) (x : Value) : WrP (A.setCell ⟨b, 0, none⟩ x) base C l := by
  obtain ⟨h0, v, h1, h2⟩ := h
  exact ⟨h0, v, h1.far (p := ⟨b, 0, none⟩) hC x, h2.kept (grown_set (World.grownBy.refl A (some b)) 0 x) (.inr (own_ne h2 (show Whole A b t #[u] from hb) ht).symm)⟩
theorem WrK.set {w A : World} {base C b : Nat} (h : WrK w A base C) (hb : base ≤ w.heap.size) (hw : w.heap.size ≤ b) (x : Value) : WrK w (A.setCell ⟨b, 0, none⟩ x) base C :=
  ⟨h.1.setCell (p := ⟨b, 0, none⟩) (Nat.le_trans hb hw) x, fun k t cs hx ht hC => (Below.heap_setCell A ⟨b, 0, none⟩ x k (by have := (Array.getElem?_eq_some_iff.1 hx).1; rintro rfl; omega)).trans (h.2 k t cs hx ht hC)⟩
theorem digits_in (k : Nat) (n : Int) (w : World) :
    CallsIn Fence.wide k Tryz.prog 124 #[.int .u64 n] w fun e w' => e = .returned (.func (.func 204) #[] #[.pointer (some ⟨w.heap.size, 0, none⟩)]) ∧ w' = w.alloc (.cells #[.int .u64 n] 111) := by
  refine callsIn_of_wp Tryz.func124 rfl trivial ?_ rfl
  simp only [Tryz.ntmps124, List.size_toArray, List.length_cons, List.length_nil, Nat.reduceAdd, Nat.reduceSub, Array.replicate_succ, Array.replicate_zero, List.push_toArray, List.append_toArray, List.nil_append, List.cons_append]
  gi_wp2
  go_ret
  exact ⟨rfl, rfl⟩

set_option maxRecDepth 100000 in
set_option maxHeartbeats 4000000 in
theorem uint_any (C base n : Nat) (l : List UInt8) (w : World) (h : WrP w base C l) (hn : n < 18446744073709551616) (hl : l.length ≤ 1000000000000) :
    Calls Tryz.prog 63 #[.pointer (some ⟨C, 0, none⟩), .int .u64 (n : Int)] w fun e w' => e = .returned (.tuple #[]) ∧ WrP w' base C (l ++ uvB n) ∧ WrK w w' base C := by
  have mixed : Tryz.prog.follows Departure.mixedOrders = true := by kernel_rfl
  have hCl := h.lt
  have hbs : base ≤ w.heap.size := by have := h.1; omega
  obtain ⟨hb, v, hC, hown⟩ := id h
  have d1 := (hC.alloc (.cells #[.pointer (some ⟨C, 0, none⟩)] 108)).cell 0
  simp only [List.getElem?_toArray, List.getElem?_cons_zero] at d1
  have Hh := Lib.hid h
  clear hC hown h
  refine (callsIn_wide (n := 8)).1 ?_
  refine callsIn_of_wp_marks Tryz.func63 rfl trivial ?_ rfl
  simp only [Tryz.ntmps63, List.size_toArray, List.length_cons, List.length_nil, Nat.reduceAdd, Nat.reduceSub, Array.replicate_succ, Array.replicate_zero, List.push_toArray, List.append_toArray, List.nil_append, List.cons_append]
  gi_wp2_with (refine ⟨trivial, ?_⟩; gi_at_call 124; refine (digits_in _ _ _).mono ?_; rintro e w2 ⟨rfl, rfl⟩)
  have P0 := (Hh.out.keep ((Below.refl _ _).alloc (Nat.le_refl _) (.cells #[.pointer (some ⟨C, 0, none⟩)] 108))).keep ((Below.refl _ _).alloc (Nat.le_refl _) (.cells #[.int .u64 (n : Int)] 111))
  have X0 := (Boxed.new w 108 (.pointer (some ⟨C, 0, none⟩))).alloc (.cells #[.int .u64 (n : Int)] 111)
  have X1 := Boxed.new (w.alloc (.cells #[.pointer (some ⟨C, 0, none⟩)] 108)) 111 (.int .u64 (n : Int))
  have K0 : WrK w ((w.alloc (.cells #[.pointer (some ⟨C, 0, none⟩)] 108)).alloc (.cells #[.int .u64 (n : Int)] 111)) base C := WrK.of_below (((Below.refl _ _).alloc (Nat.le_refl _) _).alloc (by simp) _) hbs
  rw [World.size_alloc] at X1
  have hsz : ((w.alloc (.cells #[.pointer (some ⟨C, 0, none⟩)] 108)).alloc (.cells #[.int .u64 (n : Int)] 111)).heap.size = w.heap.size + 2 := by simp
  obtain ⟨W0, hW0⟩ : ∃ W0, (w.alloc (.cells #[.pointer (some ⟨C, 0, none⟩)] 108)).alloc (.cells #[.int .u64 (n : Int)] 111) = W0 := ⟨_, rfl⟩
  rw [hW0] at P0 X0 X1 K0 hsz ⊢
  clear hW0
  refine rangeM rfl (by decide) (gf := 204) (lb := #[.pointer (some ⟨w.heap.size + 1, 0, none⟩)]) rfl trivial (enters_of Tryz.func204 (by kernel_rfl) rfl)
    (digits1_in (8 - 1) (by decide) (w.heap.size + 1) n hn W0 X1) (fun A B i o hm hi ho => ?mv) (fun h k => k.trans h) (fun W q o o' hq ho h1 h2 => World.putObj_heap_other (by omega)) (Below.refl _ _) (fun _ => rfl)
    (fun pre X => (Boxed X w.heap.size 108 (.pointer (some ⟨C, 0, none⟩)) ∧ WrP X base C (l ++ pre)) ∧ WrK w X base C ∧ ∃ u, Boxed X (w.heap.size + 1) 111 u) (fun _ _ _ => False)
    (fun s A B row hs hg hr => ⟨⟨(cells_same hg (fun r e => (hr r e).2) hs.1.1).trans hs.1.1, hs.1.2.nc hg (fun r e => (hr r e).2)⟩, hs.2.1.nc hbs hg (fun r e => by have := (hr r e).1; omega), hs.2.2.imp fun u hu => (cells_same hg (fun r e => (hr r e).2) hu).trans hu⟩)
    (fun _ _ _ _ _ h _ _ => h) (fun s A B hs hm => ?im) (fun _ _ _ _ h _ => h) ⟨⟨X0, by simpa using P0⟩, K0, _, X1⟩ ?act ?assign ?body ?done ?stop
  case mv =>
    obtain ⟨v0, v1, hb1, rfl⟩ := hm
    refine (Below.heap_setCell A ⟨w.heap.size + 1, 0, none⟩ v1 i (fun e => ?_)).trans hi
    subst e
    rw [show A.heap[w.heap.size + 1]? = _ from hb1] at hi
    cases hi; cases ho
  case im =>
    obtain ⟨v0, v1, hb1, rfl⟩ := hm
    exact ⟨⟨hs.1.1.other (by omega) _, hs.1.2.far hb1 (by decide) (by omega) _⟩, hs.2.1.set hbs (by omega) _, _, hb1.set _⟩
  case assign =>
    intro L x W K hK
    gi_wp2
    exact hK
  case body =>
    rintro L pre c X ⟨⟨hbw, hP⟩, hK, u0, hu0⟩ hlen
    unfold u8V
    obtain ⟨c8, hc8⟩ : ∃ c8 : Value, c8 = .int .u8 (c.toNat : Int) := ⟨_, rfl⟩
    have hpl : pre.length ≤ 10 := by have := uvB_len10 (n := n) (by omega); omega
    obtain ⟨_, v, hC, hown⟩ := id hP
    have hC1 := hC.cell 1
    simp only [List.getElem?_toArray, List.getElem?_cons_succ, List.getElem?_cons_zero] at hC1
    have hB1 := hbw.cell
    have Y0 : Below X.heap.size X (X.drew.alloc (.cells #[c8] 5)) := (Below.refl _ X).drew.alloc (by simp) _
    have hown2 : (X.drew.alloc (.cells #[c8] 5)).ownsRow base 5 1 v (l ++ pre).length (bV (l ++ pre)) := hown.kept (gbelow Y0) (Classical.em _)
    obtain ⟨v', w', hrun, hown', hgrow⟩ := run_app_u8 (X.drew.alloc (.cells #[c8] 5)) base v (l ++ pre).length (bV (l ++ pre)) hown2 ⟨X.heap.size, 0, none⟩ 1 1 [c8] rfl (news_at X.drew 5 [c8] X.heap.size rfl) (by intro u hu; simp at hu; rw [hu, hc8]; rfl) (by rw [List.length_append]; omega) (by have := hP.lt; have := Y0.size; omega)
    obtain ⟨s1, s2, s3, s4⟩ := WrP.store (m := [c]) hb (hC.keep Y0) hown2 hgrow (by rw [hc8] at hown'; exact hown')
    obtain ⟨g, cap, rfl⟩ := ownsRow_succ hown'
    have hbw2 : Boxed w' w.heap.size 108 (.pointer (some ⟨C, 0, none⟩)) := (hbw.kept (gbelow Y0) (by simp)).kept hgrow (own_ne hown2 (show Whole _ _ _ _ from hbw.kept (gbelow Y0) (by simp)) (by decide))
    have e1 := s4.cell 1
    have e2 := s4.fr 1
    simp only [List.getElem?_toArray, List.getElem?_cons_succ, List.getElem?_cons_zero] at e1
    have d0 := acell (w := X) (.cells #[c8] 5) hC1
    have HR := Lib.hid hrun
    have SA := Lib.hid hB1
    have SB : Hid ((X.drew.alloc (.cells #[c8] 5)).cell? ⟨w.heap.size, 0, none⟩ = some (.pointer (some ⟨C, 0, none⟩))) := Lib.hid (bcell hB1 Y0)
    have SC : Hid (w'.cell? ⟨w.heap.size, 0, none⟩ = some (.pointer (some ⟨C, 0, none⟩))) := Lib.hid hbw2.cell
    have SD : Hid ((w'.setCell ⟨C, 1, none⟩ (.slice (some ⟨g, 0, none⟩) ((l ++ pre).length + 1) cap)).cell? ⟨w.heap.size, 0, none⟩ = some (.pointer (some ⟨C, 0, none⟩))) := Lib.hid ((World.cell?_setCell_other w' ⟨C, 1, none⟩ ⟨w.heap.size, 0, none⟩ _ (by simp)).trans hbw2.cell)
    have FIN : Hid (KeepsOthers X (w'.setCell ⟨C, 1, none⟩ (.slice (some ⟨g, 0, none⟩) ((l ++ pre).length + 1) cap)) ∧ DigK (w.heap.size + 1) X (w'.setCell ⟨C, 1, none⟩ (.slice (some ⟨g, 0, none⟩) ((l ++ pre).length + 1) cap)) ∧ (Boxed (w'.setCell ⟨C, 1, none⟩ (.slice (some ⟨g, 0, none⟩) ((l ++ pre).length + 1) cap)) w.heap.size 108 (.pointer (some ⟨C, 0, none⟩)) ∧ WrP (w'.setCell ⟨C, 1, none⟩ (.slice (some ⟨g, 0, none⟩) ((l ++ pre).length + 1) cap)) base C (l ++ (pre ++ [c]))) ∧ WrK w (w'.setCell ⟨C, 1, none⟩ (.slice (some ⟨g, 0, none⟩) ((l ++ pre).length + 1) cap)) base C ∧ ∃ u, Boxed (w'.setCell ⟨C, 1, none⟩ (.slice (some ⟨g, 0, none⟩) ((l ++ pre).length + 1) cap)) (w.heap.size + 1) 111 u) := by
      have hu1 := hu0.kept (gbelow Y0) (by simp)
      have hu2 := s2.whole (show Whole _ _ _ _ from hu1) (by decide) (by omega)
      refine Lib.hid ⟨((KeepsOthers.drew X).trans (KeepsOthers.alloc _ _)).trans s3, ?_, ⟨hbw2.kept (grown_set (World.grownBy.refl w' (some C)) 1 _) (by simp; omega), by rw [← List.append_assoc]; exact s1⟩, hK.trans ((WrK.of_below Y0 (by have := hP.lt; omega)).trans s2), u0, hu2⟩
      exact (show _ = _ from hu2).trans (show _ = _ from hu0).symm
    subst hc8
    generalize (l ++ pre).length = N at HR SD FIN
    clear hrun hown' hgrow hown2 Y0 hown s1 s2 s3 s4 hbw2 hP hK hbw hC
    gi_wp2
    refine region_held_in L _ mixed (by kernel_rfl) (by rintro ⟨a, w, h⟩; exact h) (S := fun wx => wx.cell? ⟨w.heap.size, 0, none⟩ = some (.pointer (some ⟨C, 0, none⟩))) SA.out (fun hHeld => ?_)
    refine wpAnyH_take (i := 0) (v := ?_) rfl (by kernel_rfl) (by kernel_rfl) (by kernel_rfl) (fun _ _ _ h => h) (Or.inl ⟨by rfl, ?_⟩) (by assumption) ?_
    rotate_left
    · intro w hSw
      go_simp
      try with_reducible rfl
    simp only [Act.put, List.getElem_toArray, List.getElem_cons_zero, List.setIfInBounds_toArray, List.set_cons_zero, List.set_cons_succ]
    refine wpAnyH_take (i := 1) (v := ?_) rfl (by kernel_rfl) (by kernel_rfl) (by kernel_rfl) (fun _ _ _ h => h) (Or.inl ⟨by rfl, ?_⟩) (by assumption) ?_
    rotate_left
    · intro w hSw
      go_simp
      try with_reducible rfl
    simp only [Act.put, List.getElem_toArray, List.getElem_cons_succ, List.getElem_cons_zero, List.setIfInBounds_toArray, List.set_cons_zero, List.set_cons_succ]
    refine wpAnyH_take (i := 2) (v := ?_) rfl (by kernel_rfl) (by kernel_rfl) (by kernel_rfl) (fun _ _ _ h => h) (Or.inl ⟨by rfl, ?_⟩) (by assumption) ?_
    rotate_left
    · intro w hSw
      go_simp
      try with_reducible rfl
    simp only [Act.put, List.getElem_toArray, List.getElem_cons_succ, List.getElem_cons_zero, List.setIfInBounds_toArray, List.set_cons_zero, List.set_cons_succ]
    refine wpAnyH_take (i := 3) (v := ?_) rfl (by kernel_rfl) (by kernel_rfl) (by kernel_rfl) (fun _ _ _ h => h) (Or.inl ⟨by rfl, ?_⟩) (by assumption) ?_
    rotate_left
    · intro w hSw
      go_simp
      try with_reducible rfl
    simp only [Act.put, List.getElem_toArray, List.getElem_cons_succ, List.getElem_cons_zero, List.setIfInBounds_toArray, List.set_cons_zero, List.set_cons_succ]
    refine wpAnyH_take (i := 5) (v := ?_) rfl (by kernel_rfl) (by kernel_rfl) (by kernel_rfl) (fun _ _ _ h => h) (Or.inl ⟨by rfl, ?_⟩) (by assumption) ?_
    rotate_left
    · intro w hSw
      go_simp
      try with_reducible rfl
    simp only [Act.put, List.getElem_toArray, List.getElem_cons_succ, List.getElem_cons_zero, List.setIfInBounds_toArray, List.set_cons_zero, List.set_cons_succ]
    refine wpAnyH_ready (rs := [4, 6]) (by kernel_rfl) (by simp) ?_
    refine AllReadyH.cons rfl (fun K hK => ?_) (AllReadyH.cons rfl (fun K hK => ?_) AllReadyH.nil)
    · go_simp
      refine hK.out _ _ ?_ (fun hHeld' => ?_)
      · exact SA.out
      clear hK K hHeld
      have hHeld := hHeld'
      clear hHeld'
      try simp only [Act.put, List.getElem_toArray, List.getElem_cons_succ, List.getElem_cons_zero, List.setIfInBounds_toArray, List.set_cons_zero, List.set_cons_succ]
      refine wpAnyH_ready (rs := [6]) (by kernel_rfl) (by simp) ?_
      refine AllReadyH.cons rfl (fun K hK => ?_) AllReadyH.nil
      go_simp
      refine hK.out _ _ ?_ (fun hHeld' => ?_)
      · exact SB.out
      clear hK K hHeld
      have hHeld := hHeld'
      clear hHeld'
      try simp only [Act.put, List.getElem_toArray, List.getElem_cons_succ, List.getElem_cons_zero, List.setIfInBounds_toArray, List.set_cons_zero, List.set_cons_succ]
      refine wpAnyH_ready (rs := [7]) (by kernel_rfl) (by simp) ?_
      refine AllReadyH.cons rfl (fun K hK => ?_) AllReadyH.nil
      refine step_append_run (by rfl) (.tmp 21) (.tmp 23) 22 22 (by rfl) (by rfl) (by rfl) HR.out ?_
      refine hK.out _ _ ?_ (fun hHeld' => ?_)
      · exact SC.out
      clear hK K hHeld
      have hHeld := hHeld'
      clear hHeld'
      try simp only [Act.put, List.getElem_toArray, List.getElem_cons_succ, List.getElem_cons_zero, List.setIfInBounds_toArray, List.set_cons_zero, List.set_cons_succ]
      refine wpAnyH_take (i := 8) (v := ?_) rfl (by kernel_rfl) (by kernel_rfl) (by kernel_rfl) (fun _ _ _ h => h) (Or.inl ⟨by rfl, ?_⟩) (by assumption) ?_
      rotate_left
      · intro w hSw
        go_simp
        try with_reducible rfl
      simp only [Act.put, List.getElem_toArray, List.getElem_cons_succ, List.getElem_cons_zero, List.setIfInBounds_toArray, List.set_cons_zero, List.set_cons_succ]
      refine wpAnyH_take (i := 9) (v := ?_) rfl (by kernel_rfl) (by kernel_rfl) (by kernel_rfl) (fun _ _ _ h => h) (Or.inl ⟨by rfl, ?_⟩) (by assumption) ?_
      rotate_left
      · intro w hSw
        go_simp
        try with_reducible rfl
      simp only [Act.put, List.getElem_toArray, List.getElem_cons_succ, List.getElem_cons_zero, List.setIfInBounds_toArray, List.set_cons_zero, List.set_cons_succ]
      refine wpAnyH_ready (rs := [10]) (by kernel_rfl) (by simp) ?_
      refine AllReadyH.cons rfl (fun K hK => ?_) AllReadyH.nil
      go_simp
      refine hK.out _ _ ?_ (fun hHeld' => ?_)
      · exact SD.out
      clear hK K hHeld
      have hHeld := hHeld'
      clear hHeld'
      try simp only [Act.put, List.getElem_toArray, List.getElem_cons_succ, List.getElem_cons_zero, List.setIfInBounds_toArray, List.set_cons_zero, List.set_cons_succ]
      refine wpAnyH_done (by kernel_rfl) ?_ _
      exact FIN.out
    · go_simp
      refine hK.out _ _ ?_ (fun hHeld' => ?_)
      · exact SB.out
      clear hK K hHeld
      have hHeld := hHeld'
      clear hHeld'
      try simp only [Act.put, List.getElem_toArray, List.getElem_cons_succ, List.getElem_cons_zero, List.setIfInBounds_toArray, List.set_cons_zero, List.set_cons_succ]
      refine wpAnyH_ready (rs := [4]) (by kernel_rfl) (by simp) ?_
      refine AllReadyH.cons rfl (fun K hK => ?_) AllReadyH.nil
      go_simp
      refine hK.out _ _ ?_ (fun hHeld' => ?_)
      · exact SB.out
      clear hK K hHeld
      have hHeld := hHeld'
      clear hHeld'
      try simp only [Act.put, List.getElem_toArray, List.getElem_cons_succ, List.getElem_cons_zero, List.setIfInBounds_toArray, List.set_cons_zero, List.set_cons_succ]
      refine wpAnyH_ready (rs := [7]) (by kernel_rfl) (by simp) ?_
      refine AllReadyH.cons rfl (fun K hK => ?_) AllReadyH.nil
      refine step_append_run (by rfl) (.tmp 21) (.tmp 23) 22 22 (by rfl) (by rfl) (by rfl) HR.out ?_
      refine hK.out _ _ ?_ (fun hHeld' => ?_)
      · exact SC.out
      clear hK K hHeld
      have hHeld := hHeld'
      clear hHeld'
      try simp only [Act.put, List.getElem_toArray, List.getElem_cons_succ, List.getElem_cons_zero, List.setIfInBounds_toArray, List.set_cons_zero, List.set_cons_succ]
      refine wpAnyH_take (i := 8) (v := ?_) rfl (by kernel_rfl) (by kernel_rfl) (by kernel_rfl) (fun _ _ _ h => h) (Or.inl ⟨by rfl, ?_⟩) (by assumption) ?_
      rotate_left
      · intro w hSw
        go_simp
        try with_reducible rfl
      simp only [Act.put, List.getElem_toArray, List.getElem_cons_succ, List.getElem_cons_zero, List.setIfInBounds_toArray, List.set_cons_zero, List.set_cons_succ]
      refine wpAnyH_take (i := 9) (v := ?_) rfl (by kernel_rfl) (by kernel_rfl) (by kernel_rfl) (fun _ _ _ h => h) (Or.inl ⟨by rfl, ?_⟩) (by assumption) ?_
      rotate_left
      · intro w hSw
        go_simp
        try with_reducible rfl
      simp only [Act.put, List.getElem_toArray, List.getElem_cons_succ, List.getElem_cons_zero, List.setIfInBounds_toArray, List.set_cons_zero, List.set_cons_succ]
      refine wpAnyH_ready (rs := [10]) (by kernel_rfl) (by simp) ?_
      refine AllReadyH.cons rfl (fun K hK => ?_) AllReadyH.nil
      go_simp
      refine hK.out _ _ ?_ (fun hHeld' => ?_)
      · exact SD.out
      clear hK K hHeld
      have hHeld := hHeld'
      clear hHeld'
      try simp only [Act.put, List.getElem_toArray, List.getElem_cons_succ, List.getElem_cons_zero, List.setIfInBounds_toArray, List.set_cons_zero, List.set_cons_succ]
      refine wpAnyH_done (by kernel_rfl) ?_ _
      exact FIN.out
  case done =>
    rintro D xs W hD rfl ⟨⟨hbw, hP⟩, hK, _⟩ hD2
    gi_wp2
    refine ⟨by simp, .inl ⟨_, _, rfl, run_takeDeferred hD2, ?_⟩⟩
    exact ⟨_, results_none rfl _ _ _, rfl, hP.nc (grownBy_putObj' _ D _) (fun r e => by cases e; exact ⟨_, hD2, rfl⟩), hK.nc hbs (grownBy_putObj' _ D _) (fun r e => by cases e; omega)⟩
  case stop =>
    rintro D c pre W hD _ h _
    exact h.elim
end
section
open Go.RowKit Go.Shelf

theorem wnew_any (w : World) : Calls Tryz.prog 62 #[] w fun e w' => e = .returned (.pointer (some ⟨w.heap.size, 0, none⟩)) ∧ w' = w.alloc (.cells #[.bool true, .slice none 0 0] 164) := by
  go_enter Tryz.func62, Tryz.ntmps62
  go_wp2
  go_ret
  exact ⟨rfl, rfl⟩
theorem WrP.new (w : World) {base : Nat} (h : base ≤ w.heap.size) : WrP (w.alloc (.cells #[.bool true, .slice none 0 0] 164)) base w.heap.size [] :=
  ⟨h, _, Whole.new w _ _, World.ownsRow_nil _ _ _ _⟩
set_option maxHeartbeats 1000000 in
theorem wint_any (C base : Nat) (n : Int) (l : List UInt8) (w : World) (h : WrP w base C l) (h1 : -9223372036854775808 ≤ n) (h2 : n ≤ 9223372036854775807) (hl : l.length ≤ 1000000000000) :
    Calls Tryz.prog 64 #[.pointer (some ⟨C, 0, none⟩), .int .i64 n] w fun e w' => e = .returned (.tuple #[]) ∧ WrP w' base C (l ++ uvB (zig n)) ∧ WrK w w' base C := by
  have U := Lib.hid (uint_any C base (zig n) l w h (by have := zig_lt h1 h2; omega) hl)
  have Z := Lib.hid (zig_any n w h1 h2)
  generalize zig n = z at U Z ⊢
  clear h h1 h2 hl
  go_enter Tryz.func64, Tryz.ntmps64
  go_wp2_with (first
    | (go_at_call 125; refine Z.out.mono ?_; rintro e w1 ⟨rfl, rfl⟩)
    | (go_at_call 63; refine U.out.mono ?_; rintro e w1 ⟨rfl, hP, hK⟩))
  go_end0
  exact ⟨rfl, hP, hK⟩
set_option maxHeartbeats 2000000 in
theorem wtext_any (C base : Nat) (s : ByteArray) (l : List UInt8) (w : World) (h : WrP w base C l) (hs : s.size ≤ 1000000000) (hl : l.length ≤ 100000000000) :
    Calls Tryz.prog 65 #[.pointer (some ⟨C, 0, none⟩), .string s] w fun e w' => e = .returned (.tuple #[]) ∧ WrP w' base C (l ++ txB s.data.toList) ∧ WrK w w' base C := by
  have hlen : s.data.toList.length = s.size := by rw [← Lib.size_eq]
  have U := Lib.hid (uint_any C base s.size l w h (by omega) (by omega))
  have HE : Hid (∀ w1 w2, WrK w w1 base C → WrK w1 w2 base C → WrP w2 base C ((l ++ uvB s.size) ++ s.data.toList) → WrP w2 base C (l ++ txB s.data.toList) ∧ WrK w w2 base C) := Lib.hid (fun w1 w2 h1 h2 h3 => ⟨by unfold txB; rw [hlen, ← List.append_assoc]; exact h3, h1.trans h2⟩)
  have HB : Hid ((uvB s.size).length ≤ 10) := Lib.hid (uvB_len10 (by omega))
  have HL := Lib.hid hlen
  clear h hlen
  go_enter Tryz.func65, Tryz.ntmps65
  go_upto_region 1 with (go_at_call 63; refine U.out.mono ?_; rintro e w1 ⟨rfl, hP, hK⟩)
  obtain ⟨hb, v, hC, hown⟩ := id hP
  have c0 := hC.cell 0
  have c1 := hC.cell 1
  simp only [List.getElem?_toArray, List.getElem?_cons_succ, List.getElem?_cons_zero] at c0 c1
  obtain ⟨v', w', hrun, hown', hgrow⟩ := run_app_str w1 base v (l ++ uvB s.size).length (bV (l ++ uvB s.size)) hown s (by have := HB.out; rw [List.length_append]; omega) (by have := hC.lt; omega)
  obtain ⟨s1, s2, s3, s4⟩ := WrP.store (m := s.data.toList) hb hC hown hgrow (by rw [HL.out]; exact hown')
  have e1 := s4.cell 1
  have e2 := s4.fr 1
  simp only [List.getElem?_toArray, List.getElem?_cons_succ, List.getElem?_cons_zero] at e1
  have HR := Lib.hid hrun
  have HF := Lib.hid (HE.out w1 _ hK s2 s1)
  have hv' : ∃ A n c, v' = .slice A n c := by
    rcases hown'.2 with ⟨e, _⟩ | ⟨g, cap, cur, e, _⟩
    · exact ⟨_, _, _, e⟩
    · exact ⟨_, _, _, e⟩
  obtain ⟨A, n, c, rfl⟩ := hv'
  clear hP hK hC hown hrun hown' hgrow s1 s2 s3 s4 hs hl
  go_wp2_with (at_builtin; refine wpList_append_run rfl (.tmp 21) (.tmp 22) 22 9 rfl rfl rfl HR.out ?_)
  go_end0
  exact ⟨rfl, HF.out⟩
/-- A slice of bytes, with its address. -/
theorem slB_at {w : World} {A : Option Addr} {n : Nat} {l : List UInt8} (h : SlB w A n l) (hn : 0 < n) : ∃ g o, A = some ⟨g, o, none⟩ ∧ ∀ (i : Nat) c, l[i]? = some c → w.cell? ⟨g, o + i, none⟩ = some (u8V c) := by
  obtain ⟨g, o, rfl, _⟩ := h.2 0 _ (List.getElem?_eq_getElem (show 0 < l.length by have := h.1; omega))
  exact ⟨g, o, rfl, fun i c hi => by obtain ⟨g', o', e, hc⟩ := h.2 i c hi; cases e; exact hc⟩
set_option maxRecDepth 100000 in
/-- bytes.Clone. -/
theorem bclone_nil (w : World) : Calls Tryz.prog 13 #[.slice none 0 0] w fun e w' => e = .returned (.slice none 0 0) ∧ w = w' := by
  have hE := fun W => Lib.run_eql_slice_nil (P := Tryz.prog) W 22 5 none 0 0 0 0 Tryz.underlying22
  simp only [Option.isNone_none] at hE
  go_enter Tryz.func13, Tryz.ntmps13
  go_wp2
  go_ret
  exact ⟨rfl, rfl⟩
theorem run_app_src (w : World) (A : Option Addr) (n c : Nat) (l : List UInt8) (h : SlB w A n l) (hn : n ≤ 1000000000000) {base : Nat} {v : Value} {k : Nat} {xs : List Value} (hown : w.ownsRow base 5 1 v k xs) (hk : k + n ≤ 1099511627776) (hbase : base ≤ w.heap.size) :
    ∃ v' w', (Builtin.append_ #[22, 22] 22 #[v, .slice A n c]).run Tryz.prog w = .ok v' w' ∧ w'.ownsRow base 5 1 v' (k + n) (xs ++ bV l) ∧ w.grownBy w' v.ownBlock := by
  by_cases h0 : n = 0
  · subst h0
    have hl : l = [] := List.eq_nil_of_length_eq_zero h.1
    subst hl
    obtain ⟨i, hi, hz0, hz1, hz2⟩ := info_parts infoB
    refine ⟨v, w, ?_, by simpa [bV] using hown, World.grownBy.refl w _⟩
    rcases hown.2 with ⟨rfl, rfl⟩ | ⟨g, cap, cur, rfl, _, _, hnc, _⟩
    · cases A <;> simp [Builtin.append_, run_underlying Tryz.underlying22, sizeOf, typeInfo, hi, Builtin.lenOf, Builtin.firstCells, loadCells, loadCellsFrom]
    · cases A <;> simp [Builtin.append_, run_underlying Tryz.underlying22, sizeOf, typeInfo, hi, Builtin.lenOf, Builtin.firstCells, hnc, storeCells, loadCells, loadCellsFrom]
  · obtain ⟨g, o, rfl, hc⟩ := slB_at h (by omega)
    exact run_app_u8 w base v k xs hown ⟨g, o, none⟩ n c (bV l) (by rw [bV_len]; exact h.1) (fun j u hj => by
      unfold bV at hj
      rw [List.getElem?_map] at hj
      cases hx : l[j]? with
      | none => rw [hx] at hj; cases hj
      | some x =>
        rw [hx] at hj
        cases hj
        have := hc j x hx
        unfold Addr.add
        split
        · subst_vars; simpa using this
        · exact this) (fun u hu => by unfold bV at hu; obtain ⟨x, _, rfl⟩ := List.mem_map.1 hu; rfl) hk hbase
set_option maxRecDepth 100000 in
theorem bclone_any (A : Option Addr) (n c : Nat) (l : List UInt8) (w : World) (h : SlB w A n l) (hn : n ≤ 1000000000000) :
    Calls Tryz.prog 13 #[.slice A n c] w fun e w' => (∃ v, e = .returned v ∧ w'.ownsRow w.heap.size 5 1 v n (bV l)) ∧ Below w.heap.size w w' := by
  by_cases hA : A = none
  · subst hA
    have h0 : n = 0 := by
      rcases Nat.eq_zero_or_pos n with h1 | h1
      · exact h1
      · obtain ⟨g, o, e, _⟩ := slB_at h h1; cases e
    subst h0
    obtain rfl : l = [] := List.eq_nil_of_length_eq_zero h.1
    have hE := fun W => Lib.run_eql_slice_nil (P := Tryz.prog) W 22 5 none 0 c 0 0 Tryz.underlying22
    simp only [Option.isNone_none] at hE
    go_enter Tryz.func13, Tryz.ntmps13
    go_wp2
    go_ret
    exact ⟨⟨_, rfl, World.ownsRow_nil _ _ _ _⟩, Below.refl _ _⟩
  · obtain ⟨a, rfl⟩ : ∃ a, A = some a := by cases A with | none => exact absurd rfl hA | some a => exact ⟨a, rfl⟩
    have hE := fun W => Lib.run_eql_slice_nil (P := Tryz.prog) W 22 5 (some a) n c 0 0 Tryz.underlying22
    simp only [Option.isNone_some] at hE
    go_enter Tryz.func13, Tryz.ntmps13
    go_upto_region 3 with fail
    have h2 := h.keep ((Below.refl _ w).alloc (Nat.le_refl _) (.cells #[] 5))
    have hm : (w.alloc (.cells #[] 5)).ownsRow w.heap.size 5 1 (.slice (some ⟨w.heap.size, 0, none⟩) 0 0) 0 [] := World.ownsRow_made _ _ _ (Nat.le_refl _) (Nat.zero_le _) rfl
    obtain ⟨v', w', hrun, hown', hgrow⟩ := run_app_src _ (some a) n c l h2 hn hm (by omega) (by simp)
    have HR := Lib.hid hrun
    rw [Nat.zero_add, List.nil_append] at hown'
    have HF : Hid (w'.ownsRow w.heap.size 5 1 v' n (bV l) ∧ Below w.heap.size w w') := Lib.hid ⟨hown', ((Below.refl _ w).alloc (Nat.le_refl _) _).grown hgrow (by simp) (fun k e => by simp [Value.ownBlock] at e; omega)⟩
    clear hrun hown' hgrow hm h2 h hE
    go_wp2_with (at_builtin; refine wpList_append_run rfl (.tmp 5) (.tmp 6) 22 22 rfl rfl rfl HR.out ?_)
    go_ret
    exact ⟨⟨_, rfl, HF.out.1⟩, HF.out.2⟩
set_option maxHeartbeats 1000000 in
theorem wbytes_any (C base : Nat) (l : List UInt8) (w : World) (h : WrP w base C l) (hl : l.length ≤ 1000000000000) :
    Calls Tryz.prog 127 #[.pointer (some ⟨C, 0, none⟩)] w fun e w' => (∃ v, e = .returned v ∧ w'.ownsRow w.heap.size 5 1 v l.length (bV l)) ∧ Below w.heap.size w w' := by
  obtain ⟨hb, v, hC, hown⟩ := id h
  have hv : ∃ A c, v = .slice A l.length c := by
    rcases hown.2 with ⟨e, h0⟩ | ⟨g, cap, cur, e, _⟩
    · exact ⟨none, 0, by rw [e, h0]⟩
    · exact ⟨_, _, e⟩
  obtain ⟨A, c, rfl⟩ := hv
  have B := Lib.hid (bclone_any A l.length c l w (SlB.of_own hown) hl)
  have c1 := hC.cell 1
  simp only [List.getElem?_toArray, List.getElem?_cons_succ, List.getElem?_cons_zero] at c1
  clear hC hown h hl
  generalize l.length = N at B c1 ⊢
  go_enter Tryz.func127, Tryz.ntmps127
  go_wp2_with (go_at_call 13; refine B.out.mono ?_; rintro e w1 ⟨⟨v1, rfl, ho⟩, hB⟩)
  go_ret
  exact ⟨⟨_, rfl, ho⟩, hB⟩
end
section
open Go.RowKit Go.Shelf

/-- What Encode answers. -/
def EncR (w w' : World) (d : Dv) (e : Ending) : Prop :=
  (defOk d ∧ ∃ v, e = .returned (.tuple #[v, .int .i64 0]) ∧ w'.ownsRow w.heap.size 5 1 v (bytesD d).length (bV (bytesD d))) ∨ (¬ defOk d ∧ e = .returned (.tuple #[.slice none 0 0, .int .i64 15]))
theorem txB_len (s : List UInt8) (h : s.length ≤ 65536) : (txB s).length ≤ 10 + s.length := by
  have := uvB_len10 (n := s.length) (by omega)
  unfold txB; rw [List.length_append]; omega
theorem spB_len {p : Sp} (h : stOk p = true) : (spB p).length ≤ 40 := by
  obtain ⟨h1, _, h3, h4⟩ := stOk_parts h
  have hl := (isName_len h1).2.1
  have := txB_len p.k.data.toList (by omega)
  have := uvB_len10 (zig_lt (a := p.v) (by omega) (by omega))
  unfold spB; rw [List.length_append]; omega
/-- The bytes ahead of the steps, and those of the first steps. -/
def numsD (d : Dv) : List Nat := [d.r.toNat, d.dl.toNat, d.s.length]
def preD (d : Dv) (k : Nat) : List UInt8 := txB d.n.data.toList ++ ((numsD d).take k).flatMap uvB
def bysD (d : Dv) (k : Nat) : List UInt8 := preD d 3 ++ (d.s.take k).flatMap spB
theorem preD_next {d : Dv} {k m : Nat} (h : (numsD d)[k]? = some m) : preD d k ++ uvB m = preD d (k + 1) := by
  unfold preD
  rw [List.take_add_one, h]
  simp
theorem bysD_next {d : Dv} {k : Nat} {p : Sp} (h : d.s[k]? = some p) : bysD d k ++ spB p = bysD d (k + 1) := by
  unfold bysD
  rw [List.take_add_one, h]
  simp
theorem bysD_all (d : Dv) : bysD d d.s.length = bytesD d := by
  unfold bysD preD bytesD numsD
  rw [List.take_length]
  simp
theorem bysD_zero (d : Dv) : bysD d 0 = preD d 3 := by unfold bysD; simp
theorem preD_zero (d : Dv) : preD d 0 = [] ++ txB d.n.data.toList := by unfold preD; simp
theorem defOk_hd {d : Dv} (h : defOk d) : hdOk d := ⟨h.1, ⟨h.2.1, h.2.2.1⟩, ⟨h.2.2.2.1, h.2.2.2.2.1⟩, h.2.2.2.2.2.1, h.2.2.2.2.2.2.1⟩
theorem numsD_len {d : Dv} (h : hdOk d) (k : Nat) : (((numsD d).take k).flatMap uvB).length ≤ 30 := by
  obtain ⟨_, h2, h3, _, h5⟩ := h
  have a := uvB_len10 (n := d.r.toNat) (by omega)
  have b := uvB_len10 (n := d.dl.toNat) (by omega)
  have c := uvB_len10 (n := d.s.length) (by omega)
  unfold numsD
  match k with
  | 0 => simp
  | 1 => simp; omega
  | 2 => simp; omega
  | k + 3 => simp; omega
theorem preD_len {d : Dv} (h : hdOk d) (k : Nat) : (preD d k).length ≤ 60 := by
  have h1 := (isName_len h.1).2.1
  have := txB_len d.n.data.toList (by omega)
  have := numsD_len h k
  unfold preD; rw [List.length_append]; omega
theorem steps_len : ∀ (s : List Sp), (∀ p ∈ s, stOk p = true) → (s.flatMap spB).length ≤ 40 * s.length
  | [], _ => by simp
  | p :: s, h => by
    have := spB_len (h p (by simp))
    have := steps_len s (fun q hq => h q (by simp [hq]))
    rw [List.flatMap_cons, List.length_append, List.length_cons]; omega
theorem bysD_len {d : Dv} (h : defOk d) (k : Nat) : (bysD d k).length ≤ 400 := by
  have h0 := preD_len (defOk_hd h) 3
  have h1 := steps_len (d.s.take k) (fun p hp => h.2.2.2.2.2.2.2.all (List.mem_of_mem_take hp))
  have h2 := h.2.2.2.2.2.2.1
  have h3 : (d.s.take k).length ≤ d.s.length := by rw [List.length_take]; omega
  unfold bysD; rw [List.length_append]; omega
set_option maxRecDepth 100000 in
set_option maxHeartbeats 8000000 in
theorem defEncode_any (d : Dv) (A : Option Addr) (n c : Nat) (w : World) (h : DefAt w A n c d) :
    Calls Tryz.prog 185 #[dV d A n c] w fun e w' => EncR w w' d e ∧ Below w.heap.size w w' := by
  have b1 := (Below.refl w.heap.size w).alloc (Nat.le_refl _) (.cells #[.string d.n, .int .i64 d.r, .int .i64 d.dl, .slice A n c] 31)
  have CK := Lib.hid (defCheck_any d A n c _ (h.keep b1))
  have HW0 := Lib.hid (Whole.new w 31 #[.string d.n, .int .i64 d.r, .int .i64 d.dl, .slice A n c])
  have HB := Lib.hid b1
  have H := Lib.hid h
  have hbig := h.big
  unfold dV at CK ⊢
  clear h b1
  by_cases hok : defOk d
  case neg =>
    rw [ckD_no hok] at CK
    have HN := Lib.hid hok
    clear hok
    go_enter Tryz.func185, Tryz.ntmps185
    go_wp2_with (go_at_call 183; refine CK.out.mono ?_; rintro e w1 ⟨rfl, hb⟩)
    go_ret2
    exact ⟨Or.inr ⟨HN.out, rfl⟩, HB.out.trans (hb.mono HB.out.size)⟩
  rw [ckD_yes hok] at CK
  have HOK := Lib.hid hok
  have HL := Lib.hid H.out.len
  have hnl : d.n.size ≤ 1000000000 := by have := (isName_len hok.1).2.1; rw [Lib.size_eq]; omega
  obtain ⟨_, r0, r1, t0, t1, n1, n8, _⟩ := id hok
  rw [HL.out] at n1 n8
  clear hok
  go_enter Tryz.func185, Tryz.ntmps185
  go_upto_region 4 with (go_at_call 183; refine CK.out.mono ?_; rintro e w1 ⟨rfl, hb⟩)
  have BW := Lib.hid (HB.out.trans (hb.mono HB.out.size))
  have HW1 := Lib.hid (HW0.out.keep hb)
  clear CK hb HW0 HB
  have HT := Lib.hid (wtext_any w1.heap.size w1.heap.size d.n [] _ (WrP.new w1 (Nat.le_refl _)) hnl (by simp))
  have BN := (Below.refl _ w1).alloc (Nat.le_refl _) (.cells #[.bool true, .slice none 0 0] 164)
  have x0 := (HW1.out.keep BN).cell 0
  simp only [List.getElem?_toArray, List.getElem?_cons_zero] at x0
  go_upto_region 6 with (first
    | (go_at_call 62; refine (wnew_any _).mono ?_; rintro e w2 ⟨rfl, rfl⟩)
    | (go_at_call 65; refine HT.out.mono ?_; rintro e w3 ⟨rfl, hP3, hK3⟩))
  have B3 := Lib.hid (BN.trans hK3.1)
  have HP3 := Lib.hid hP3
  have X := HW1.out.keep B3.out
  have x1 := X.cell 1
  have x2 := X.cell 2
  have x3 := X.cell 3
  simp only [List.getElem?_toArray, List.getElem?_cons_succ, List.getElem?_cons_zero] at x1 x2 x3
  clear X BN hP3 hK3 x0 HT
  have hlt := HW1.out.lt
  have hC3 := HP3.out.lt
  go_wp2_with fail
  have BA := (Below.refl _ w3).alloc (Nat.le_refl _) (.cells #[.int .i64 d.r, .int .i64 d.dl, .int .i64 (n : Int)] 3)
  have NA := Whole.new w3 3 #[.int .i64 d.r, .int .i64 d.dl, .int .i64 (n : Int)]
  have P0 := HP3.out.keep BA
  have B0 := B3.out.trans (BA.mono (by have := B3.out.size; exact this))
  rw [← preD_zero] at P0
  have I0 := Lib.hid (And.intro P0 (And.intro B0 NA))
  generalize hwa : w3.alloc (.cells #[.int .i64 d.r, .int .i64 d.dl, .int .i64 (n : Int)] 3) = wa at I0 ⊢
  clear hwa BA NA P0 B0 x1 x2 x3 B3 HP3
  generalize hb3 : w3.heap.size = b3 at *
  clear hb3
  have HNUM : Hid (∀ k, k < 3 → ∃ m : Nat, (numsD d)[k]? = some m ∧ (#[Value.int .i64 d.r, .int .i64 d.dl, .int .i64 (n : Int)] : Array Value)[k]? = some (.int .i64 (m : Int)) ∧ m ≤ 1000000) := Lib.hid (fun k hk => by
    match k with
    | 0 => exact ⟨d.r.toNat, rfl, by rw [Int.toNat_of_nonneg r0]; rfl, by omega⟩
    | 1 => exact ⟨d.dl.toNat, rfl, by rw [Int.toNat_of_nonneg t0]; rfl, by omega⟩
    | 2 => exact ⟨d.s.length, rfl, by rw [HL.out]; rfl, by rw [HL.out]; omega⟩)
  have HPL := Lib.hid (fun k => preD_len (defOk_hd HOK.out) k)
  clear r0 r1 t0 t1
  go_loopw [29] (fun i wr => ∃ k : Nat, k ≤ 3 ∧ i = .int .i64 k ∧ Hid (WrP wr w1.heap.size w1.heap.size (preD d k) ∧ Below w1.heap.size w1 wr ∧ Whole wr b3 3 #[.int .i64 d.r, .int .i64 d.dl, .int .i64 (n : Int)])) (fun i _ => 3 - (intOf i).toNat)
  case atStart => exact ⟨0, by omega, rfl, I0⟩
  case round =>
    clear I0
    obtain ⟨k, hk, rfl, HI⟩ := hrel
    by_cases hk3 : k < 3
    · obtain ⟨m, hm, hcell, hmb⟩ := HNUM.out k hk3
      rw [← HI.out.2.2.cell] at hcell
      have U := Lib.hid (uint_any w1.heap.size w1.heap.size m (preD d k) wr HI.out.1 (by omega) (by have := HPL.out k; omega))
      have hwm : IntKind.u64.wrap (m : Int) = (m : Int) := by rw [IntKind.wrap_u64]; omega
      have HN := Lib.hid (preD_next hm)
      have hk0 : (0 : Int) ≤ (k : Int) := by omega
      have hkn : (k : Int) < 3 := by omega
      clear hm
      go_wp2_with (go_at_call 63; refine U.out.mono ?_; rintro e w5 ⟨rfl, hP5, hK5⟩)
      go_roundw
      case rel => exact ⟨k + 1, by omega, by go_num, Lib.hid ⟨by rw [← HN.out]; exact hP5, HI.out.2.1.trans hK5.1, hK5.whole HI.out.2.2 (by decide) (by rintro rfl; exact absurd rfl (whole_ne HI.out.2.2 (show Whole wr w1.heap.size 164 _ from HI.out.1.2.choose_spec.1) (by decide)))⟩⟩
      case measure => simp [intOf]; omega
    · obtain rfl : k = 3 := by omega
      rw [show ((3 : Nat) : Int) = 3 from rfl]
      obtain ⟨wo, hwo⟩ : ∃ wo, wo = wr := ⟨_, rfl⟩
      subst hwo
      have x3 := (HW1.out.below HI.out.2.1 hlt).cell 3
      simp only [List.getElem?_toArray, List.getElem?_cons_succ, List.getElem?_cons_zero] at x3
      have J0 : Hid (WrP wo w1.heap.size w1.heap.size (bysD d 0) ∧ Below w1.heap.size w1 wo) := Lib.hid ⟨by rw [bysD_zero]; exact HI.out.1, HI.out.2.1⟩
      have HBL := Lib.hid (fun k => bysD_len HOK.out k)
      clear HI HNUM
      go_wp2_with fail
      go_loopw [41] (fun i wr => ∃ k : Nat, k ≤ n ∧ i = .int .i64 k ∧ Hid (WrP wr w1.heap.size w1.heap.size (bysD d k) ∧ Below w1.heap.size w1 wr)) (fun i _ => n - (intOf i).toNat)
      case atStart => exact ⟨0, by omega, rfl, J0⟩
      case round =>
        clear J0 x3
        obtain ⟨k, hk, rfl, HI⟩ := hrel
        by_cases hkn : k < n
        · obtain ⟨p, hp⟩ : ∃ p, d.s[k]? = some p := ⟨_, List.getElem?_eq_getElem (by rw [HL.out]; exact hkn)⟩
          have BT := BW.out.trans (HI.out.2.mono (by have := hlt; omega))
          obtain ⟨g, o, rfl, y0, y1⟩ := H.out.s.keep BT k p hp
          have hst := HOK.out.2.2.2.2.2.2.2.all (List.mem_of_getElem? hp)
          obtain ⟨hq1, _, hq3, hq4⟩ := stOk_parts hst
          have hkl : p.k.size ≤ 1000000000 := by have := (isName_len hq1).2.1; rw [Lib.size_eq]; omega
          have BA := (Below.refl _ wr).alloc (Nat.le_refl _) (.cells #[.string p.k, .int .i64 p.v] 53)
          have T := Lib.hid (wtext_any w1.heap.size w1.heap.size p.k (bysD d k) _ (HI.out.1.keep BA) hkl (by have := HBL.out k; omega))
          have NA := Lib.hid (Whole.new wr 53 #[.string p.k, .int .i64 p.v])
          have HN := Lib.hid (bysD_next hp)
          have HV := Lib.hid (And.intro hq3 hq4)
          have HTL : Hid ((bysD d k ++ txB p.k.data.toList).length ≤ 1000) := Lib.hid (by
            have h1 := HBL.out k
            have h2 := txB_len p.k.data.toList (by have := (isName_len hq1).2.1; omega)
            have h3 := (isName_len hq1).2.1
            rw [List.length_append]; omega)
          have HBA := Lib.hid BA
          have hk0 : (0 : Int) ≤ (k : Int) := by omega
          have hkn' : (k : Int) < (n : Int) := by omega
          have hwk : IntKind.i64.wrap ((k : Int) + 1) = (k : Int) + 1 := IntWalk.i64_in _ (by omega)
          have hwrC : wr.heap.size ≠ w1.heap.size := by have := HI.out.1.lt; omega
          clear hp BT hst hq1 hq3 hq4 BA
          go_upto_region 15 with (go_at_call 65; refine T.out.mono ?_; rintro e w5 ⟨rfl, hP5, hK5⟩)
          have NS := hK5.whole NA.out (by decide) hwrC
          have q1 := NS.cell 1
          simp only [List.getElem?_toArray, List.getElem?_cons_succ, List.getElem?_cons_zero] at q1
          have T2 := Lib.hid (wint_any w1.heap.size w1.heap.size p.v _ w5 hP5 (by have := HV.out.1; omega) (by have := HV.out.2; omega) (by have := HTL.out; omega))
          have HK5 := Lib.hid hK5
          clear NS hP5 hK5
          go_wp2_with (go_at_call 64; refine T2.out.mono ?_; rintro e w6 ⟨rfl, hP6, hK6⟩)
          go_roundw
          case rel => exact ⟨k + 1, by omega, by go_num, Lib.hid ⟨by rw [← HN.out]; unfold spB; rw [← List.append_assoc]; exact hP6, (HI.out.2.trans ((HBA.out.mono (by have := HI.out.1.lt; omega)).trans HK5.out.1)).trans hK6.1⟩⟩
          case measure => simp [intOf]; omega
        · obtain rfl : k = n := by omega
          have F := Lib.hid (wbytes_any w1.heap.size w1.heap.size _ wr HI.out.1 (by have := HBL.out k; omega))
          have HE := Lib.hid ((congrArg (bysD d) HL.out).symm.trans (bysD_all d))
          have BT := Lib.hid (BW.out.trans (HI.out.2.mono (by have := hlt; omega)))
          clear HI
          go_wp2_with (go_at_call 127; refine F.out.mono ?_; rintro e w7 ⟨⟨v7, rfl, ho7⟩, hB7⟩)
          go_ret2
          refine ⟨Or.inl ⟨HOK.out, _, rfl, ?_⟩, BT.out.trans (hB7.mono BT.out.size)⟩
          rw [HE.out] at ho7
          exact ho7.mono (by exact BT.out.size)
end
end Go.Proofs.YtgjnmfmbheejoaaGreatDoor
