/- Memory: blocks, rows and slices that are kept; appends as equations of runs. No condition. -/
import Derived.Test.YtgjnmfmbheejoaaGreatDoorWhole
import Derived.RangeFuncBox
import Derived.Handy
import Derived.Maps.AppendAt
import Derived.Deep.RegionHeld3
import Derived.Lib.Hide
namespace Go.Proofs.YtgjnmfmbheejoaaGreatDoor
open Go.RowKit

theorem lt_cell {w : World} {p : Addr} {v : Value} (h : w.cell? p = some v) : p.block < w.heap.size := by
  rcases Nat.lt_or_ge p.block w.heap.size with h1 | h1
  · exact h1
  · unfold World.cell? at h
    rw [Array.getElem?_eq_none h1] at h
    simp at h
theorem gbelow {w w' : World} (h : Below w.heap.size w w') : w.grownBy w' none := ⟨h.os, h.tape, h.output, h.size, fun k hk _ => h.block k hk⟩
theorem gcell {w w' : World} {row : Option Nat} {a : Addr} {u : Value} (h : w.cell? a = some u) (hg : w.grownBy w' row) (hne : some a.block ≠ row) : w'.cell? a = some u :=
  (World.cell?_of_block (hg.block a.block (lt_cell h) hne)).trans h
theorem bcell {w w' : World} {a : Addr} {u : Value} (h : w.cell? a = some u) (hb : Below w.heap.size w w') : w'.cell? a = some u := (hb.cell (lt_cell h)).trans h
theorem acell {w : World} {a : Addr} {v : Value} (o : Obj) (h : w.cell? a = some v) : (w.alloc o).cell? a = some v := bcell h ((Below.refl _ _).alloc (Nat.le_refl _) o)
theorem Whole.grown {w w' : World} {b : Nat} {t : TypeId} {cs : Array Value} {row : Option Nat} (h : Whole w b t cs) (hg : w.grownBy w' row) (hne : some b ≠ row) : Whole w' b t cs := (hg.block b h.lt hne).trans h
theorem Whole.keep {w w' : World} {b : Nat} {t : TypeId} {cs : Array Value} (h : Whole w b t cs) (hb : Below w.heap.size w w') : Whole w' b t cs := h.below hb h.lt
theorem whole_ne {w : World} {b b' : Nat} {t t' : TypeId} {cs cs' : Array Value} (h : Whole w b t cs) (h' : Whole w b' t' cs') (ht : t ≠ t') : b ≠ b' := by
  rintro rfl
  have e := (show w.heap[b]? = _ from h).symm.trans (show w.heap[b]? = _ from h')
  injection e with e
  injection e with _ e2 _
  exact ht e2
theorem own_ne {W : World} {base n size R : Nat} {e t : TypeId} {v : Value} {xs : List Value} {cs : Array Value} (h : W.ownsRow base e size v n xs) (hr : Whole W R t cs) (ht : t ≠ e) : some R ≠ v.ownBlock := by
  rcases h.2 with ⟨rfl, _⟩ | ⟨g, cap, cur, rfl, _, hg, _⟩
  · intro h; cases h
  · intro h
    obtain rfl : R = g := by simpa [Value.ownBlock] using h
    have e := (show W.heap[R]? = _ from hg).symm.trans (show W.heap[R]? = _ from hr)
    injection e with e
    injection e with _ e2 _
    exact ht e2.symm
theorem grown_trans {a b c : World} {row : Option Nat} (h : a.grownBy b row) (k : b.grownBy c row) : a.grownBy c row :=
  ⟨k.os.trans h.os, k.tape.trans h.tape, k.output.trans h.output, Nat.le_trans h.size k.size, fun i hi hne => (k.block i (Nat.lt_of_lt_of_le hi h.size) hne).trans (h.block i hi hne)⟩
theorem grown_below {a b c : World} {row : Option Nat} (h : a.grownBy b row) (k : Below b.heap.size b c) : a.grownBy c row :=
  ⟨k.os.trans h.os, k.tape.trans h.tape, k.output.trans h.output, Nat.le_trans h.size k.size, fun i hi hne => (k.block i (Nat.lt_of_lt_of_le hi h.size)).trans (h.block i hi hne)⟩
theorem below_grown {a b c : World} {row : Option Nat} (h : Below a.heap.size a b) (k : b.grownBy c row) : a.grownBy c row :=
  ⟨k.os.trans h.os, k.tape.trans h.tape, k.output.trans h.output, Nat.le_trans h.size k.size, fun i hi hne => (k.block i (Nat.lt_of_lt_of_le hi h.size) hne).trans (h.block i hi)⟩
theorem grown_set {a w : World} {g : Nat} (h : a.grownBy w (some g)) (i : Nat) (u : Value) : a.grownBy (w.setCell ⟨g, i, none⟩ u) (some g) :=
  ⟨h.os, h.tape, h.output, by simpa [World.setCell] using h.size, fun k hk hne => (Below.heap_setCell w ⟨g, i, none⟩ u k (by rintro rfl; exact hne rfl)).trans (h.block k hk hne)⟩
/-- An append whose run is known, at the walk's list. -/
theorem wpList_append_run {P : Program} {ops : Array Oper} {rest : List Oper} {o : Oper} {a : Act} {w : World} {Q : Exit → Act → World → Prop} (hgd : o.guard = none) (s x : Operand) (t t' : TypeId)
    (ho : o.op = .call { callee := .builtin .append, args := #[s, x], argTypes := #[t, t'] }) {v xv v' : Value} {w' : World} (hs : a.eval s = v) (hx : a.eval x = xv) (hrun : (Builtin.append_ #[t, t'] o.type #[v, xv]).run P w = .ok v' w')
    (h : wpList P ops Q rest (a.put o.dst v') w') : wpList P ops Q (o :: rest) a w :=
  wpList_plain hgd fun _ hK => by
    unfold Oper.wp execOp
    simp only [ho, resolve, invoke, builtin, Sem.run_bind, Sem.run_pure, Result.andThen_ok, List.map_toArray, List.map_cons, List.map_nil, hs, hx, hrun]
    exact hK _ _ h
theorem step_append_run {P : Program} {ops : Array Oper} {o : Oper} {a : Act} {w : World} {K : Act → World → Prop} {Q : Exit → Act → World → Prop} {E : Prop} (hgd : o.guard = none) (s x : Operand) (t t' : TypeId)
    (ho : o.op = .call { callee := .builtin .append, args := #[s, x], argTypes := #[t, t'] }) {v xv v' : Value} {w' : World} (hs : a.eval s = v) (hx : a.eval x = xv) (hrun : (Builtin.append_ #[t, t'] o.type #[v, xv]).run P w = .ok v' w')
    (h : K (a.put o.dst v') w') : if Region.wanted o (yielded ops a.tmps) = true then Oper.wp P o a w K Q else E := by
  have hw : Region.wanted o (yielded ops a.tmps) = true := by simp [Region.wanted, hgd]
  rw [if_pos hw]
  unfold Oper.wp execOp
  simp only [ho, resolve, invoke, builtin, Sem.run_bind, Sem.run_pure, Result.andThen_ok, List.map_toArray, List.map_cons, List.map_nil, hs, hx, hrun]
  exact h
/-- The cells of a new block, in order. -/
theorem news_at (w : World) (T : TypeId) (cs : List Value) (b : Nat) (hb : b = w.heap.size) : ∀ j u, cs[j]? = some u → (w.alloc (.cells cs.toArray T)).cell? ((⟨b, 0, none⟩ : Addr).add j) = some u := fun j u hj => by
  subst hb
  have h := (Whole.new w T cs.toArray).cell j
  rw [show (⟨w.heap.size, 0, none⟩ : Addr).add j = ⟨w.heap.size, j, none⟩ by unfold Addr.add; split <;> simp_all]
  rw [h]
  simpa using hj

/-- Bytes as values, and slices that read as bytes. -/
def u8V (c : UInt8) : Value := .int .u8 (c.toNat : Int)
def bV (l : List UInt8) : List Value := l.map u8V
theorem bV_len (l : List UInt8) : (bV l).length = l.length := List.length_map _
theorem bV_app (a b : List UInt8) : bV (a ++ b) = bV a ++ bV b := List.map_append
def SlB (w : World) (A : Option Addr) (n : Nat) (l : List UInt8) : Prop :=
  l.length = n ∧ ∀ (i : Nat) c, l[i]? = some c → ∃ g o, A = some ⟨g, o, none⟩ ∧ w.cell? ⟨g, o + i, none⟩ = some (u8V c)
theorem SlB.grown {w w' : World} {A : Option Addr} {n : Nat} {l : List UInt8} {row : Option Nat} (h : SlB w A n l) (hg : w.grownBy w' row) (hne : ∀ a : Addr, A = some a → l ≠ [] → some a.block ≠ row) : SlB w' A n l :=
  ⟨h.1, fun i c hi => by
    obtain ⟨g, o, rfl, hc⟩ := h.2 i c hi
    exact ⟨g, o, rfl, gcell hc hg (hne ⟨g, o, none⟩ rfl (fun e => by rw [e] at hi; simp at hi))⟩⟩
theorem SlB.keep {w w' : World} {A : Option Addr} {n : Nat} {l : List UInt8} (h : SlB w A n l) (hb : Below w.heap.size w w') : SlB w' A n l := h.grown (gbelow hb) (by simp)
theorem SlB.of_own {w : World} {base n c : Nat} {e : TypeId} {A : Option Addr} {l : List UInt8} (h : w.ownsRow base e 1 (.slice A n c) n (bV l)) : SlB w A n l := by
  have hn : l.length = n := by have := h.1; rw [bV_len] at this; omega
  refine ⟨hn, fun i x hi => ?_⟩
  have hlt : i < n := by rw [← hn]; exact (List.getElem?_eq_some_iff.1 hi).1
  rcases h.2 with ⟨_, h2⟩ | ⟨g, cap, cur, h1, _, _⟩
  · omega
  · cases h1
    refine ⟨g, 0, rfl, ?_⟩
    have e : (bV l)[i]? = some (u8V x) := by unfold bV; rw [List.getElem?_map, hi]; rfl
    have := h.cellAt i (by omega)
    rw [Nat.zero_add, this, e]
end Go.Proofs.YtgjnmfmbheejoaaGreatDoor
