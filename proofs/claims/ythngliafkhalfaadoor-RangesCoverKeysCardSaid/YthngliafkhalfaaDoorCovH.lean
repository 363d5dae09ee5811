/- Helpers for covers: appends of ranges as equations of runs, cuts of a slice of ranges, their cells. No condition. -/
import Derived.Test.YthngliafkhalfaaDoorCoverAll3
import Derived.Test.YthngliafkhalfaaDoorPlCov3
import Derived.Maps.AppendAt
namespace Go.Proofs.YthngliafkhalfaaDoor
open Go.RowKit

/-- append of ranges to a row of the call's own: the run's equation. -/
theorem run_append_rng (w : World) (base : Nat) (v : Value) (n : Nat) (xs : List Value) (hown : w.ownsRow base 23 2 v n xs) (a : Addr) (m c : Nat) (d : List LR) (hm : d.length = m) (hc : ∀ j u, (flatR d)[j]? = some u → w.cell? (a.add j) = some u) (hn : n + m ≤ 1000) (hbase : base ≤ w.heap.size) :
    ∃ v' w', (Builtin.append_ #[29, 29] 29 #[v, .slice (some a) m c]).run Tryd.prog w = .ok v' w' ∧ w'.ownsRow base 23 2 v' (n + m) (xs ++ flatR d) ∧ w.grownBy w' v.ownBlock := by
  obtain ⟨i, hi, hz0, hz1, hz2⟩ := info_parts infoR
  obtain ⟨v', w', hrun, h4, h5, _, _⟩ := run_append_own_at (P := Tryd.prog) w base 29 29 23 i (.agg #[.string ⟨#[]⟩, .string ⟨#[]⟩]) 2 32 Tryd.underlying29 hi hz0 hz1 hz2 rfl (by decide) v n xs hown a m c (flatR d) (by rw [flatR_len, hm]) hc (flatR_one d) (by unfold maxLen; omega) (by omega) hbase
  exact ⟨v', w', hrun, h4, h5⟩
/-- An append whose run is known, at a step of a region that draws. -/
theorem step_append_run {P : Program} {ops : Array Oper} {o : Oper} {a : Act} {w : World} {K : Act → World → Prop} {Q : Exit → Act → World → Prop} {E : Prop} (hgd : o.guard = none) (s x : Operand) (t : TypeId)
    (ho : o.op = .call { callee := .builtin .append, args := #[s, x], argTypes := #[t, t] }) {v xv v' : Value} {w' : World} (hs : a.eval s = v) (hx : a.eval x = xv) (hrun : (Builtin.append_ #[t, t] o.type #[v, xv]).run P w = .ok v' w')
    (h : K (a.put o.dst v') w') : if Region.wanted o (yielded ops a.tmps) = true then Oper.wp P o a w K Q else E := by
  have hw : Region.wanted o (yielded ops a.tmps) = true := by simp [Region.wanted, hgd]
  rw [if_pos hw]
  unfold Oper.wp execOp
  simp only [ho, resolve, invoke, builtin, Sem.run_bind, Sem.run_pure, Result.andThen_ok, List.map_toArray, List.map_cons, List.map_nil, hs, hx, hrun]
  exact h
set_option maxRecDepth 100000 in
theorem cut_from (g q M c : Nat) (h1 : q ≤ M) (w : World) : (Instr.slice 29 (.slice (some ⟨g, 0, none⟩) M c) (some (.int .i64 (q : Int))) none none).run Tryd.prog w = .ok (.slice (some ⟨g, if c = q then 0 else q * 2, none⟩) (M - q) (c - q)) w := by
  have hs : (sizeOf (Tryd.prog.elem 29)).run Tryd.prog w = .ok 2 w := by kernel_rfl
  have hu : Tryd.prog.underlying 29 = some (.slice (Tryd.prog.elem 29)) := by kernel_rfl
  rw [run_slice_l w 29 _ M c hu .i64 (q : Int) (by omega) (by omega), hs]
  show Result.ok (sliced _ q M c 2) w = _
  unfold sliced
  by_cases e : c = q
  · rw [if_pos e, if_pos e]
  · rw [if_neg e, if_neg e]
    simp only [Option.map_some]
    rw [show (⟨g, 0, none⟩ : Addr).add (q * 2) = ⟨g, q * 2, none⟩ by unfold Addr.add; split <;> simp_all]
set_option maxRecDepth 100000 in
theorem cut_to (g q M c : Nat) (h1 : q ≤ c) (w : World) : (Instr.slice 29 (.slice (some ⟨g, 0, none⟩) M c) none (some (.int .i64 (q : Int))) none).run Tryd.prog w = .ok (.slice (some ⟨g, 0, none⟩) q c) w := by
  have hs : (sizeOf (Tryd.prog.elem 29)).run Tryd.prog w = .ok 2 w := by kernel_rfl
  have hu : Tryd.prog.underlying 29 = some (.slice (Tryd.prog.elem 29)) := by kernel_rfl
  rw [run_slice_h w 29 _ M c hu .i64 (q : Int) (by omega) (by omega), hs]
  show Result.ok (sliced _ 0 q c 2) w = _
  unfold sliced
  congr 2
  simp [Addr.add]
theorem cells_own {w : World} {base g n cap : Nat} {d : List LR} (h : w.ownsRow base 23 2 (.slice (some ⟨g, 0, none⟩) n cap) n (flatR d)) (hn : d.length = n) : CellsR w g 0 (d.map toBA) :=
  cells_of_holds (holds_of_own h hn) (by simp)
theorem CellsR.drop {w : World} {b : Nat} {d : List LR} (h : CellsR w b 0 (d.map toBA)) (q : Nat) : CellsR w b (q * 2) ((d.drop q).map toBA) := fun i p hp => by
  rw [List.map_drop, List.getElem?_drop] at hp
  have h2 := h (q + i) p hp
  rw [show 0 + (q + i) * 2 = q * 2 + i * 2 by omega] at h2
  exact h2
theorem CellsR.take {w : World} {b : Nat} {d : List LR} (h : CellsR w b 0 (d.map toBA)) (q : Nat) : CellsR w b 0 ((d.take q).map toBA) := fun i p hp => by
  rw [List.map_take, List.getElem?_take] at hp
  split at hp
  · exact h i p hp
  · cases hp
theorem CellsR.keep {w w' : World} {b o : Nat} {ps : List (ByteArray × ByteArray)} (h : CellsR w b o ps) (hb : Below w.heap.size w w') : CellsR w' b o ps := fun i p hi =>
  ⟨(hb.cell (lt_of_cellR (h i p hi).1)).trans (h i p hi).1, (hb.cell (lt_of_cellR (h i p hi).2)).trans (h i p hi).2⟩
theorem flat_at {w : World} {g o : Nat} {d : List LR} (h : CellsR w g o (d.map toBA)) : ∀ j u, (flatR d)[j]? = some u → w.cell? ((⟨g, o, none⟩ : Addr).add j) = some u := fun j u hj => by
  rw [show (⟨g, o, none⟩ : Addr).add j = ⟨g, o + j, none⟩ by unfold Addr.add; split <;> simp_all]
  exact cells_flat h j u hj
theorem chain_len (a : List UInt8) (es : List (List UInt8)) : (chainL a es).length = es.length + 1 := by
  rw [chain_pfx, List.length_append, pfx_len]; rfl
theorem all_okP {d : List LR} (h : ∀ p ∈ d, okR ⟨p.1.toArray⟩ ⟨p.2.toArray⟩ = true) : (d.map toBA).all okP = true := by
  rw [List.all_map, List.all_eq_true]
  exact fun p hp => h p hp
end Go.Proofs.YthngliafkhalfaaDoor
