/- slices.Repeat on operations. Condition: at most 1,000,000 operations in all. -/
import Derived.Test.YtojodekmmkemgaaGreatDoorScLs
import Derived.Test.YtojodekmmkemgaaGreatDoorShelfB
import Derived.Laws.CopyRow
import Derived.Laws.MakeOwn
import Derived.Shelf.Spec.SlicesInsert
namespace Go.Proofs.YtojodekmmkemgaaGreatDoor
open Go.RowKit Go.Shelf

section
variable {P : Program}
theorem run_copy_rowS (w : World) (dT sT ty elem : TypeId) (sz g o dLen dCap : Nat) (a : Addr) (sLen sCap : Nat) (cur : Array Value) (t : TypeId) (cs : List Value)
    (hu : P.underlying dT = some (.slice elem)) (hs : (P.info? elem).map (·.size) = some sz)
    (hg : w.heap[g]? = some (.cells cur t (0, 0))) (hn : cs.length = Nat.min sLen dLen * sz)
    (hsrc : ∀ j v, cs[j]? = some v → w.cell? (a.add j) = some v) (hfit : o + cs.length ≤ cur.size) (h1 : ∀ v ∈ cs, v.oneCell' = true) :
    (Builtin.copy_ #[dT, sT] ty #[.slice (some ⟨g, o, none⟩) dLen dCap, .slice (some a) sLen sCap]).run P w =
      .ok (goInt (Nat.min sLen dLen)) (w.setRow g (cur.toList.take o ++ cs ++ cur.toList.drop (o + cs.length)).toArray) := by
  have hl := run_loadCells_list (P := P) w a cs hsrc
  have hst := run_storeCells_at P g o t cs 0 cur w hg (by simpa using hfit) h1
  cases hq : P.info? elem with
  | none => simp [hq] at hs
  | some i =>
    have hi : i.size = sz := by simpa [hq] using hs
    simp [Builtin.copy_, run_underlying hu, Builtin.lenOf, Builtin.firstCells, sizeOf, typeInfo, hq, hi, ← hn, hl, hst]
theorem run_copy_zeroS (w : World) (dT sT ty elem : TypeId) (sz : Nat) (d a : Option Addr) (dLen dCap sLen sCap : Nat) (hu : P.underlying dT = some (.slice elem)) (hs : (P.info? elem).map (·.size) = some sz) (hn : Nat.min sLen dLen = 0) :
    (Builtin.copy_ #[dT, sT] ty #[.slice d dLen dCap, .slice a sLen sCap]).run P w = .ok (goInt 0) w := by
  cases hq : P.info? elem with
  | none => simp [hq] at hs
  | some i =>
    have hl : ∀ (x : Addr), (loadCells x 0).run P w = .ok #[] w := fun x => by simpa using run_loadCells_list (P := P) w x [] (by simp)
    cases d <;> cases a <;> simp [Builtin.copy_, run_underlying hu, Builtin.lenOf, Builtin.firstCells, sizeOf, typeInfo, hq, hn, storeCells, hl]
end
/-- A list, so often. -/
def repO (k : Nat) (l : List Oq) : List Oq := (List.replicate k l).flatten
theorem repO_len (k : Nat) (l : List Oq) : (repO k l).length = l.length * k := by
  unfold repO
  rw [List.length_flatten, List.map_replicate, List.sum_replicate_nat, Nat.mul_comm]
theorem repO_get : ∀ (k : Nat) (l : List Oq) (i : Nat), i < l.length * k → (repO k l)[i]? = l[i % l.length]?
  | 0, l, i, h => absurd h (by omega)
  | k + 1, l, i, h => by
    unfold repO
    rw [List.replicate_succ, List.flatten_cons]
    by_cases hi : i < l.length
    · rw [List.getElem?_append_left hi, Nat.mod_eq_of_lt hi]
    · rw [List.getElem?_append_right (by omega)]
      have := repO_get k l (i - l.length) (by have h3 : l.length * (k + 1) = l.length * k + l.length := Nat.mul_succ ..; omega)
      unfold repO at this
      rw [this, Nat.mod_eq_sub_mod (a := i) (b := l.length) (by omega)]
theorem repO_map (k : Nat) (l : List Oq) : (repO k l).map (·.o) = (List.replicate k (l.map (·.o))).flatten := by
  unfold repO
  rw [List.map_flatten, List.map_replicate]
theorem flat_len : ∀ l : List Oq, (l.flatMap qL).length = l.length * 10
  | [] => rfl
  | q :: l => by
    rw [List.flatMap_cons, List.length_append, flat_len l, List.length_cons, qL_len]
    omega
theorem flat_get : ∀ (l : List Oq) (i : Nat) (q : Oq), l[i]? = some q → ∀ (j : Nat) (u : Value), j < 10 → (qL q)[j]? = some u → (l.flatMap qL)[i * 10 + j]? = some u
  | [], i, q, h => by simp at h
  | p :: l, 0, q, h => fun j u hj hu => by
    cases h
    rw [List.flatMap_cons, List.getElem?_append_left (by rw [qL_len]; omega), Nat.zero_mul, Nat.zero_add]
    exact hu
  | p :: l, i + 1, q, h => fun j u hj hu => by
    rw [List.flatMap_cons, List.getElem?_append_right (by rw [qL_len]; omega), qL_len, show (i + 1) * 10 + j - 10 = i * 10 + j by omega]
    exact flat_get l i q h j u hj hu
theorem flat_one {l : List Oq} : ∀ u ∈ l.flatMap qL, u.oneCell' = true := fun u hu => by
  obtain ⟨q, _, h⟩ := List.mem_flatMap.1 hu
  have h10 := all10 q.o q.A q.n q.m
  rw [Array.all_eq_true_iff_forall_mem] at h10
  exact h10 u (by unfold qL at h; simpa using h)
theorem slO_cells {w : World} {g o : Nat} {l : List Oq} (h : SlO w (some ⟨g, o, none⟩) l) : ∀ j v, (l.flatMap qL)[j]? = some v → w.cell? ⟨g, o + j, none⟩ = some v := fun j v hj => by
  have hlt : j < l.length * 10 := by have := (List.getElem?_eq_some_iff.1 hj).1; rwa [flat_len] at this
  have hi : j / 10 < l.length := by omega
  obtain ⟨g', o', e, hr, _⟩ := h (j / 10) _ (List.getElem?_eq_getElem hi)
  cases e
  have hj10 : j % 10 < 10 := by omega
  have hq : j % 10 < (qL l[j / 10]).length := by rw [qL_len]; exact hj10
  have h1 := flat_get l (j / 10) _ (List.getElem?_eq_getElem hi) (j % 10) _ hj10 (List.getElem?_eq_getElem hq)
  rw [show j / 10 * 10 + j % 10 = j by omega, hj] at h1
  rw [Option.some.inj h1]
  have := hr (j % 10) _ (List.getElem?_eq_getElem hq)
  rwa [show o + j / 10 * 10 + j % 10 = o + j by omega] at this
/-- What Repeat holds: the row whose first operations are the list's, over and over. -/
structure RepI (w : World) (g N : Nat) (l : List Oq) (j : Nat) (W : World) : Prop where
  bl : Below w.heap.size w W
  hg : w.heap.size ≤ g
  row : ∃ cur : Array Value, Whole W g 34 cur ∧ cur.size = N * 10 ∧ ∀ i, i < j * 10 → cur[i]? = (l.flatMap qL)[i % (l.length * 10)]?
  hj : j ≤ N
  hm : j % l.length = 0 ∨ j = N
theorem RepI.copy {w W : World} {g N : Nat} {l : List Oq} {j : Nat} (h : RepI w g N l j W) (h0 : 0 < j) (hlt : j < N) :
    ∃ W', (∀ ty, (Builtin.copy_ #[24, 24] ty #[.slice (some ⟨g, j * 10, none⟩) (N - j) (N - j), .slice (some ⟨g, 0, none⟩) j N]).run Tryz.prog W = .ok (.int .i64 ((min j (N - j) : Nat) : Int)) W') ∧ RepI w g N l (j + min j (N - j)) W' := by
  obtain ⟨cur, hw, hsz, hc⟩ := h.row
  obtain ⟨m, hmm⟩ : ∃ m, m = min j (N - j) := ⟨_, rfl⟩
  have hm1 : m ≤ j := by omega
  have hm2 : j + m ≤ N := by omega
  have hm3 : m = j ∨ j + m = N := by omega
  have hjl : j % l.length = 0 := by rcases h.hm with e | e; exact e; omega
  have hlen : (cur.toList.take (m * 10)).length = Nat.min j (N - j) * 10 := by
    rw [List.length_take, Array.length_toList, hsz]
    have : Nat.min j (N - j) = m := hmm.symm
    rw [this]
    omega
  have hlen2 : (cur.toList.take (m * 10)).length = m * 10 := by
    rw [List.length_take, Array.length_toList, hsz]
    omega
  have hone : ∀ v ∈ cur.toList.take (m * 10), v.oneCell' = true := fun v hv => by
    obtain ⟨i, hi⟩ := List.getElem?_of_mem hv
    rw [List.getElem?_take] at hi
    split at hi
    · rename_i hi2
      have h1 := hc i (by omega)
      rw [Array.getElem?_toList] at hi
      rw [h1] at hi
      exact flat_one v (List.mem_of_getElem? hi)
    · cases hi
  have hrun := fun ty => run_copy_rowS (P := Tryz.prog) W 24 24 ty 34 10 g (j * 10) (N - j) (N - j) ⟨g, 0, none⟩ j N cur 34 (cur.toList.take (m * 10)) Tryz.underlying24 (by kernel_rfl) hw hlen
    (fun i v hi => by
      have ha : (⟨g, 0, none⟩ : Addr).add i = ⟨g, i, none⟩ := by unfold Addr.add; split <;> simp_all
      rw [ha, hw.cell]
      rw [List.getElem?_take] at hi
      split at hi
      · rw [Array.getElem?_toList] at hi; exact hi
      · cases hi) (by rw [hlen2, hsz]; omega) hone
  obtain ⟨cur2, hcur2⟩ : ∃ c2 : Array Value, c2 = (cur.toList.take (j * 10) ++ cur.toList.take (m * 10) ++ cur.toList.drop (j * 10 + (cur.toList.take (m * 10)).length)).toArray := ⟨_, rfl⟩
  rw [← hcur2] at hrun
  refine ⟨W.setRow g cur2, fun ty => ?_, ?_⟩
  · have := hrun ty
    rw [show Nat.min j (N - j) = m from hmm.symm] at this
    rw [← hmm]
    exact this
  · rw [← hmm]
    refine ⟨h.bl.grown (setRow_grown _ _ _) h.bl.size (fun k e => by cases e; exact h.hg), h.hg, ⟨cur2, setRow_heap _ _ _ _ _ _ hw, ?_, fun i hi => ?_⟩, hm2, ?_⟩
    · rw [hcur2]
      simp only [List.size_toArray, List.length_append, List.length_drop, hlen2, Array.length_toList, hsz, List.length_take]
      omega
    · have e1 : cur2[i]? = (cur.toList.take (j * 10) ++ cur.toList.take (m * 10) ++ cur.toList.drop (j * 10 + (cur.toList.take (m * 10)).length))[i]? := by rw [hcur2]; exact List.getElem?_toArray
      have hlj : (cur.toList.take (j * 10)).length = j * 10 := by
        rw [List.length_take, Array.length_toList, hsz]
        omega
      rw [e1, List.getElem?_append_left (by rw [List.length_append, hlen2, hlj]; omega)]
      by_cases hij : i < j * 10
      · rw [List.getElem?_append_left (by rw [hlj]; exact hij), List.getElem?_take, if_pos hij, Array.getElem?_toList]
        exact hc i hij
      · rw [List.getElem?_append_right (by rw [hlj]; omega), hlj, List.getElem?_take, if_pos (by omega), Array.getElem?_toList, hc (i - j * 10) (by omega)]
        congr 1
        obtain ⟨z, hz⟩ : ∃ z, j = l.length * z := ⟨j / l.length, by have := Nat.div_add_mod j l.length; omega⟩
        have : i = (i - j * 10) + l.length * 10 * z := by
          have e2 : j * 10 = l.length * 10 * z := by rw [hz, Nat.mul_right_comm]
          omega
        conv => rhs; rw [this]
        rw [Nat.add_mul_mod_self_left]
    · rcases hm3 with e | e
      · left
        rw [e, Nat.add_mod, hjl]
        simp
      · exact Or.inr e
theorem RepI.done {w W : World} {g N k : Nat} {l : List Oq} {A : Option Addr} (h : RepI w g N l N W) (hN : N = l.length * k) (hs : SlO w A l) : SlO W (some ⟨g, 0, none⟩) (repO k l) := fun i q hq => by
  obtain ⟨cur, hw, hsz, hc⟩ := h.row
  have hi : i < l.length * k := by have := (List.getElem?_eq_some_iff.1 hq).1; rwa [repO_len] at this
  rw [repO_get k l i hi] at hq
  obtain ⟨g', o', rfl, _, hin⟩ := hs _ q hq
  refine ⟨g, 0, rfl, fun j v hj => ?_, hin.keep h.bl⟩
  have hj10 : j < 10 := (List.getElem?_eq_some_iff.1 hj).1
  have hl : 0 < l.length := by
    rcases Nat.eq_zero_or_pos l.length with e | e
    · rw [e, Nat.zero_mul] at hi; omega
    · exact e
  have hm := Nat.mod_lt i hl
  have hdm := Nat.div_add_mod i l.length
  rw [hw.cell, Nat.zero_add, hc (i * 10 + j) (by rw [hN]; omega)]
  have e : (i * 10 + j) % (l.length * 10) = i % l.length * 10 + j := by
    have e2 : i * 10 + j = (i % l.length * 10 + j) + l.length * 10 * (i / l.length) := by
      have : l.length * 10 * (i / l.length) = l.length * (i / l.length) * 10 := Nat.mul_right_comm ..
      omega
    rw [e2, Nat.add_mul_mod_self_left, Nat.mod_eq_of_lt (by omega)]
  rw [e]
  exact flat_get l _ q hq j v hj10 hj
theorem cut_fromO (g q M c : Nat) (h1 : q ≤ M) (hc : c ≠ q) (w : World) : (Instr.slice 24 (.slice (some ⟨g, 0, none⟩) M c) (some (.int .i64 (q : Int))) none none).run Tryz.prog w = .ok (.slice (some ⟨g, q * 10, none⟩) (M - q) (c - q)) w := by
  have hs : (sizeOf (Tryz.prog.elem 24)).run Tryz.prog w = .ok 10 w := by kernel_rfl
  have hu : Tryz.prog.underlying 24 = some (.slice (Tryz.prog.elem 24)) := by kernel_rfl
  rw [run_slice_l w 24 _ M c hu .i64 (q : Int) (by omega) (by omega), hs]
  show Result.ok (sliced _ q M c 10) w = _
  unfold sliced
  rw [if_neg hc]
  simp only [Option.map_some]
  rw [show (⟨g, 0, none⟩ : Addr).add (q * 10) = ⟨g, q * 10, none⟩ by unfold Addr.add; split <;> simp_all]
theorem cut_toO (p : Option Addr) (q M c : Nat) (h1 : q ≤ c) (w : World) : (Instr.slice 24 (.slice p M c) none (some (.int .i64 (q : Int))) none).run Tryz.prog w = .ok (.slice p q c) w := by
  have hs : (sizeOf (Tryz.prog.elem 24)).run Tryz.prog w = .ok 10 w := by kernel_rfl
  have hu : Tryz.prog.underlying 24 = some (.slice (Tryz.prog.elem 24)) := by kernel_rfl
  rw [run_slice_h w 24 _ M c hu .i64 (q : Int) (by omega) (by omega), hs]
  show Result.ok (sliced _ 0 q c 10) w = _
  cases p with
  | none => simp [sliced]
  | some a => simp [sliced, Addr.add]
theorem infoOpR : (Tryz.prog.info? 34).map (fun i => (i.zero, i.size, i.bytes)) = some (some (.agg (oA (zeroO 0 0) none 0 0)), 10, 128) := by kernel_rfl
theorem run_makeO (N : Nat) (hN : N ≤ 1000000) (W : World) : ∃ cur : Array Value, cur.size = N * 10 ∧ (Instr.makeSlice 24 (.int .i64 (N : Int)) (.int .i64 (N : Int))).run Tryz.prog W = .ok (.slice (some ⟨W.heap.size, 0, none⟩) N N) (W.alloc (.cells cur 34)) := by
  obtain ⟨i, hi, hz0, hz1, hz2⟩ := info_parts infoOpR
  have h := run_make (P := Tryz.prog) W 24 34 i (.agg (oA (zeroO 0 0) none 0 0)) Tryz.underlying24 hi hz0 .i64 .i64 N N (by omega) (Int.le_refl _) (by rw [hz2]; omega) (by omega)
  rw [Int.toNat_natCast, hz1] at h
  exact ⟨_, size_madeCells _ _, h⟩
set_option maxRecDepth 100000 in
set_option maxHeartbeats 4000000 in
theorem repeat_any (A : Option Addr) (n c : Nat) (l : List Oq) (k : Nat) (w : World) (hs : SlO w A l) (hn : n = l.length) (hN : l.length * k ≤ 1000000) (hn0 : n ≤ 1000000) (hk : k ≤ 1000000) :
    Calls Tryz.prog 31 #[.slice A n c, .int .i64 (k : Int)] w fun e w' => (∃ g, e = .returned (.slice (some ⟨g, 0, none⟩) (repO k l).length (repO k l).length) ∧ w.heap.size ≤ g ∧ SlO w' (some ⟨g, 0, none⟩) (repO k l)) ∧ Below w.heap.size w w' := by
  rw [repO_len]
  obtain ⟨N, hNN⟩ : ∃ N, N = l.length * k := ⟨_, rfl⟩
  rw [← hNN] at hN ⊢
  have BM := Tryz.bits_Mul n k (by omega) (by omega) w
  rw [show n * k = N by rw [hNN, hn], show N / 18446744073709551616 = 0 by omega, show N % 18446744073709551616 = N by omega] at BM
  have BM : Hid (Calls Tryz.prog 73 #[.int .u64 (n : Int), .int .u64 (k : Int)] w fun e w' => e = .returned (.tuple #[.int .u64 0, .int .u64 (N : Int)]) ∧ w = w') := Lib.hid (BM.mono (fun e w' ⟨a, b⟩ => ⟨a, b.symm⟩))
  have hw1 : IntKind.u64.wrap (n : Int) = (n : Int) := by rw [IntKind.wrap_u64]; omega
  have hw2 : IntKind.u64.wrap (k : Int) = (k : Int) := by rw [IntKind.wrap_u64]; omega
  have hw3 : IntKind.i64.wrap (N : Int) = (N : Int) := IntWalk.i64_in _ (by omega)
  have hk0 : ¬ ((k : Int) < 0) := by omega
  have hN63 : ¬ ((9223372036854775807 : Int) < (N : Int)) := by omega
  obtain ⟨cur, hcs, hmk⟩ := run_makeO N hN w
  have R0 : RepI w w.heap.size N l 0 (w.alloc (.cells cur 34)) := ⟨(Below.refl _ _).alloc (Nat.le_refl _) _, Nat.le_refl _, ⟨cur, Whole.new w _ _, hcs, fun i h => by omega⟩, Nat.zero_le _, Or.inl (Nat.zero_mod _)⟩
  have HS := Lib.hid hs
  have HNN := Lib.hid hNN
  have HLN := Lib.hid hn
  have HNB := Lib.hid hN
  obtain ⟨j0, W1, hj0, hrun1, R1, hpos⟩ : ∃ (j0 : Nat) (W1 : World), j0 = min n N ∧ (∀ ty, (Builtin.copy_ #[24, 24] ty #[.slice (some ⟨w.heap.size, 0, none⟩) N N, .slice A n c]).run Tryz.prog (w.alloc (.cells cur 34)) = .ok (.int .i64 (j0 : Int)) W1) ∧ RepI w w.heap.size N l j0 W1 ∧ (j0 < N → 0 < j0) := by
    by_cases h0 : min n N = 0
    · refine ⟨0, _, h0.symm, fun ty => run_copy_zeroS (P := Tryz.prog) _ _ _ ty 34 10 _ _ _ _ _ _ Tryz.underlying24 (by kernel_rfl) h0, R0, fun h => ?_⟩
      rcases Nat.eq_zero_or_pos n with e | e
      · rw [hNN, ← hn, e, Nat.zero_mul] at h; omega
      · omega
    · have hnN : n ≤ N := by
        rcases Nat.eq_zero_or_pos k with e | e
        · rw [hNN, e, Nat.mul_zero] at h0; omega
        · rw [hNN, ← hn]; exact Nat.le_mul_of_pos_right _ e
      have hmin : min n N = n := by omega
      have hlen : (l.flatMap qL).length = Nat.min n N * 10 := by rw [flat_len, ← hn]; show _ = min n N * 10; rw [hmin]
      obtain ⟨q, hq⟩ : ∃ q, l[0]? = some q := ⟨_, List.getElem?_eq_getElem (by omega)⟩
      obtain ⟨gs, os, rfl, _⟩ := hs 0 q hq
      have hrun := fun ty => run_copy_rowS (P := Tryz.prog) (w.alloc (.cells cur 34)) 24 24 ty 34 10 w.heap.size 0 N N ⟨gs, os, none⟩ n c cur 34 (l.flatMap qL) Tryz.underlying24 (by kernel_rfl) (World.alloc_heap_new w _) hlen
        (fun i v hi => by
          have ha : (⟨gs, os, none⟩ : Addr).add i = ⟨gs, os + i, none⟩ := by unfold Addr.add; split <;> simp_all
          rw [ha]
          exact acell _ (slO_cells hs i v hi)) (by rw [flat_len, hcs]; omega) flat_one
      obtain ⟨cur2, hcur2⟩ : ∃ c2 : Array Value, c2 = (cur.toList.take 0 ++ l.flatMap qL ++ cur.toList.drop (0 + (l.flatMap qL).length)).toArray := ⟨_, rfl⟩
      rw [← hcur2] at hrun
      refine ⟨n, (w.alloc (.cells cur 34)).setRow w.heap.size cur2, hmin.symm, fun ty => ?_, ?_, fun h => by omega⟩
      · have := hrun ty
        rw [show Nat.min n N = n from hmin] at this
        exact this
      · refine ⟨R0.bl.grown (setRow_grown _ _ _) R0.bl.size (fun k e => by cases e; exact Nat.le_refl _), Nat.le_refl _, ⟨cur2, setRow_heap _ _ _ _ _ _ (World.alloc_heap_new w _), ?_, fun i hi => ?_⟩, hnN, Or.inl (by rw [hn]; exact Nat.mod_self _)⟩
        · rw [hcur2]
          simp only [List.take_zero, List.nil_append, List.size_toArray, List.length_append, List.length_drop, flat_len, Array.length_toList, hcs]
          omega
        · have e1 : cur2[i]? = (cur.toList.take 0 ++ l.flatMap qL ++ cur.toList.drop (0 + (l.flatMap qL).length))[i]? := by rw [hcur2]; exact List.getElem?_toArray
          rw [e1, List.take_zero, List.nil_append, List.getElem?_append_left (by rw [flat_len]; omega), Nat.mod_eq_of_lt (by omega)]
  have HR1 := Lib.hid R1
  have HRUN := Lib.hid hrun1
  have HP := Lib.hid hpos
  clear hs hn hNN R0 R1 hrun1 hpos hj0 hcs
  go_enter Tryz.func31, Tryz.ntmps31
  go_upto_region 7 with (go_at_call 73; refine BM.out.mono ?_; rintro e w2 ⟨rfl, rfl⟩)
  generalize w.alloc (.cells cur 34) = wA at HRUN ⊢
  have hcp := HRUN.out 3
  go_wp2_with fail
  clear hcp
  go_loopw [8] (fun i wr => ∃ j : Nat, i = .int .i64 j ∧ Hid (RepI w w.heap.size N l j wr ∧ (j < N → 0 < j))) (fun i _ => N - (intOf i).toNat)
  case atStart => exact ⟨j0, rfl, Lib.hid ⟨HR1.out, HP.out⟩⟩
  case round =>
    obtain ⟨j, rfl, H0⟩ := hrel
    by_cases hlt : j < N
    · have hltI : (j : Int) < (N : Int) := by omega
      have RD : RepI w w.heap.size N l j wr.drew := ⟨H0.out.1.bl.drew, H0.out.1.hg, H0.out.1.row, H0.out.1.hj, H0.out.1.hm⟩
      obtain ⟨W', hrun, hI⟩ := RD.copy (H0.out.2 hlt) hlt
      have HR := Lib.hid hrun
      have HI := Lib.hid hI
      have c1 := cut_fromO w.heap.size j N N (Nat.le_of_lt hlt) (by omega)
      have c2 := cut_toO (some ⟨w.heap.size, 0, none⟩) j N N (Nat.le_of_lt hlt)
      obtain ⟨m, hmm⟩ : ∃ m, m = min j (N - j) := ⟨_, rfl⟩
      rw [← hmm] at HR HI
      have hm0 : 0 < m := by have := H0.out.2 hlt; omega
      have hw5 : IntKind.i64.wrap ((j : Int) + (m : Int)) = (j : Int) + (m : Int) := IntWalk.i64_in _ (by have := H0.out.1.hj; omega)
      have HP2 : Hid (j + m < N → 0 < j + m) := Lib.hid (fun _ => by omega)
      clear hrun hI RD hmm
      go_upto_region 9 with fail
      refine wp_region_held_drew (S := fun _ => True) (by kernel_rfl) trivial (fun hHeld => ?_)
      refine wpAnyH_take (i := 0) (v := ?_) rfl (by kernel_rfl) (by kernel_rfl) (by kernel_rfl) (fun _ _ _ h => h) (Or.inl ⟨by rfl, ?_⟩) (by assumption) ?_
      rotate_left
      · intro w hSw
        go_simp
        try with_reducible rfl
      simp only [Act.put, List.getElem_toArray, List.getElem_cons_zero, List.setIfInBounds_toArray, List.set_cons_zero, List.set_cons_succ]
      refine wpAnyH_take (i := 1) (v := ?_) rfl (by kernel_rfl) (by kernel_rfl) (by kernel_rfl) (fun _ _ _ h => h) (Or.inl ⟨by rfl, ?_⟩) (by assumption) ?_
      rotate_left
      · intro w hSw
        go_simp
        try with_reducible rfl
      simp only [Act.put, List.getElem_toArray, List.getElem_cons_succ, List.getElem_cons_zero, List.setIfInBounds_toArray, List.set_cons_zero, List.set_cons_succ]
      refine wpAnyH_take (i := 2) (v := ?_) rfl (by kernel_rfl) (by kernel_rfl) (by kernel_rfl) (fun _ _ _ h => h) (Or.inl ⟨by rfl, ?_⟩) (by assumption) ?_
      rotate_left
      · intro w hSw
        go_simp
        try with_reducible rfl
      simp only [Act.put, List.getElem_toArray, List.getElem_cons_succ, List.getElem_cons_zero, List.setIfInBounds_toArray, List.set_cons_zero, List.set_cons_succ]
      refine wpAnyH_take (i := 3) (v := ?_) rfl (by kernel_rfl) (by kernel_rfl) (by kernel_rfl) (fun _ _ _ h => h) (Or.inl ⟨by rfl, ?_⟩) (by assumption) ?_
      rotate_left
      · intro w hSw
        go_simp
        try with_reducible rfl
      simp only [Act.put, List.getElem_toArray, List.getElem_cons_succ, List.getElem_cons_zero, List.setIfInBounds_toArray, List.set_cons_zero, List.set_cons_succ]
      refine wpAnyH_take (i := 4) (v := ?_) rfl (by kernel_rfl) (by kernel_rfl) (by kernel_rfl) (fun _ _ _ h => h) (Or.inl ⟨by rfl, ?_⟩) (by assumption) ?_
      rotate_left
      · intro w hSw
        go_simp
        try with_reducible rfl
      simp only [Act.put, List.getElem_toArray, List.getElem_cons_succ, List.getElem_cons_zero, List.setIfInBounds_toArray, List.set_cons_zero, List.set_cons_succ]
      refine wpAnyH_take (i := 5) (v := ?_) rfl (by kernel_rfl) (by kernel_rfl) (by kernel_rfl) (fun _ _ _ h => h) (Or.inl ⟨by rfl, ?_⟩) (by assumption) ?_
      rotate_left
      · intro w hSw
        go_simp
        try with_reducible rfl
      simp only [Act.put, List.getElem_toArray, List.getElem_cons_succ, List.getElem_cons_zero, List.setIfInBounds_toArray, List.set_cons_zero, List.set_cons_succ]
      refine wpAnyH_take (i := 6) (v := ?_) rfl (by kernel_rfl) (by kernel_rfl) (by kernel_rfl) (fun _ _ _ h => h) (Or.inl ⟨by rfl, ?_⟩) (by assumption) ?_
      rotate_left
      · intro w hSw
        go_simp
        try with_reducible rfl
      simp only [Act.put, List.getElem_toArray, List.getElem_cons_succ, List.getElem_cons_zero, List.setIfInBounds_toArray, List.set_cons_zero, List.set_cons_succ]
      refine wpAnyH_ready (rs := [7]) (by kernel_rfl) (by simp) ?_
      refine AllReadyH.cons rfl (fun K hK => ?_) AllReadyH.nil
      have hcp := HR.out 3
      go_simp
      clear hcp
      refine hK.out _ _ ?_ (fun hHeld' => ?_)
      · trivial
      clear hK K hHeld
      have hHeld := hHeld'
      clear hHeld'
      try simp only [Act.put, List.getElem_toArray, List.getElem_cons_succ, List.getElem_cons_zero, List.setIfInBounds_toArray, List.set_cons_zero, List.set_cons_succ]
      refine wpAnyH_take (i := 8) (v := ?_) rfl (by kernel_rfl) (by kernel_rfl) (by kernel_rfl) (fun _ _ _ h => h) (Or.inl ⟨by rfl, ?_⟩) (by assumption) ?_
      rotate_left
      · intro w hSw
        go_simp
        try with_reducible rfl
      simp only [Act.put, List.getElem_toArray, List.getElem_cons_succ, List.getElem_cons_zero, List.setIfInBounds_toArray, List.set_cons_zero, List.set_cons_succ]
      refine wpAnyH_take (i := 9) (v := ?_) rfl (by kernel_rfl) (by kernel_rfl) (by kernel_rfl) (fun _ _ _ h => h) (Or.inl ⟨by rfl, ?_⟩) (by assumption) ?_
      rotate_left
      · intro w hSw
        go_simp
        try with_reducible rfl
      simp only [Act.put, List.getElem_toArray, List.getElem_cons_succ, List.getElem_cons_zero, List.setIfInBounds_toArray, List.set_cons_zero, List.set_cons_succ]
      refine wpAnyH_done (by kernel_rfl) ?_ _
      clear hHeld
      go_wp2_with fail
      go_roundw
      case rel => exact ⟨j + m, by go_num, Lib.hid ⟨HI.out, HP2.out⟩⟩
      case measure => simp [intOf]; omega
    · obtain rfl : j = N := by have := H0.out.1.hj; omega
      have hltI : ¬ ((j : Int) < (j : Int)) := by omega
      go_wp2_with fail
      go_ret
      exact ⟨⟨_, rfl, Nat.le_refl _, H0.out.1.done HNN.out HS.out⟩, H0.out.1.bl⟩
end Go.Proofs.YtojodekmmkemgaaGreatDoor
