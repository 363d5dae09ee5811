/- ParseAll's memory between two lines. No condition. -/
import Derived.Test.YtojodekmmkemgaaGreatDoorScSq
import Derived.Test.YtojodekmmkemgaaGreatDoorScPa
import Derived.Test.YtojodekmmkemgaaGreatDoorGnS
namespace Go.Proofs.YtojodekmmkemgaaGreatDoor
open Go.RowKit Go.Shelf

theorem infoOp : (Tryz.prog.info? 34).map (fun i => (i.zero, i.size, i.bytes)) = some (some (.agg (oA (zeroO 0 0) none 0 0)), 10, 128) := by kernel_rfl
theorem run_app_op (w : World) (base : Nat) (v : Value) (n : Nat) (xs : List Value) (hown : w.ownsRow base 34 10 v n xs) (a : Addr) (m c : Nat) (news : List Value) (hm : news.length = m * 10) (hc : ∀ j u, news[j]? = some u → w.cell? (a.add j) = some u) (h1 : ∀ u ∈ news, u.oneCell' = true) (hn : n + m ≤ 1000000000) (hbase : base ≤ w.heap.size) :
    ∃ v' w', (Builtin.append_ #[24, 24] 24 #[v, .slice (some a) m c]).run Tryz.prog w = .ok v' w' ∧ w'.ownsRow base 34 10 v' (n + m) (xs ++ news) ∧ w.grownBy w' v.ownBlock ∧ (v'.ownBlock = v.ownBlock ∨ v'.ownBlock = some w.heap.size) := by
  obtain ⟨i, hi, hz0, hz1, hz2⟩ := info_parts infoOp
  obtain ⟨v', w', hrun, h4, h5, _, h6⟩ := run_append_own_at (P := Tryz.prog) w base 24 24 34 i _ 10 128 Tryz.underlying24 hi hz0 hz1 hz2 rfl (by decide) v n xs hown a m c news hm hc h1 (by unfold maxLen; omega) (by omega) hbase
  exact ⟨v', w', hrun, h4, h5, h6⟩
theorem sl_not_box {W : World} {B : Nat} {t : TypeId} {v : Value} {A : Option Addr} {s : List Sp} (hs : SlD W A s) (hB : Boxed W B t v) : ∀ a : Addr, A = some a → s ≠ [] → a.block ≠ B := by
  rintro a rfl hne e
  obtain ⟨p, hp⟩ : ∃ p, s[0]? = some p := by cases hq : s with | nil => exact absurd hq hne | cons p s => exact ⟨p, rfl⟩
  obtain ⟨g, o, he, c0, c1⟩ := hs 0 p hp
  cases he
  subst e
  have hW : Whole W g t #[v] := hB
  rw [hW.cell] at c1
  simp at c1
theorem OpIn.box {A B : World} {r : Nat} {t : TypeId} {u : Value} {o : Ov} {S : Option Addr} {n m : Nat} (h : OpIn A o S n m) (hb : Boxed A r t u) (hg : A.grownBy B (some r)) : OpIn B o S n m :=
  ⟨h.d.grown hg (fun a ha hs e => sl_not_box h.d.s hb a ha hs (Option.some.inj e)), h.z⟩
theorem OpIn.nc {A B : World} {row : Option Nat} {o : Ov} {S : Option Addr} {n m : Nat} (h : OpIn A o S n m) (hg : A.grownBy B row) (hr : ∀ r, row = some r → ∃ o : Obj, A.heap[r]? = some o ∧ o.isCells = false) : OpIn B o S n m :=
  ⟨h.d.grown hg (fun a ha hs e => by
    obtain ⟨p, hp⟩ : ∃ p, o.d.s[0]? = some p := by cases hq : o.d.s with | nil => exact absurd hq hs | cons p s => exact ⟨p, rfl⟩
    obtain ⟨g, q, he, c0, _⟩ := h.d.s 0 p hp
    rw [ha] at he
    cases he
    obtain ⟨ob, ho, hc⟩ := hr g e.symm
    unfold World.cell? at c0
    rw [ho] at c0
    cases ob <;> first | (cases hc; done) | (cases c0; done)), h.z⟩
/-- The places of ParseAll: its results, out, at, the iterator's own cells. -/
structure PaC (w : World) (k : Nat) (l : List Oq) (v : Value) (W : World) : Prop where
  bo : Boxed W (w.heap.size + 3) 24 v
  ow : W.ownsRow w.heap.size 34 10 v l.length (l.flatMap qL)
  qs : ∀ q ∈ l, OpIn W q.o q.A q.n q.m ∧ ∀ a : Addr, q.A = some a → q.o.d.s ≠ [] → some a.block ≠ v.ownBlock
  ba : Boxed W (w.heap.size + 4) 3 (.int .i64 (k : Int))
  b0 : Boxed W w.heap.size 24 (.slice none 0 0)
  b1 : Boxed W (w.heap.size + 1) 3 (.int .i64 0)
  b2 : Boxed W (w.heap.size + 2) 36 (.int .i64 0)
  k0 : ∃ u, Boxed W (w.heap.size + 5) 9 u
  k1 : Boxed W (w.heap.size + 6) 9 (.string ⟨#[10]⟩)
  k2 : Boxed W (w.heap.size + 7) 3 (.int .i64 0)
  bw : Below w.heap.size w W
theorem PaC.nc {w A B : World} {row : Option Nat} {k : Nat} {l : List Oq} {v : Value} (h : PaC w k l v A) (hg : A.grownBy B row) (hr : ∀ r, row = some r → w.heap.size ≤ r ∧ ∃ o : Obj, A.heap[r]? = some o ∧ o.isCells = false) : PaC w k l v B := by
  have hc := fun r e => (hr r e).2
  exact ⟨(cells_same hg hc h.bo).trans h.bo, own_nc h.ow hg hc, fun q hq => ⟨(h.qs q hq).1.nc hg hc, (h.qs q hq).2⟩, (cells_same hg hc h.ba).trans h.ba, (cells_same hg hc h.b0).trans h.b0, (cells_same hg hc h.b1).trans h.b1, (cells_same hg hc h.b2).trans h.b2, h.k0.imp fun u hu => (cells_same hg hc hu).trans hu, (cells_same hg hc h.k1).trans h.k1, (cells_same hg hc h.k2).trans h.k2, h.bw.grown hg h.bw.size (fun r e => (hr r e).1)⟩
theorem PaC.keep {w A B : World} {k : Nat} {l : List Oq} {v : Value} (h : PaC w k l v A) (hb : Below A.heap.size A B) : PaC w k l v B := by
  have hg := gbelow hb
  exact ⟨h.bo.kept hg (by simp), h.ow.kept hg (Classical.em _), fun q hq => ⟨(h.qs q hq).1.keep hb, (h.qs q hq).2⟩, h.ba.kept hg (by simp), h.b0.kept hg (by simp), h.b1.kept hg (by simp), h.b2.kept hg (by simp), h.k0.imp fun u hu => hu.kept hg (by simp), h.k1.kept hg (by simp), h.k2.kept hg (by simp), h.bw.trans (hb.mono h.bw.size)⟩
theorem PaC.mv {w A B : World} {k : Nat} {l : List Oq} {v : Value} (h : PaC w k l v A) (hm : LinM (w.heap.size + 5) A B) : PaC w k l v B := by
  obtain ⟨v0, v1, hb, rfl⟩ := hm
  have hg := grown_set (World.grownBy.refl A (some (w.heap.size + 5))) 0 v1
  exact ⟨h.bo.other (by omega) _, h.ow.kept hg (.inr (own_ne h.ow (show Whole _ _ _ _ from hb) (by decide)).symm), fun q hq => ⟨(h.qs q hq).1.box hb hg, (h.qs q hq).2⟩, h.ba.other (by omega) _, h.b0.other (by omega) _, h.b1.other (by omega) _, h.b2.other (by omega) _, ⟨_, hb.set _⟩, h.k1.other (by omega) _, h.k2.other (by omega) _, h.bw.setCell (p := ⟨w.heap.size + 5, 0, none⟩) (Nat.le_add_right _ _) _⟩
theorem PaC.at {w A : World} {k : Nat} {l : List Oq} {v : Value} (h : PaC w k l v A) (j : Nat) : PaC w j l v (A.setCell ⟨w.heap.size + 4, 0, none⟩ (.int .i64 (j : Int))) := by
  have hg := grown_set (World.grownBy.refl A (some (w.heap.size + 4))) 0 (.int .i64 (j : Int))
  exact ⟨h.bo.other (by omega) _, h.ow.kept hg (.inr (own_ne h.ow (show Whole _ _ _ _ from h.ba) (by decide)).symm), fun q hq => ⟨(h.qs q hq).1.box h.ba hg, (h.qs q hq).2⟩, h.ba.set _, h.b0.other (by omega) _, h.b1.other (by omega) _, h.b2.other (by omega) _, h.k0.imp fun u hu => hu.other (by omega) _, h.k1.other (by omega) _, h.k2.other (by omega) _, h.bw.setCell (p := ⟨w.heap.size + 4, 0, none⟩) (Nat.le_add_right _ _) _⟩
theorem qL_all (q : Oq) : ∀ u ∈ qL q, u.oneCell' = true := by
  intro u hu
  have := all10 q.o q.A q.n q.m
  exact (Array.all_eq_true_iff_forall_mem.1 this) u (by simpa [qL] using hu)
theorem linK_of {w A B : World} {k k' : Nat} {l l' : List Oq} {v v' : Value} (h : PaC w k l v A) (h' : PaC w k' l' v' B) (hu : ∀ u, Boxed A (w.heap.size + 5) 9 u → Boxed B (w.heap.size + 5) 9 u) : LinK (w.heap.size + 5) A B := by
  obtain ⟨u, hu0⟩ := h.k0
  exact ⟨(show _ = _ from hu u hu0).trans (show _ = _ from hu0).symm, (show _ = _ from h'.k1).trans (show _ = _ from h.k1).symm, (show _ = _ from h'.k2).trans (show _ = _ from h.k2).symm⟩
theorem listIn_of {l n : Nat} {P : Program} {ops : Array Oper} {rest : List Oper} {o : Oper} {a : Act} {w : World} {Q : Exit → Act → World → Prop} (hg : o.guard = none) (hd : ∀ c, o.op ≠ .defer c) (h : ∀ K, (∀ a w, wpListIn (Fence.wide.inRound l) n P ops Q rest a w → K a w) → o.wp P a w K Q) : wpListIn (Fence.wide.inRound l) n P ops Q (o :: rest) a w :=
  wpListIn_plain hg fun K hK => oper_in l n hd (fun _ _ h => h) (h K hK)
/-- An operation is appended. -/
theorem PaC.add {w A : World} {k : Nat} {l : List Oq} {v : Value} (h : PaC w k l v A) (q : Oq) (hq : OpIn A q.o q.A q.n q.m) (hne : ∀ a : Addr, q.A = some a → q.o.d.s ≠ [] → some a.block ≠ v.ownBlock) (hn : l.length ≤ 2000) :
    ∃ v' w', (Builtin.append_ #[24, 24] 24 #[v, .slice (some ⟨A.heap.size, 0, none⟩) 1 1]).run Tryz.prog (A.alloc (.cells (qL q).toArray 34)) = .ok v' w' ∧ w'.cell? ⟨w.heap.size + 3, 0, none⟩ = some v ∧ w'.frozen? ⟨w.heap.size + 3, 0, none⟩ = false ∧
      PaC w k (l ++ [q]) v' (w'.setCell ⟨w.heap.size + 3, 0, none⟩ v') ∧ KeepsOthers A (w'.setCell ⟨w.heap.size + 3, 0, none⟩ v') ∧ ∀ u, Boxed A (w.heap.size + 5) 9 u → Boxed (w'.setCell ⟨w.heap.size + 3, 0, none⟩ v') (w.heap.size + 5) 9 u := by
  have Y0 : Below A.heap.size A (A.alloc (.cells (qL q).toArray 34)) := (Below.refl _ A).alloc (Nat.le_refl _) _
  have h2 := h.keep Y0
  obtain ⟨v', w', hrun, hown', hgrow, hblk⟩ := run_app_op (A.alloc (.cells (qL q).toArray 34)) w.heap.size v l.length (l.flatMap qL) h2.ow ⟨A.heap.size, 0, none⟩ 1 1 (qL q) rfl (news_at A 34 (qL q) A.heap.size rfl) (qL_all q) (by omega) h2.bw.size
  have far : ∀ {b : Nat} {t : TypeId} {u : Value}, Boxed (A.alloc (.cells (qL q).toArray 34)) b t u → t ≠ 34 → Boxed w' b t u := fun hb ht => hb.kept hgrow (own_ne h2.ow (show Whole _ _ _ _ from hb) ht)
  have bo := far h2.bo (by decide)
  have hset := grown_set (World.grownBy.refl w' (some (w.heap.size + 3))) 0 v'
  have opk : ∀ {o : Ov} {S : Option Addr} {n m : Nat}, OpIn (A.alloc (.cells (qL q).toArray 34)) o S n m → (∀ a : Addr, S = some a → o.d.s ≠ [] → some a.block ≠ v.ownBlock) → OpIn (w'.setCell ⟨w.heap.size + 3, 0, none⟩ v') o S n m := fun ho hno => (show OpIn w' _ _ _ _ from ⟨ho.d.grown hgrow hno, ho.z⟩).box bo hset
  have blk : ∀ {o : Ov} {S : Option Addr} {n m : Nat}, OpIn A o S n m → (∀ a : Addr, S = some a → o.d.s ≠ [] → some a.block ≠ v.ownBlock) → ∀ a : Addr, S = some a → o.d.s ≠ [] → some a.block ≠ v'.ownBlock := fun ho hno a ha hs e => by
    rcases hblk with hb | hb
    · exact hno a ha hs (e.trans hb)
    · have h1 := slD_lt ho.d.s a ha hs
      have h3 := Option.some.inj (e.trans hb)
      have h4 := Y0.size
      omega
  refine ⟨v', w', hrun, bo.cell, bo.frozen, ⟨bo.set _, ?_, ?_, (far h2.ba (by decide)).other (by omega) _, (far h2.b0 (by decide)).other (by omega) _, (far h2.b1 (by decide)).other (by omega) _, (far h2.b2 (by decide)).other (by omega) _, h2.k0.imp fun u hu => (far hu (by decide)).other (by omega) _, (far h2.k1 (by decide)).other (by omega) _, (far h2.k2 (by decide)).other (by omega) _, (h2.bw.grown hgrow h2.bw.size (fun r e => (h2.ow.lt r e).1)).setCell (p := ⟨w.heap.size + 3, 0, none⟩) (Nat.le_add_right _ _) _⟩, ?_, fun u hu => (far (hu.alloc _) (by decide)).other (by omega) _⟩
  · have := hown'.kept hset (.inr (own_ne hown' (show Whole _ _ _ _ from bo) (by decide)).symm)
    rw [List.length_append, List.flatMap_append]
    simpa using this
  · intro q' hq'
    rcases List.mem_append.1 hq' with hm | hm
    · exact ⟨opk (h2.qs q' hm).1 (h2.qs q' hm).2, blk (h.qs q' hm).1 (h.qs q' hm).2⟩
    · obtain rfl := List.mem_singleton.1 hm
      exact ⟨opk (hq.keep Y0) hne, blk hq hne⟩
  · refine ((KeepsOthers.alloc _ _).trans (KeepsOthers.of_grownBy hgrow fun j o ej hj => ?_)).trans (KeepsOthers.setCell _ _ _)
    rcases h2.ow.2 with ⟨rfl, _⟩ | ⟨g, cap, cur, rfl, _, hgb, _⟩
    · simp [Value.ownBlock] at ej
    · obtain rfl : g = j := by simpa [Value.ownBlock] using ej
      rw [hgb] at hj; cases hj; rfl
theorem flat_q : ∀ (l : List Oq) (i : Nat) (q : Oq), l[i]? = some q → ∀ (j : Nat) (u : Value), j < 10 → (qL q)[j]? = some u → (l.flatMap qL)[i * 10 + j]? = some u
  | [], _, _, hi, _, _, _, _ => by simp at hi
  | a :: l, 0, q, hi, j, u, hj10, hj => by
    simp at hi
    subst hi
    rw [List.flatMap_cons, Nat.zero_mul, Nat.zero_add, List.getElem?_append_left (by rw [qL_len]; exact hj10)]
    exact hj
  | a :: l, i + 1, q, hi, j, u, hj10, hj => by
    rw [List.flatMap_cons, List.getElem?_append_right (by rw [qL_len]; omega), qL_len, show (i + 1) * 10 + j - 10 = i * 10 + j by omega]
    exact flat_q l i q (by simpa using hi) j u hj10 hj
/-- A row of operations that lies is a slice of them. -/
theorem slO_own {w : World} {base n c : Nat} {A : Option Addr} {l : List Oq} (h : w.ownsRow base 34 10 (.slice A n c) n (l.flatMap qL)) (hn : l.length = n) (hq : ∀ q ∈ l, OpIn w q.o q.A q.n q.m) : SlO w A l := by
  intro i q hi
  rcases h.2 with ⟨_, h2⟩ | ⟨g, cap, cur, h1, _, _⟩
  · rw [← hn] at h2
    have := (List.getElem?_eq_some_iff.1 hi).1; omega
  · cases h1
    have hlt : i < n := by rw [← hn]; exact (List.getElem?_eq_some_iff.1 hi).1
    refine ⟨g, 0, rfl, fun j u hj => ?_, hq q (List.mem_of_getElem? hi)⟩
    have hj10 : j < 10 := by have := (List.getElem?_eq_some_iff.1 hj).1; rw [qL_len] at this; exact this
    have e := flat_q l i q hi j u hj10 hj
    rw [Nat.zero_add, h.cellAt _ (by omega)]
    exact e
/-- A way out by return: the results. -/
structure PaX (w : World) (E : Nat → Int → Prop) (W : World) : Prop where
  ex : ∃ (m : Nat) (er : Int), E m er ∧ Boxed W (w.heap.size + 1) 3 (.int .i64 (m : Int)) ∧ Boxed W (w.heap.size + 2) 36 (.int .i64 er)
  b0 : Boxed W w.heap.size 24 (.slice none 0 0)
  bw : Below w.heap.size w W
theorem PaX.nc {w A B : World} {row : Option Nat} {E : Nat → Int → Prop} (h : PaX w E A) (hg : A.grownBy B row) (hr : ∀ r, row = some r → w.heap.size ≤ r ∧ ∃ o : Obj, A.heap[r]? = some o ∧ o.isCells = false) : PaX w E B := by
  have hc := fun r e => (hr r e).2
  obtain ⟨m, er, h1, h2, h3⟩ := h.ex
  exact ⟨⟨m, er, h1, (cells_same hg hc h2).trans h2, (cells_same hg hc h3).trans h3⟩, (cells_same hg hc h.b0).trans h.b0, h.bw.grown hg h.bw.size (fun r e => (hr r e).1)⟩
theorem PaX.mv {w A B : World} {E : Nat → Int → Prop} (h : PaX w E A) (hm : LinM (w.heap.size + 5) A B) : PaX w E B := by
  obtain ⟨v0, v1, hb, rfl⟩ := hm
  obtain ⟨m, er, h1, h2, h3⟩ := h.ex
  exact ⟨⟨m, er, h1, h2.other (by omega) _, h3.other (by omega) _⟩, h.b0.other (by omega) _, h.bw.setCell (p := ⟨w.heap.size + 5, 0, none⟩) (Nat.le_add_right _ _) _⟩
theorem PaC.out {w A : World} {k : Nat} {l : List Oq} {v : Value} (h : PaC w k l v A) {E : Nat → Int → Prop} {m : Nat} {er : Int} (e : E m er) :
    PaX w E (((A.setCell ⟨w.heap.size, 0, none⟩ (.slice none 0 0)).setCell ⟨w.heap.size + 1, 0, none⟩ (.int .i64 (m : Int))).setCell ⟨w.heap.size + 2, 0, none⟩ (.int .i64 er)) :=
  ⟨⟨m, er, e, ((h.b1.other (by omega) _).set _).other (by omega) _, ((h.b2.other (by omega) _).other (by omega) _).set _⟩, ((h.b0.set _).other (by omega) _).other (by omega) _, ((h.bw.setCell (p := ⟨w.heap.size, 0, none⟩) (Nat.le_refl _) _).setCell (p := ⟨w.heap.size + 1, 0, none⟩) (Nat.le_add_right _ _) _).setCell (p := ⟨w.heap.size + 2, 0, none⟩) (Nat.le_add_right _ _) _⟩
theorem PaC.fin {w W : World} {k cc : Nat} {l : List Oq} {A : Option Addr} (h : PaC w k l (.slice A l.length cc) W) (D : Nat) (hD : w.heap.size ≤ D) (hD2 : W.heap[D]? = some (.deferred (some []))) (x : Option (List Deferred)) :
    (((W.setCell ⟨w.heap.size, 0, none⟩ (.slice A l.length cc)).setCell ⟨w.heap.size + 1, 0, none⟩ (.int .i64 0)).setCell ⟨w.heap.size + 2, 0, none⟩ (.int .i64 0)).heap[D]? = some (.deferred (some [])) ∧
    Boxed ((((W.setCell ⟨w.heap.size, 0, none⟩ (.slice A l.length cc)).setCell ⟨w.heap.size + 1, 0, none⟩ (.int .i64 0)).setCell ⟨w.heap.size + 2, 0, none⟩ (.int .i64 0)).putObj D (.deferred x)) w.heap.size 24 (.slice A l.length cc) ∧
    Boxed ((((W.setCell ⟨w.heap.size, 0, none⟩ (.slice A l.length cc)).setCell ⟨w.heap.size + 1, 0, none⟩ (.int .i64 0)).setCell ⟨w.heap.size + 2, 0, none⟩ (.int .i64 0)).putObj D (.deferred x)) (w.heap.size + 1) 3 (.int .i64 0) ∧
    Boxed ((((W.setCell ⟨w.heap.size, 0, none⟩ (.slice A l.length cc)).setCell ⟨w.heap.size + 1, 0, none⟩ (.int .i64 0)).setCell ⟨w.heap.size + 2, 0, none⟩ (.int .i64 0)).putObj D (.deferred x)) (w.heap.size + 2) 36 (.int .i64 0) ∧
    SlO ((((W.setCell ⟨w.heap.size, 0, none⟩ (.slice A l.length cc)).setCell ⟨w.heap.size + 1, 0, none⟩ (.int .i64 0)).setCell ⟨w.heap.size + 2, 0, none⟩ (.int .i64 0)).putObj D (.deferred x)) A l ∧
    Below w.heap.size w ((((W.setCell ⟨w.heap.size, 0, none⟩ (.slice A l.length cc)).setCell ⟨w.heap.size + 1, 0, none⟩ (.int .i64 0)).setCell ⟨w.heap.size + 2, 0, none⟩ (.int .i64 0)).putObj D (.deferred x)) := by
  have g0 := grown_set (World.grownBy.refl W (some w.heap.size)) 0 (.slice A l.length cc)
  have b0 := h.b0.set (.slice A l.length cc)
  have b1 := h.b1.other (B' := w.heap.size) (by omega) (.slice A l.length cc)
  have b2 := h.b2.other (B' := w.heap.size) (by omega) (.slice A l.length cc)
  have o0 := h.ow.kept g0 (.inr (own_ne h.ow (show Whole _ _ _ _ from h.b0) (by decide)).symm)
  have q0 : ∀ q ∈ l, OpIn _ q.o q.A q.n q.m := fun q hq => (h.qs q hq).1.box h.b0 g0
  have w0 := h.bw.setCell (p := ⟨w.heap.size, 0, none⟩) (Nat.le_refl _) (.slice A l.length cc)
  have d0 := (KeepsOthers.setCell W ⟨w.heap.size, 0, none⟩ (.slice A l.length cc)).same D _ hD2 rfl
  generalize W.setCell ⟨w.heap.size, 0, none⟩ (.slice A l.length cc) = W1 at b0 b1 b2 o0 q0 w0 d0 ⊢
  have g1 := grown_set (World.grownBy.refl W1 (some (w.heap.size + 1))) 0 (.int .i64 0)
  have c0 := b0.other (B' := w.heap.size + 1) (by omega) (.int .i64 0)
  have c1 := b1.set (.int .i64 0)
  have c2 := b2.other (B' := w.heap.size + 1) (by omega) (.int .i64 0)
  have o1 := o0.kept g1 (.inr (own_ne o0 (show Whole _ _ _ _ from b1) (by decide)).symm)
  have q1 : ∀ q ∈ l, OpIn _ q.o q.A q.n q.m := fun q hq => (q0 q hq).box b1 g1
  have w1 := w0.setCell (p := ⟨w.heap.size + 1, 0, none⟩) (Nat.le_add_right _ _) (.int .i64 0)
  have d1 := (KeepsOthers.setCell W1 ⟨w.heap.size + 1, 0, none⟩ (.int .i64 0)).same D _ d0 rfl
  generalize W1.setCell ⟨w.heap.size + 1, 0, none⟩ (.int .i64 0) = W2 at c0 c1 c2 o1 q1 w1 d1 ⊢
  have g2 := grown_set (World.grownBy.refl W2 (some (w.heap.size + 2))) 0 (.int .i64 0)
  have e0 := c0.other (B' := w.heap.size + 2) (by omega) (.int .i64 0)
  have e1 := c1.other (B' := w.heap.size + 2) (by omega) (.int .i64 0)
  have e2 := c2.set (.int .i64 0)
  have o2 := o1.kept g2 (.inr (own_ne o1 (show Whole _ _ _ _ from c2) (by decide)).symm)
  have q2 : ∀ q ∈ l, OpIn _ q.o q.A q.n q.m := fun q hq => (q1 q hq).box c2 g2
  have w2 := w1.setCell (p := ⟨w.heap.size + 2, 0, none⟩) (Nat.le_add_right _ _) (.int .i64 0)
  have d2 := (KeepsOthers.setCell W2 ⟨w.heap.size + 2, 0, none⟩ (.int .i64 0)).same D _ d1 rfl
  generalize W2.setCell ⟨w.heap.size + 2, 0, none⟩ (.int .i64 0) = W3 at e0 e1 e2 o2 q2 w2 d2 ⊢
  have gp := grownBy_putObj' W3 D (.deferred x)
  have hc : ∀ r, some D = some r → ∃ o : Obj, W3.heap[r]? = some o ∧ o.isCells = false := fun r e => by cases e; exact ⟨_, d2, rfl⟩
  exact ⟨d2, (cells_same gp hc e0).trans e0, (cells_same gp hc e1).trans e1, (cells_same gp hc e2).trans e2, slO_own (own_nc o2 gp hc) rfl (fun q hq => (q2 q hq).nc gp hc), w2.grown gp w2.size (fun r e => by cases e; exact hD)⟩
end Go.Proofs.YtojodekmmkemgaaGreatDoor
