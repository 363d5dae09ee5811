/- What lies in memory while Move goes over the parts that its range touches. No condition. -/
import Derived.Test.YtkkkppbcjmeapaaDoorRtB
import Derived.Maps.OwnIn
import Derived.Sort.CutIn
namespace Go.Proofs.YtkkkppbcjmeapaaDoor
open Go.RowKit Go.Shelf

theorem whole_not_row {W : World} {b : Nat} {t e : TypeId} {cs : Array Value} (h : Whole W b t cs) (hte : t ≠ e) {base size k : Nat} {v : Value} {xs : List Value} (hr : W.ownsRow base e size v k xs) : some b ≠ v.ownBlock := by
  rcases hr.2 with ⟨rfl, _⟩ | ⟨g, cap, cur, rfl, _, hgb, _⟩
  · simp [Value.ownBlock]
  · intro e'
    obtain rfl : b = g := by simpa [Value.ownBlock] using e'
    rw [show W.heap[b]? = _ from h] at hgb
    cases hgb
    exact hte rfl
theorem Whole.grown {W W' : World} {row : Option Nat} {b : Nat} {t : TypeId} {cs : Array Value} (h : Whole W b t cs) (hg : W.grownBy W' row) (hne : some b ≠ row) : Whole W' b t cs := (hg.block b h.lt hne).trans h
theorem CellsR.grown {w w' : World} {b o : Nat} {ps : List (ByteArray × ByteArray)} {row : Option Nat} (h : CellsR w b o ps) (hg : w.grownBy w' row) (hne : ps ≠ [] → some b ≠ row) : CellsR w' b o ps := fun i p hi =>
  have hn : ps ≠ [] := fun e => by subst e; simp at hi
  ⟨grown_cell (h i p hi).1 hg (hne hn), grown_cell (h i p hi).2 hg (hne hn)⟩
theorem own_block_lt {w : World} {base : Nat} {e : TypeId} {size n : Nat} {v : Value} {xs : List Value} (h : w.ownsRow base e size v n xs) {b : Nat} (hb : w.heap.size ≤ b) : some b ≠ v.ownBlock := fun e' => by
  have := (h.lt b e'.symm).2; omega
theorem row_cells {w : World} {base : Nat} {e : TypeId} {size n : Nat} {v : Value} {xs : List Value} (h : w.ownsRow base e size v n xs) : ∀ (j : Nat) (o : Obj), v.ownBlock = some j → w.heap[j]? = some o → o.isCells = true := by
  intro j o hj ho
  rcases h.2 with ⟨rfl, _⟩ | ⟨g, cap, cur, rfl, _, hgb, _⟩
  · cases hj
  · obtain rfl : g = j := by simpa [Value.ownBlock] using hj
    rw [hgb] at ho; cases ho; rfl
/-- An append of parts, with what becomes of the block. -/
theorem run_app_pt5 (w : World) (base : Nat) (v : Value) (n : Nat) (xs : List Value) (hown : w.ownsRow base 89 4 v n xs) (a : Addr) (m c : Nat) (news : List Value) (hm : news.length = m * 4) (hc : ∀ j u, news[j]? = some u → w.cell? (a.add j) = some u) (h1 : ∀ u ∈ news, u.oneCell' = true) (hn : n + m ≤ 1000) (hbase : base ≤ w.heap.size) :
    ∃ v' w', (Builtin.append_ #[72, 72] 72 #[v, .slice (some a) m c]).run Tryd.prog w = .ok v' w' ∧ w'.ownsRow base 89 4 v' (n + m) (xs ++ news) ∧ w.grownBy w' v.ownBlock ∧ (v'.ownBlock = v.ownBlock ∨ v'.ownBlock = some w.heap.size) := by
  obtain ⟨i, hi, hz0, hz1, hz2⟩ := info_parts infoPt
  obtain ⟨v', w', hrun, h4, h5, _, h6⟩ := run_append_own_at (P := Tryd.prog) w base 72 72 89 i (.agg #[.string ⟨#[]⟩, .string ⟨#[]⟩, .int .i64 0, .int .i64 0]) 4 48 Tryd.underlying72 hi hz0 hz1 hz2 rfl (by decide) v n xs hown a m c news (by rw [hm]) hc h1 (by unfold maxLen; omega) (by omega) hbase
  exact ⟨v', w', hrun, h4, h5, h6⟩

theorem wpListIn_append_run {F : Fence} {n : Nat} {P : Program} {w : World} {ops : Array Oper} {rest : List Oper} {o : Oper} {a : Act} {Q : Exit → Act → World → Prop}
    (hg : o.guard = none) (s x : Operand) (t : TypeId) (hop : o.op = Op.call { callee := Callee.builtin Builtin.append, args := #[s, x], argTypes := #[t, t] })
    {v xv v' : Value} {w' : World} (hs : a.eval s = v) (hx : a.eval x = xv) (hrun : (Builtin.append_ #[t, t] o.type #[v, xv]).run P w = .ok v' w') (h : wpListIn F n P ops Q rest (a.put o.dst v') w') :
    wpListIn F n P ops Q (o :: rest) a w := by
  refine wpListIn_plain hg fun K hK' => ?_
  unfold Oper.wpIn
  refine ⟨?_, ?_⟩
  · simp [Oper.about, hop, resolve, Target.leads, Sem.run_pure]
  · rw [Oper.semAt_plain F _ _ (by rw [hop]; intro c hc'; cases hc')]
    simp [execOp, hop, resolve, invoke, builtin, hs, hx, hrun, Result.andThen]
    exact hK' _ _ h
theorem flatP_append (a b : List Pt) : flatP (a ++ b) = flatP a ++ flatP b := by simp [flatP]
theorem take_snocL {α : Type} {l : List α} {k : Nat} {a : α} (h : l[k]? = some a) (m : List α) : (m ++ l.take k) ++ [a] = m ++ l.take (k + 1) := by
  rw [List.take_add_one, h]; simp

/-- What Without leaves where both ranges are allowed. -/
theorem without_tch (f t x y : ByteArray) (w : World) (hf : f.size ≤ 9223372036854775807) (ht : t.size ≤ 9223372036854775807) (hx : x.size ≤ 9223372036854775807) (hy : y.size ≤ 9223372036854775807) (h1 : okR f t = true) (h2 : okR x y = true) :
    Calls Tryd.prog 43 #[.agg #[.string f, .string t], .agg #[.string x, .string y]] w fun e w' => (∃ a cap G o, e = .returned (.tuple #[.slice a (outL f t x y).length cap, .int .i64 0]) ∧ (outL f t x y ≠ [] → a = some ⟨G, o, none⟩) ∧ CellsR w' G o (outL f t x y) ∧ w.heap.size ≤ G) ∧ Below w.heap.size w w' := by
  refine (without_fresh f t x y w hf ht hx hy).mono ?_
  rintro e w' ⟨v, rfl, ⟨ho, hfr⟩, hb⟩
  rw [h1, h2] at ho ⊢
  simp only [Bool.and_self, if_true] at ho
  refine ⟨?_, hb⟩
  rcases ho with ⟨h3, rfl⟩ | ⟨h3, g, cap, rfl, h4⟩
  · rw [h3]
    exact ⟨none, 0, w.heap.size, 0, rfl, fun h => absurd rfl h, fun i p hi => by simp at hi, Nat.le_refl _⟩
  · exact ⟨_, cap, g, 0, rfl, fun _ => rfl, h4, hfr g rfl⟩

structure MvS (n0 N K Bx G o : Nat) (ps : List (ByteArray × ByteArray)) (x y : ByteArray) (W0 W wx : World) (p : Pt) (fst lst mx : Int) (left : List Pt) : Prop where
  h0 : n0 < N
  hB : N + 1 + 1 + 1 + 1 + 1 < Bx
  hG : N + 1 + 1 + 1 + 1 + 1 < G
  hN : n0 ≤ wx.heap.size
  lB : N + 1 + 1 + 1 + 1 + 1 < wx.heap.size
  kf : KeepsFrom K W wx
  kp : KpT n0 (N + 1 + 1 + 1 + 1 + 1) W wx
  b11 : Boxed wx N 3 (.int .i64 fst)
  b12 : Boxed wx (N + 1) 3 (.int .i64 lst)
  b13 : Boxed wx (N + 1 + 1) 3 (.int .i64 mx)
  wX : Whole wx n0 30 #[.string x, .string y]
  wR : Whole wx (N + 1 + 1 + 1 + 1 + 1) 30 #[.string x, .string y]
  wB : Whole wx Bx 89 #[.string p.f, .string p.t, .int .i64 p.g, .int .i64 p.e]
  cR : CellsR wx G o ps
  row : ∃ v, Boxed wx (N + 1 + 1 + 1) 72 v ∧ wx.ownsRow n0 89 4 v left.length (flatP left) ∧ some Bx ≠ v.ownBlock ∧ (ps ≠ [] → some G ≠ v.ownBlock)
  bl : Below n0 W0 wx
section
variable {n0 N K Bx G o : Nat} {ps : List (ByteArray × ByteArray)} {x y : ByteArray} {W0 W wx wx' : World} {p : Pt} {fst lst mx : Int} {left : List Pt}
theorem MvS.below (h : MvS n0 N K Bx G o ps x y W0 W wx p fst lst mx left) (hb : Below wx.heap.size wx wx') : MvS n0 N K Bx G o ps x y W0 W wx' p fst lst mx left := by
  have hg := below_grown hb
  obtain ⟨v, h1, h2, h3, h4⟩ := h.row
  exact ⟨h.h0, h.hB, h.hG, Nat.le_trans h.hN hb.size, Nat.lt_of_lt_of_le h.lB hb.size, h.kf.trans (KeepsFrom.of_grownBy hg (fun j e => by cases e)), h.kp.trans (KpT.of_below hb h.hN h.lB),
    h.b11.kept hg (by simp), h.b12.kept hg (by simp), h.b13.kept hg (by simp), h.wX.grown hg (by simp), h.wR.grown hg (by simp), h.wB.grown hg (by simp), h.cR.grown hg (fun _ => by simp),
    ⟨v, h1.kept hg (by simp), h2.kept hg (by cases v.ownBlock <;> simp), h3, h4⟩, h.bl.trans (hb.mono h.hN)⟩
theorem MvS.alloc (h : MvS n0 N K Bx G o ps x y W0 W wx p fst lst mx left) (ob : Obj) : MvS n0 N K Bx G o ps x y W0 W (wx.alloc ob) p fst lst mx left := h.below ((Below.refl _ _).alloc (Nat.le_refl _) _)
theorem MvS.drew (h : MvS n0 N K Bx G o ps x y W0 W wx p fst lst mx left) : MvS n0 N K Bx G o ps x y W0 W wx.drew p fst lst mx left := h.below ((Below.refl _ _).drew)
theorem kpT_set {n₀ B2 b : Nat} {W W' : World} (h : KpT n₀ B2 W W') (hb : n₀ ≤ b) (hne : b ≠ B2) (u : Value) : KpT n₀ B2 W (W'.setCell ⟨b, 0, none⟩ u) := h.set hb hne u
theorem MvS.s11 (h : MvS n0 N K Bx G o ps x y W0 W wx p fst lst mx left) (u : Int) : MvS n0 N K Bx G o ps x y W0 W (wx.setCell ⟨N, 0, none⟩ (.int .i64 u)) p u lst mx left := by
  have hg := grownBy_setCell' wx N (.int .i64 u)
  obtain ⟨v, h1, h2, h3, h4⟩ := h.row
  have := h.h0; have := h.hB; have := h.hG
  exact ⟨h.h0, h.hB, h.hG, by rw [World.size_setCell]; exact h.hN, by rw [World.size_setCell]; exact h.lB, h.kf.trans ((KeepsOthers.setCell _ _ _).from _), h.kp.set (by omega) (by omega) _,
    h.b11.set _, h.b12.other (by omega) _, h.b13.other (by omega) _, h.wX.grown hg (by simp; omega), h.wR.grown hg (by simp; omega), h.wB.grown hg (by simp; omega), h.cR.grown hg (fun _ => by simp; omega),
    ⟨v, h1.other (by omega) _, h2.kept hg (Or.inr (fun e => (Boxed.not_row h.b11 (by decide) h2) e.symm)), h3, h4⟩, h.bl.setCell (p := ⟨N, 0, none⟩) (by show n0 ≤ N; omega) _⟩
theorem MvS.s12 (h : MvS n0 N K Bx G o ps x y W0 W wx p fst lst mx left) (u : Int) : MvS n0 N K Bx G o ps x y W0 W (wx.setCell ⟨N + 1, 0, none⟩ (.int .i64 u)) p fst u mx left := by
  have hg := grownBy_setCell' wx (N + 1) (.int .i64 u)
  obtain ⟨v, h1, h2, h3, h4⟩ := h.row
  have := h.h0; have := h.hB; have := h.hG
  exact ⟨h.h0, h.hB, h.hG, by rw [World.size_setCell]; exact h.hN, by rw [World.size_setCell]; exact h.lB, h.kf.trans ((KeepsOthers.setCell _ _ _).from _), h.kp.set (by omega) (by omega) _,
    h.b11.other (by omega) _, h.b12.set _, h.b13.other (by omega) _, h.wX.grown hg (by simp; omega), h.wR.grown hg (by simp; omega), h.wB.grown hg (by simp; omega), h.cR.grown hg (fun _ => by simp; omega),
    ⟨v, h1.other (by omega) _, h2.kept hg (Or.inr (fun e => (Boxed.not_row h.b12 (by decide) h2) e.symm)), h3, h4⟩, h.bl.setCell (p := ⟨N + 1, 0, none⟩) (by show n0 ≤ N + 1; omega) _⟩
theorem MvS.s13 (h : MvS n0 N K Bx G o ps x y W0 W wx p fst lst mx left) (u : Int) : MvS n0 N K Bx G o ps x y W0 W (wx.setCell ⟨N + 1 + 1, 0, none⟩ (.int .i64 u)) p fst lst u left := by
  have hg := grownBy_setCell' wx (N + 1 + 1) (.int .i64 u)
  obtain ⟨v, h1, h2, h3, h4⟩ := h.row
  have := h.h0; have := h.hB; have := h.hG
  exact ⟨h.h0, h.hB, h.hG, by rw [World.size_setCell]; exact h.hN, by rw [World.size_setCell]; exact h.lB, h.kf.trans ((KeepsOthers.setCell _ _ _).from _), h.kp.set (by omega) (by omega) _,
    h.b11.other (by omega) _, h.b12.other (by omega) _, h.b13.set _, h.wX.grown hg (by simp; omega), h.wR.grown hg (by simp; omega), h.wB.grown hg (by simp; omega), h.cR.grown hg (fun _ => by simp; omega),
    ⟨v, h1.other (by omega) _, h2.kept hg (Or.inr (fun e => (Boxed.not_row h.b13 (by decide) h2) e.symm)), h3, h4⟩, h.bl.setCell (p := ⟨N + 1 + 1, 0, none⟩) (by show n0 ≤ N + 1 + 1; omega) _⟩
/-- The list in its box has grown. -/
theorem MvS.app (h : MvS n0 N K Bx G o ps x y W0 W wx p fst lst mx left) {v v' : Value} {more : List Pt} (hv : Boxed wx (N + 1 + 1 + 1) 72 v) (hg : wx.grownBy wx' v.ownBlock) (hown : wx'.ownsRow n0 89 4 v' (left ++ more).length (flatP (left ++ more))) (hblk : v'.ownBlock = v.ownBlock ∨ v'.ownBlock = some wx.heap.size) (hps : ps ≠ [] → G < wx.heap.size) :
    MvS n0 N K Bx G o ps x y W0 W (wx'.setCell ⟨N + 1 + 1 + 1, 0, none⟩ v') p fst lst mx (left ++ more) := by
  obtain ⟨v0, h1, h2, h3, h4⟩ := h.row
  obtain rfl : v0 = v := by
    have := (show wx.heap[N + 1 + 1 + 1]? = _ from h1).symm.trans (show wx.heap[N + 1 + 1 + 1]? = _ from hv)
    simpa using this
  have := h.h0; have := h.hB; have := h.hG; have := h.lB; have := h.hN
  have g11 := Boxed.not_row h.b11 (by decide) h2
  have g12 := Boxed.not_row h.b12 (by decide) h2
  have g13 := Boxed.not_row h.b13 (by decide) h2
  have g14 := Boxed.not_row h1 (by decide) h2
  have gX := whole_not_row h.wX (by decide) h2
  have gR := whole_not_row h.wR (by decide) h2
  have hg' := grownBy_setCell' wx' (N + 1 + 1 + 1) v'
  have hsz := hg.size
  have i14 := h1.kept hg g14
  have hb1 : Below n0 wx wx' := (Below.refl n0 wx).grown hg (by omega) (fun q e => (h2.lt q e).1)
  refine ⟨h.h0, h.hB, h.hG, by rw [World.size_setCell]; omega, by rw [World.size_setCell]; omega, (h.kf.trans ((KeepsOthers.of_grownBy hg (row_cells h2)).from _)).trans ((KeepsOthers.setCell _ _ _).from _), ?_,
    (h.b11.kept hg g11).other (by omega) _, (h.b12.kept hg g12).other (by omega) _, (h.b13.kept hg g13).other (by omega) _, (h.wX.grown hg gX).grown hg' (by simp; omega), (h.wR.grown hg gR).grown hg' (by simp; omega), (h.wB.grown hg h3).grown hg' (by simp; omega), (h.cR.grown hg h4).grown hg' (fun _ => by simp; omega), ?_, ?_⟩
  · exact KpT.set ⟨h.kp.1.trans hb1, (hg.block _ h.lB gR).trans h.kp.2⟩ (by omega) (by omega) _
  · refine ⟨v', i14.set _, hown.kept hg' (Or.inr (fun e => (Boxed.not_row i14 (by decide) hown) e.symm)), ?_, fun hp => ?_⟩
    · rcases hblk with e | e
      · rw [e]; exact h3
      · rw [e]; have := h.wB.lt; simp; omega
    · rcases hblk with e | e
      · rw [e]; exact h4 hp
      · rw [e]; have := hps hp; simp; omega
  · exact (h.bl.trans hb1).setCell (p := ⟨N + 1 + 1 + 1, 0, none⟩) (by show n0 ≤ N + 1 + 1 + 1; omega) _
theorem MvS.restC (h : MvS n0 N K Bx G o ps x y W0 W wx p fst lst mx left) (hb : Below wx.heap.size wx wx') {G' o' : Nat} {ps' : List (ByteArray × ByteArray)} (hc : CellsR wx' G' o' ps') (hG : wx.heap.size ≤ G') : MvS n0 N K Bx G' o' ps' x y W0 W wx' p fst lst mx left := by
  obtain ⟨v, h1, h2, h3, h4⟩ := h.row
  have hg := below_grown hb
  have h' := h.below hb
  have := h.lB
  exact ⟨h.h0, h.hB, by omega, h'.hN, h'.lB, h'.kf, h'.kp, h'.b11, h'.b12, h'.b13, h'.wX, h'.wR, h'.wB, hc, ⟨v, h1.kept hg (by simp), h2.kept hg (by cases v.ownBlock <;> simp), h3, fun _ => own_block_lt h2 hG⟩, h'.bl⟩
theorem MvS.rest (h : MvS n0 N K Bx G o ps x y W0 W wx p fst lst mx left) {G' o' : Nat} {ps' : List (ByteArray × ByteArray)} (hc : CellsR wx G' o' ps') (hG : N + 1 + 1 + 1 + 1 + 1 < G') (hv : ∀ v, Boxed wx (N + 1 + 1 + 1) 72 v → some G' ≠ v.ownBlock) : MvS n0 N K Bx G' o' ps' x y W0 W wx p fst lst mx left := by
  obtain ⟨v, h1, h2, h3, h4⟩ := h.row
  exact ⟨h.h0, h.hB, hG, h.hN, h.lB, h.kf, h.kp, h.b11, h.b12, h.b13, h.wX, h.wR, h.wB, hc, ⟨v, h1, h2, h3, fun _ => hv v h1⟩, h.bl⟩
end
end Go.Proofs.YtkkkppbcjmeapaaDoor
