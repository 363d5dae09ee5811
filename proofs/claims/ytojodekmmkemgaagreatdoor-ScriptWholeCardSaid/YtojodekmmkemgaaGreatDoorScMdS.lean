/- What Numbers.Made holds in memory. No condition. -/
import Derived.Test.YtojodekmmkemgaaGreatDoorScMd
namespace Go.Proofs.YtojodekmmkemgaaGreatDoor
open Go.RowKit Go.Shelf

theorem size_list (x : ByteArray) : x.data.toList.length = x.size := by rw [Array.length_toList]; rfl
/-- What Made holds in memory: the numbers, the result, the operation. -/
structure MoI (w : World) (x : No) (C : Nat) (cc : Ov) (W : World) : Prop where
  bl : Below w.heap.size w W
  nm : Whole W w.heap.size 27 (nAo x)
  rs : Whole W (w.heap.size + 1) 34 (oA (zeroO 0 0) none 0 0)
  co : Whole W C 34 (oA cc none 0 0)
  o1 : w.heap.size + 1 < C
theorem MoI.keep {w W W' : World} {x : No} {C : Nat} {cc : Ov} (h : MoI w x C cc W) (hb : Below W.heap.size W W') : MoI w x C cc W' :=
  ⟨h.bl.trans (hb.mono h.bl.size), h.nm.keep hb, h.rs.keep hb, h.co.keep hb, h.o1⟩
/-- A block behind the operation's is turned. -/
theorem MoI.other {w W W' : World} {x : No} {C S : Nat} {cc : Ov} (h : MoI w x C cc W) (hg : W.grownBy W' (some S)) (hs : C < S) : MoI w x C cc W' := by
  have o1 := h.o1
  exact ⟨h.bl.grown hg h.bl.size (fun k e => by cases e; omega), h.nm.grown hg (fun e => by have := Option.some.inj e; omega), h.rs.grown hg (fun e => by have := Option.some.inj e; omega), h.co.grown hg (fun e => by have := Option.some.inj e; omega), o1⟩
/-- A cell of the operation is set. -/
theorem MoI.put {w W : World} {x : No} {C : Nat} {cc cc' : Ov} (h : MoI w x C cc W) (i : Nat) (v : Value) (hput : (oA cc none 0 0).setIfInBounds i v = oA cc' none 0 0) : MoI w x C cc' (W.setCell ⟨C, i, none⟩ v) := by
  have o1 := h.o1
  have g2 := grown_set (World.grownBy.refl W (some C)) i v
  have hw := h.co.put i v
  rw [hput] at hw
  exact ⟨h.bl.grown g2 h.bl.size (fun k e => by cases e; omega), h.nm.grown g2 (fun e => by have := Option.some.inj e; omega), h.rs.grown g2 (fun e => by have := Option.some.inj e; omega), hw, o1⟩
/-- The start: the numbers, the result, the operation with its kind and number. -/
theorem made_begin (w : World) (x : No) (k n : Int) : ∃ w3 C, w3 = (((w.alloc (.cells (nAo x) 27)).alloc (.cells (oA (zeroO 0 0) none 0 0) 34)).alloc (.cells (oA (zeroO k n) none 0 0) 34)) ∧ C = ((w.alloc (.cells (nAo x) 27)).alloc (.cells (oA (zeroO 0 0) none 0 0) 34)).heap.size ∧ MoI w x C (zeroO k n) w3 := by
  have b1 := (Below.refl w.heap.size w).alloc (Nat.le_refl _) (.cells (nAo x) 27)
  have b2 := b1.alloc b1.size (.cells (oA (zeroO 0 0) none 0 0) 34)
  have b3 := b2.alloc b2.size (.cells (oA (zeroO k n) none 0 0) 34)
  have W2 := Whole.new (w.alloc (.cells (nAo x) 27)) 34 (oA (zeroO 0 0) none 0 0)
  rw [World.size_alloc] at W2
  refine ⟨_, _, rfl, rfl, b3, ((Whole.new w 27 (nAo x)).alloc _).alloc _, W2.alloc _, Whole.new _ _ _, ?_⟩
  rw [World.size_alloc, World.size_alloc]
  omega
theorem gt_iff (k t : ByteArray) : (!Op.bytesLess t.toList k.toList && !(t.toList == k.toList)) = Op.bytesLess k.toList t.toList := by
  cases h1 : Op.bytesLess k.toList t.toList with
  | true =>
    have h2 : Op.bytesLess t.toList k.toList = false := by
      cases h2 : Op.bytesLess t.toList k.toList with
      | false => rfl
      | true => have := bl_trans h1 h2; rw [bl_irr] at this; cases this
    have h3 : (t.toList == k.toList) = false := by
      rw [beq_eq_false_iff_ne]
      intro e
      rw [e, bl_irr] at h1
      cases h1
    rw [h2, h3]
    rfl
  | false =>
    cases h2 : Op.bytesLess t.toList k.toList with
    | true => rfl
    | false =>
      have := bl_tot h1 h2
      rw [this, beq_self_eq_true]
      rfl
theorem nm_z (n : Nat) : (nmBA n).size ≤ 9223372036854775807 := by
  have h : (nmBA n).size = 1 + n % 16 := by
    unfold nmBA nameL
    rw [Lib.size_mk, List.length_replicate]
  omega
theorem fr_z (x : No) : (frO x).size ≤ 9223372036854775807 := by
  unfold frO
  split
  · exact Nat.zero_le _
  · exact nm_z _
theorem to_z (x : Nv) : (toN x).size ≤ 9223372036854775807 := by
  unfold toN
  split
  · exact nm_z _
  · exact Nat.zero_le _
/-- The result as it is returned. -/
theorem MoI.done {w W : World} {x : No} {C : Nat} {cc : Ov} (h : MoI w x C cc W) (hd : cc.d = zeroD) (hz : OpZ cc) (hm : madeO x = cc) (e : Ending) (he : e = .returned (.agg (oA cc none 0 0))) : MdO x w e (W.setRow (w.heap.size + 1) (oA cc none 0 0)) :=
  ⟨none, 0, 0, by rw [he, hm], by rw [hm]; exact ⟨by rw [hd]; exact defAt_zeroO _, hz⟩, below_row h.bl (Nat.le_succ _) _, fun a ha => by cases ha⟩

/-- The first steps that numbers make. -/
def stJ (x : No) (j : Nat) : List Sp := ⟨⟨#[107, 48]⟩, dlN (nvO x)⟩ :: moreN j
theorem stJ_next (x : No) (j : Nat) : stJ x (j + 1) = stJ x j ++ [⟨⟨#[107, (49 + j).toUInt8]⟩, (j : Int) - 9⟩] := by
  unfold stJ moreN
  rw [List.range_succ, List.map_append]
  rfl
theorem stJ_len (x : No) (j : Nat) : (stJ x j).length = 1 + j := by
  unfold stJ moreN
  rw [List.length_cons, List.length_map, List.length_range]
  omega
structure MoJ (w : World) (x : No) (C B0 : Nat) (c1 : Ov) (d0 : Dv) (j : Nat) (A : Option Addr) (n m : Nat) (W : World) : Prop where
  bl : Below w.heap.size w W
  nm : Whole W w.heap.size 27 (nAo x)
  rs : Whole W (w.heap.size + 1) 34 (oA (zeroO 0 0) none 0 0)
  cw : Whole W C 34 (oA { c1 with d := d0 } A n m)
  ow : W.ownsRow B0 71 2 (.slice A n m) (1 + j) ((stJ x j).flatMap stC)
  hn : n = 1 + j
  o1 : w.heap.size + 1 < C
  o2 : C < B0
  o3 : B0 ≤ W.heap.size
theorem MoJ.other {w W W' : World} {x : No} {C B0 : Nat} {c1 : Ov} {d0 : Dv} {j : Nat} {A : Option Addr} {n m : Nat} {row : Option Nat} (h : MoJ w x C B0 c1 d0 j A n m W) (hg : W.grownBy W' row) (hr : ∀ k, row = some k → B0 ≤ k) :
    Below w.heap.size w W' ∧ Whole W' w.heap.size 27 (nAo x) ∧ Whole W' (w.heap.size + 1) 34 (oA (zeroO 0 0) none 0 0) ∧ Whole W' C 34 (oA { c1 with d := d0 } A n m) := by
  have o1 := h.o1
  have o2 := h.o2
  exact ⟨h.bl.grown hg h.bl.size (fun k e => by have := hr k e; omega), h.nm.grown hg (fun e => by have := hr _ e.symm; omega), h.rs.grown hg (fun e => by have := hr _ e.symm; omega), h.cw.grown hg (fun e => by have := hr _ e.symm; omega)⟩
/-- A step is appended. -/
theorem MoJ.round {w W : World} {x : No} {C B0 : Nat} {c1 : Ov} {d0 : Dv} {j : Nat} {A : Option Addr} {n m : Nat} (h : MoJ w x C B0 c1 d0 j A n m W) (hj : j ≤ 100) (ky : ByteArray) (hky : ky = ⟨#[107, (49 + j).toUInt8]⟩) (o : Obj) :
    W.cell? ⟨C, 9, none⟩ = some (.slice A n m) ∧
    ∃ (A' : Option Addr) (m' : Nat) (w8 : World), Hid ((Builtin.append_ #[30, 30] 30 #[.slice A n m, .slice (some ⟨W.heap.size + 1, 0, none⟩) 1 1]).run Tryz.prog ((W.alloc o).alloc (.cells #[.string ky, .int .i64 ((j : Int) - 9)] 71)) = .ok (.slice A' (n + 1) m') w8) ∧ w8.cell? ⟨C, 9, none⟩ = some (.slice A n m) ∧ w8.frozen? ⟨C, 9, none⟩ = false ∧
      Hid (MoJ w x C B0 c1 d0 (j + 1) A' (n + 1) m' (w8.setCell ⟨C, 9, none⟩ (.slice A' (n + 1) m'))) := by
  have o1 := h.o1
  have o2 := h.o2
  have o3 := h.o3
  have hn := h.hn
  have hlt := h.ow.lt
  have b1 := (Below.refl W.heap.size W).alloc (Nat.le_refl _) o
  have b2 := b1.alloc b1.size (.cells #[.string ky, .int .i64 ((j : Int) - 9)] 71)
  have hsz : (W.alloc o).heap.size = W.heap.size + 1 := World.size_alloc _ _
  have hsz2 : ((W.alloc o).alloc (.cells #[.string ky, .int .i64 ((j : Int) - 9)] 71)).heap.size = W.heap.size + 2 := by rw [World.size_alloc, World.size_alloc]
  obtain ⟨v', w8, hrun, hown, hgr⟩ := run_app_step ((W.alloc o).alloc (.cells #[.string ky, .int .i64 ((j : Int) - 9)] 71)) B0 (.slice A n m) (1 + j) _ ((h.ow.alloc _).alloc _) ⟨W.heap.size + 1, 0, none⟩ 1 1 [.string ky, .int .i64 ((j : Int) - 9)] rfl (news_at (W.alloc o) _ [.string ky, .int .i64 ((j : Int) - 9)] _ hsz.symm) (by simp [Value.oneCell']) (by omega) (by omega)
  obtain ⟨A', m', rfl, _⟩ := own_slice2 hown
  have h2 := h.other (gbelow b2) (by simp)
  have hrow : ∀ k, Value.ownBlock (.slice A n m) = some k → B0 ≤ k := fun k e => (hlt k e).1
  have q1 := h2.1.grown hgr h2.1.size (fun k e => by have := hrow k e; omega)
  have q2 := h2.2.1.grown hgr (fun e => by have := hrow _ e.symm; omega)
  have q3 := h2.2.2.1.grown hgr (fun e => by have := hrow _ e.symm; omega)
  have q4 := h2.2.2.2.grown hgr (fun e => by have := hrow _ e.symm; omega)
  have g9 := grown_set (World.grownBy.refl w8 (some C)) 9 (.slice A' (n + 1) m')
  have e1 : 1 + j + 1 = n + 1 := by omega
  have hsz8 := hgr.size
  rw [e1] at hrun hown
  refine ⟨h.cw.cell 9, A', m', w8, Lib.hid hrun, q4.cell 9, q4.fr 9, Lib.hid ⟨q1.grown g9 q1.size (fun k e => by cases e; omega), q2.grown g9 (fun e => by have := Option.some.inj e; omega), q3.grown g9 (fun e => by have := Option.some.inj e; omega), ?_, ?_, by omega, o1, o2, ?_⟩⟩
  · have := q4.put 9 (.slice A' (n + 1) m')
    simpa [oA] using this
  · rw [stJ_next, List.flatMap_append, show 1 + (j + 1) = n + 1 by omega]
    have hk := hown.kept g9 (Or.inr (fun e => by have := (hown.lt C e).1; omega))
    rw [hky] at hk
    exact hk
  · have := g9.size
    omega
/-- The first step lies alone. -/
theorem own_step1 {W : World} {X B0 : Nat} {ky : ByteArray} {v : Int} (h : Whole W X 71 #[.string ky, .int .i64 v]) (hX : B0 ≤ X) : W.ownsRow B0 71 2 (.slice (some ⟨X, 0, none⟩) 1 1) 1 [.string ky, .int .i64 v] :=
  ⟨rfl, Or.inr ⟨X, 1, _, rfl, hX, h, Nat.le_refl _, by decide, rfl, rfl⟩⟩
theorem MoJ.new {w W : World} {x : No} {C B0 X : Nat} {c1 : Ov} (d0 : Dv) (h : MoI w x C c1 W) (hX : Whole W X 71 #[.string ⟨#[107, 48]⟩, .int .i64 (dlN (nvO x))]) (h1 : C < B0) (h2 : B0 ≤ X) :
    MoJ w x C B0 c1 d0 0 (some ⟨X, 0, none⟩) 1 1 ((((W.setCell ⟨C, 6, none⟩ (.string d0.n)).setCell ⟨C, 7, none⟩ (.int .i64 d0.r)).setCell ⟨C, 8, none⟩ (.int .i64 d0.dl)).setCell ⟨C, 9, none⟩ (.slice (some ⟨X, 0, none⟩) 1 1)) ∧
    W.grownBy ((((W.setCell ⟨C, 6, none⟩ (.string d0.n)).setCell ⟨C, 7, none⟩ (.int .i64 d0.r)).setCell ⟨C, 8, none⟩ (.int .i64 d0.dl)).setCell ⟨C, 9, none⟩ (.slice (some ⟨X, 0, none⟩) 1 1)) (some C) := by
  have o1 := h.o1
  have hl := hX.lt
  have g := grown_set (grown_set (grown_set (grown_set (World.grownBy.refl W (some C)) 6 (.string d0.n)) 7 (.int .i64 d0.r)) 8 (.int .i64 d0.dl)) 9 (.slice (some ⟨X, 0, none⟩) 1 1)
  have hw := (((h.co.put 6 (.string d0.n)).put 7 (.int .i64 d0.r)).put 8 (.int .i64 d0.dl)).put 9 (.slice (some ⟨X, 0, none⟩) 1 1)
  refine ⟨⟨h.bl.grown g h.bl.size (fun k e => by cases e; omega), h.nm.grown g (fun e => by have := Option.some.inj e; omega), h.rs.grown g (fun e => by have := Option.some.inj e; omega), by simpa [oA] using hw, ?_, rfl, o1, h1, ?_⟩, g⟩
  · exact own_step1 (hX.grown g (fun e => by have := Option.some.inj e; omega)) h2
  · have := g.size
    omega
/-- The operation with the definition, as memory holds it. -/
theorem MoJ.done {w W : World} {x : No} {C B0 : Nat} {c1 : Ov} {d0 : Dv} {A : Option Addr} {n m : Nat} (h : MoJ w x C B0 c1 d0 (x.step % 8) A n m W) (hz : OpZ c1) (hd : d0.n.size ≤ 9223372036854775807) (hr : In64 d0.r) (hl : In64 d0.dl) :
    OpIn (W.setRow (w.heap.size + 1) (oA { c1 with d := d0 } A n m)) { c1 with d := { d0 with s := stepsN (nvO x) } } A n m ∧ ∀ a : Addr, A = some a → w.heap.size ≤ a.block := by
  have o1 := h.o1
  have o2 := h.o2
  have hlen : (stepsN (nvO x)).length = 1 + x.step % 8 := stJ_len x (x.step % 8)
  have hn := h.hn
  have how := h.ow
  rw [← hn] at how
  have hS : SlD W A (stepsN (nvO x)) := slD_own (s := stepsN (nvO x)) how (by omega)
  obtain ⟨A', m', e, hm⟩ := own_slice2 h.ow
  have hm2 : n ≤ m := by
    injection e with e1 e2 e3
    omega
  have hlt := h.ow.lt
  refine ⟨⟨⟨by show (stepsN (nvO x)).length = n; omega, hm2, by omega, ⟨hd, hr, hl, fun i p hp => ?_⟩, ?_⟩, ?_⟩, fun a ha => ?_⟩
  · obtain ⟨h1, h2, h3⟩ := stepsN_get (nvO x) i p hp
    obtain ⟨a1, _, a3, a4⟩ := stOk_parts h3
    exact ⟨by have := (isName_len a1).2.1; rw [size_list] at this; omega, by omega, by omega⟩
  · exact hS.grown (setRow_grown _ _ _) (fun a ha _ e => by
      have e2 := Option.some.inj e
      have := (hlt a.block (by rw [ha]; rfl)).1
      omega)
  · obtain ⟨a1, a2, a3, a4, a5, a6⟩ := hz
    constructor <;> assumption
  · have := (hlt a.block (by rw [ha]; rfl)).1
    omega
end Go.Proofs.YtojodekmmkemgaaGreatDoor
