/- What Numbers.Made answers, and what it holds in memory. No condition. -/
import Derived.Test.YtgjnmfmbheejoaaGreatDoorCmNam
namespace Go.Proofs.YtgjnmfmbheejoaaGreatDoor
open Go.RowKit Go.Shelf

/-- What Made answers. -/
def MadeR (x : Nv) (w w' : World) (e : Ending) : Prop := (∃ A n m, e = .returned (.agg (cA (madeC x) A n m)) ∧ CmdIn w' (madeC x) A n m) ∧ Below w.heap.size w w'
theorem made_start (w : World) (x : Nv) : Below w.heap.size w ((w.alloc (.cells (nA x) 62)).alloc (.cells (cA (zeroC 0) none 0 0) 36)) ∧ Whole ((w.alloc (.cells (nA x) 62)).alloc (.cells (cA (zeroC 0) none 0 0) 36)) w.heap.size 62 (nA x) ∧ Whole ((w.alloc (.cells (nA x) 62)).alloc (.cells (cA (zeroC 0) none 0 0) 36)) (w.heap.size + 1) 36 (cA (zeroC 0) none 0 0) := by
  have b1 := (Below.refl w.heap.size w).alloc (Nat.le_refl _) (.cells (nA x) 62)
  have b2 := b1.alloc b1.size (.cells (cA (zeroC 0) none 0 0) 36)
  have W2 := Whole.new (w.alloc (.cells (nA x) 62)) 36 (cA (zeroC 0) none 0 0)
  rw [World.size_alloc] at W2
  exact ⟨b2, (Whole.new w 62 (nA x)).alloc _, W2⟩
/-- What Made holds in memory: the numbers, the result, the command. -/
structure MdI (w : World) (x : Nv) (C : Nat) (cc : Cv) (A : Option Addr) (n m : Nat) (W : World) : Prop where
  bl : Below w.heap.size w W
  nm : Whole W w.heap.size 62 (nA x)
  rs : Whole W (w.heap.size + 1) 36 (cA (zeroC 0) none 0 0)
  co : CmdAt W C cc A n m
  o1 : w.heap.size + 1 < C
theorem MdI.keep {w W W' : World} {x : Nv} {C : Nat} {cc : Cv} {A : Option Addr} {n m : Nat} (h : MdI w x C cc A n m W) (hb : Below W.heap.size W W') : MdI w x C cc A n m W' :=
  ⟨h.bl.trans (hb.mono h.bl.size), h.nm.keep hb, h.rs.keep hb, h.co.keep hb, h.o1⟩
/-- A block behind the command's is turned. -/
theorem MdI.other {w W W' : World} {x : Nv} {C S : Nat} {cc : Cv} {A : Option Addr} {n m : Nat} (h : MdI w x C cc A n m W) (hg : W.grownBy W' (some S)) (hs : C < S) (hd : cc.d.s = []) : MdI w x C cc A n m W' := by
  have o1 := h.o1
  exact ⟨h.bl.grown hg h.bl.size (fun k e => by cases e; omega), h.nm.grown hg (fun e => by have := Option.some.inj e; omega), h.rs.grown hg (fun e => by have := Option.some.inj e; omega), h.co.grown hg (fun e => by have := Option.some.inj e; omega) (fun a _ hs => absurd hd hs), o1⟩
/-- The command is turned. -/
theorem MdI.turn {w W W' : World} {x : Nv} {C : Nat} {cc cc' : Cv} {A A' : Option Addr} {n m n' m' : Nat} (h : MdI w x C cc A n m W) (hg : W.grownBy W' (some C)) (hc : CmdAt W' C cc' A' n' m') : MdI w x C cc' A' n' m' W' := by
  have o1 := h.o1
  exact ⟨h.bl.grown hg h.bl.size (fun k e => by cases e; omega), h.nm.grown hg (fun e => by have := Option.some.inj e; omega), h.rs.grown hg (fun e => by have := Option.some.inj e; omega), hc, o1⟩
theorem MdI.new {w w1 w2 : World} {x : Nv} (h : Below w.heap.size w w1 ∧ Whole w1 w.heap.size 62 (nA x) ∧ Whole w1 (w.heap.size + 1) 36 (cA (zeroC 0) none 0 0)) (hb : Below w1.heap.size w1 w2) (hN : Whole w2 w1.heap.size 36 (cA (zeroC 0) none 0 0)) (k : Int) (hk : In64 k) :
    MdI w x w1.heap.size (zeroC k) none 0 0 (w2.setRow w1.heap.size (cA (zeroC k) none 0 0)) := by
  have o1 : w.heap.size + 1 < w1.heap.size := h.2.2.lt
  have hg := setRow_grown w2 w1.heap.size (cA (zeroC k) none 0 0)
  have b2 := h.1.trans (hb.mono h.1.size)
  exact ⟨b2.grown hg b2.size (fun j e => by cases e; omega), (h.2.1.keep hb).grown hg (fun e => by have := Option.some.inj e; omega), (h.2.2.keep hb).grown hg (fun e => by have := Option.some.inj e; omega),
    ⟨setRow_heap _ _ _ _ _ _ hN, cmdIn_zero _ k hk, fun a ha => by cases ha⟩, o1⟩
/-- A cell of the command is set. -/
theorem MdI.put {w W : World} {x : Nv} {C : Nat} {cc cc' : Cv} {A : Option Addr} {n m : Nat} (h : MdI w x C cc A n m W) (i : Nat) (v : Value) (hput : (cA cc A n m).setIfInBounds i v = cA cc' A n m) (hd : cc'.d = cc.d) (hz : CmdZ cc') :
    MdI w x C cc' A n m (W.setCell ⟨C, i, none⟩ v) := by
  have g2 := grown_set (World.grownBy.refl W (some C)) i v
  have hw := h.co.w.put i v
  rw [hput] at hw
  exact h.turn g2 (h.co.turn g2 hw hd hz)
theorem gt_iff (k t : ByteArray) : (!Op.bytesLess t.toList k.toList && !(t.toList == k.toList)) = Op.bytesLess k.toList t.toList := by
  cases h1 : Op.bytesLess k.toList t.toList with
  | true =>
    have h2 : Op.bytesLess t.toList k.toList = false := by
      cases h2 : Op.bytesLess t.toList k.toList with
      | false => rfl
      | true => have := bl_trans h1 h2; rw [bl_irr] at this; cases this
    have h3 : (t.toList == k.toList) = false := by
      rw [beq_eq_false_iff_ne]
      intro e
      rw [e, bl_irr] at h1
      cases h1
    rw [h2, h3]
    rfl
  | false =>
    cases h2 : Op.bytesLess t.toList k.toList with
    | true => rfl
    | false =>
      have := bl_tot h1 h2
      rw [this, beq_self_eq_true]
      rfl
theorem repeatL_d (z : Nat) : (⟨(Lib.repeatL (⟨#[100]⟩ : ByteArray).data.toList z).toArray⟩ : ByteArray) = ⟨(List.replicate z (100 : UInt8)).toArray⟩ := by
  show (⟨(Lib.repeatL [100] z).toArray⟩ : ByteArray) = _
  rw [repeatL_byte]
theorem made_data (x : Nv) (w : World) (z : Nat) (hz : x.data % 300 = z) :
    Calls Tryz.prog 39 #[.string ⟨#[100]⟩, .int .i64 (z : Int)] w fun e w' => e = .returned (.string (dtN x)) ∧ Below w.heap.size w w' := by
  have h := Tryz.strings_Repeat ⟨#[100]⟩ z w (by omega) (by show 1 * z ≤ _; omega)
  rw [repeatL_d, ← hz] at h
  rw [← hz]
  exact h
theorem nm_z (n : Nat) : (nmBA n).size ≤ 9223372036854775807 := by
  have h : (nmBA n).size = 1 + n % 16 := by
    unfold nmBA nameL
    rw [Lib.size_mk, List.length_replicate]
  omega
theorem fr_z (x : Nv) : (frN x).size ≤ 9223372036854775807 := by
  unfold frN
  split
  · exact Nat.zero_le _
  · exact nm_z _
theorem to_z (x : Nv) : (toN x).size ≤ 9223372036854775807 := by
  unfold toN
  split
  · exact nm_z _
  · exact Nat.zero_le _
theorem dt_z (x : Nv) : (dtN x).size ≤ 9223372036854775807 := by
  unfold dtN
  rw [Lib.size_mk, List.length_replicate]
  omega
end Go.Proofs.YtgjnmfmbheejoaaGreatDoor
