/- What Numbers.Made holds in memory while it appends the steps of a definition. No condition. -/
import Derived.Test.YtgjnmfmbheejoaaGreatDoorCmMdS
namespace Go.Proofs.YtgjnmfmbheejoaaGreatDoor
open Go.RowKit Go.Shelf

/-- The first steps that numbers make. -/
def stJ (x : Nv) (j : Nat) : List Sp := ⟨⟨#[107, 48]⟩, dlN x⟩ :: moreN j
theorem stJ_next (x : Nv) (j : Nat) : stJ x (j + 1) = stJ x j ++ [⟨⟨#[107, (49 + j).toUInt8]⟩, (j : Int) - 9⟩] := by
  unfold stJ moreN
  rw [List.range_succ, List.map_append]
  rfl
theorem stJ_len (x : Nv) (j : Nat) : (stJ x j).length = 1 + j := by
  unfold stJ moreN
  rw [List.length_cons, List.length_map, List.length_range]
  omega
structure MdJ (w : World) (x : Nv) (C B0 : Nat) (c1 : Cv) (d0 : Dv) (j : Nat) (A : Option Addr) (n m : Nat) (W : World) : Prop where
  bl : Below w.heap.size w W
  nm : Whole W w.heap.size 62 (nA x)
  rs : Whole W (w.heap.size + 1) 36 (cA (zeroC 0) none 0 0)
  cw : Whole W C 36 (cA { c1 with d := d0 } A n m)
  ow : W.ownsRow B0 53 2 (.slice A n m) (1 + j) ((stJ x j).flatMap stC)
  hn : n = 1 + j
  o1 : w.heap.size + 1 < C
  o2 : C < B0
  o3 : B0 ≤ W.heap.size
theorem MdJ.other {w W W' : World} {x : Nv} {C B0 : Nat} {c1 : Cv} {d0 : Dv} {j : Nat} {A : Option Addr} {n m : Nat} {row : Option Nat} (h : MdJ w x C B0 c1 d0 j A n m W) (hg : W.grownBy W' row) (hr : ∀ k, row = some k → B0 ≤ k) :
    Below w.heap.size w W' ∧ Whole W' w.heap.size 62 (nA x) ∧ Whole W' (w.heap.size + 1) 36 (cA (zeroC 0) none 0 0) ∧ Whole W' C 36 (cA { c1 with d := d0 } A n m) := by
  have o1 := h.o1
  have o2 := h.o2
  exact ⟨h.bl.grown hg h.bl.size (fun k e => by have := hr k e; omega), h.nm.grown hg (fun e => by have := hr _ e.symm; omega), h.rs.grown hg (fun e => by have := hr _ e.symm; omega), h.cw.grown hg (fun e => by have := hr _ e.symm; omega)⟩
/-- A step is appended. -/
theorem MdJ.round {w W : World} {x : Nv} {C B0 : Nat} {c1 : Cv} {d0 : Dv} {j : Nat} {A : Option Addr} {n m : Nat} (h : MdJ w x C B0 c1 d0 j A n m W) (hj : j ≤ 100) (ky : ByteArray) (hky : ky = ⟨#[107, (49 + j).toUInt8]⟩) (o : Obj) :
    W.cell? ⟨C, 15, none⟩ = some (.slice A n m) ∧
    ∃ (A' : Option Addr) (m' : Nat) (w8 : World), Hid ((Builtin.append_ #[29, 29] 29 #[.slice A n m, .slice (some ⟨W.heap.size + 1, 0, none⟩) 1 1]).run Tryz.prog ((W.alloc o).alloc (.cells #[.string ky, .int .i64 ((j : Int) - 9)] 53)) = .ok (.slice A' (n + 1) m') w8) ∧ w8.cell? ⟨C, 15, none⟩ = some (.slice A n m) ∧ w8.frozen? ⟨C, 15, none⟩ = false ∧
      Hid (MdJ w x C B0 c1 d0 (j + 1) A' (n + 1) m' (w8.setCell ⟨C, 15, none⟩ (.slice A' (n + 1) m'))) := by
  have o1 := h.o1
  have o2 := h.o2
  have o3 := h.o3
  have hn := h.hn
  have hlt := h.ow.lt
  have b1 := (Below.refl W.heap.size W).alloc (Nat.le_refl _) o
  have b2 := b1.alloc b1.size (.cells #[.string ky, .int .i64 ((j : Int) - 9)] 53)
  have hsz : (W.alloc o).heap.size = W.heap.size + 1 := World.size_alloc _ _
  have hsz2 : ((W.alloc o).alloc (.cells #[.string ky, .int .i64 ((j : Int) - 9)] 53)).heap.size = W.heap.size + 2 := by rw [World.size_alloc, World.size_alloc]
  obtain ⟨v', w8, hrun, hown, hgr⟩ := run_app_step ((W.alloc o).alloc (.cells #[.string ky, .int .i64 ((j : Int) - 9)] 53)) B0 (.slice A n m) (1 + j) _ ((h.ow.alloc _).alloc _) ⟨W.heap.size + 1, 0, none⟩ 1 1 [.string ky, .int .i64 ((j : Int) - 9)] rfl (news_at (W.alloc o) _ [.string ky, .int .i64 ((j : Int) - 9)] _ hsz.symm) (by simp [Value.oneCell']) (by omega) (by omega)
  obtain ⟨A', m', rfl, _⟩ := own_slice2 hown
  have h2 := h.other (gbelow b2) (by simp)
  have hrow : ∀ k, Value.ownBlock (.slice A n m) = some k → B0 ≤ k := fun k e => (hlt k e).1
  have q1 := h2.1.grown hgr h2.1.size (fun k e => by have := hrow k e; omega)
  have q2 := h2.2.1.grown hgr (fun e => by have := hrow _ e.symm; omega)
  have q3 := h2.2.2.1.grown hgr (fun e => by have := hrow _ e.symm; omega)
  have q4 := h2.2.2.2.grown hgr (fun e => by have := hrow _ e.symm; omega)
  have g9 := grown_set (World.grownBy.refl w8 (some C)) 15 (.slice A' (n + 1) m')
  have e1 : 1 + j + 1 = n + 1 := by omega
  have hsz8 := hgr.size
  rw [e1] at hrun hown
  refine ⟨h.cw.cell 15, A', m', w8, Lib.hid hrun, q4.cell 15, q4.fr 15, Lib.hid ⟨q1.grown g9 q1.size (fun k e => by cases e; omega), q2.grown g9 (fun e => by have := Option.some.inj e; omega), q3.grown g9 (fun e => by have := Option.some.inj e; omega), ?_, ?_, by omega, o1, o2, ?_⟩⟩
  · have := q4.put 15 (.slice A' (n + 1) m')
    simpa [cA] using this
  · rw [stJ_next, List.flatMap_append, show 1 + (j + 1) = n + 1 by omega]
    have hk := hown.kept g9 (Or.inr (fun e => by have := (hown.lt C e).1; omega))
    rw [hky] at hk
    exact hk
  · have := g9.size
    omega
/-- The first step lies alone. -/
theorem own_step1 {W : World} {X B0 : Nat} {ky : ByteArray} {v : Int} (h : Whole W X 53 #[.string ky, .int .i64 v]) (hX : B0 ≤ X) : W.ownsRow B0 53 2 (.slice (some ⟨X, 0, none⟩) 1 1) 1 [.string ky, .int .i64 v] :=
  ⟨rfl, Or.inr ⟨X, 1, _, rfl, hX, h, Nat.le_refl _, by decide, rfl, rfl⟩⟩
theorem MdJ.new {w W : World} {x : Nv} {C B0 X : Nat} {c1 : Cv} (d0 : Dv) (h : MdI w x C c1 none 0 0 W) (hX : Whole W X 53 #[.string ⟨#[107, 48]⟩, .int .i64 (dlN x)]) (h1 : C < B0) (h2 : B0 ≤ X) :
    MdJ w x C B0 c1 d0 0 (some ⟨X, 0, none⟩) 1 1 ((((W.setCell ⟨C, 12, none⟩ (.string d0.n)).setCell ⟨C, 13, none⟩ (.int .i64 d0.r)).setCell ⟨C, 14, none⟩ (.int .i64 d0.dl)).setCell ⟨C, 15, none⟩ (.slice (some ⟨X, 0, none⟩) 1 1)) ∧
    W.grownBy ((((W.setCell ⟨C, 12, none⟩ (.string d0.n)).setCell ⟨C, 13, none⟩ (.int .i64 d0.r)).setCell ⟨C, 14, none⟩ (.int .i64 d0.dl)).setCell ⟨C, 15, none⟩ (.slice (some ⟨X, 0, none⟩) 1 1)) (some C) := by
  have o1 := h.o1
  have hl := hX.lt
  have g := grown_set (grown_set (grown_set (grown_set (World.grownBy.refl W (some C)) 12 (.string d0.n)) 13 (.int .i64 d0.r)) 14 (.int .i64 d0.dl)) 15 (.slice (some ⟨X, 0, none⟩) 1 1)
  have hw := (((h.co.w.put 12 (.string d0.n)).put 13 (.int .i64 d0.r)).put 14 (.int .i64 d0.dl)).put 15 (.slice (some ⟨X, 0, none⟩) 1 1)
  refine ⟨⟨h.bl.grown g h.bl.size (fun k e => by cases e; omega), h.nm.grown g (fun e => by have := Option.some.inj e; omega), h.rs.grown g (fun e => by have := Option.some.inj e; omega), by simpa [cA] using hw, ?_, rfl, o1, h1, ?_⟩, g⟩
  · exact own_step1 (hX.grown g (fun e => by have := Option.some.inj e; omega)) h2
  · have := g.size
    omega
/-- The command with the definition, as memory holds it. -/
theorem MdJ.done {w W : World} {x : Nv} {C B0 : Nat} {c1 : Cv} {d0 : Dv} {A : Option Addr} {n m : Nat} (h : MdJ w x C B0 c1 d0 (x.step % 8) A n m W) (hz : CmdZ c1) (hd : d0.n.size ≤ 9223372036854775807) (hr : In64 d0.r) (hl : In64 d0.dl) :
    CmdIn (W.setRow (w.heap.size + 1) (cA { c1 with d := d0 } A n m)) { c1 with d := { d0 with s := stepsN x } } A n m := by
  have o1 := h.o1
  have o2 := h.o2
  have hlen : (stepsN x).length = 1 + x.step % 8 := stJ_len x (x.step % 8)
  have hn := h.hn
  have how := h.ow
  rw [← hn] at how
  have hS : SlD W A (stepsN x) := slD_own (s := stepsN x) how (by omega)
  obtain ⟨A', m', e, hm⟩ := own_slice2 h.ow
  have hm2 : n ≤ m := by
    injection e with e1 e2 e3
    omega
  have hlt := h.ow.lt
  refine ⟨⟨by show (stepsN x).length = n; omega, hm2, by omega, ⟨hd, hr, hl, fun i p hp => ?_⟩, ?_⟩, ?_⟩
  · obtain ⟨h1, h2, h3⟩ := stepsN_get x i p hp
    obtain ⟨a1, _, a3, a4⟩ := stOk_parts h3
    exact ⟨by have := (isName_len a1).2.1; rw [size_list] at this; omega, by omega, by omega⟩
  · exact hS.grown (setRow_grown _ _ _) (fun a ha _ e => by
      have e2 := Option.some.inj e
      have := (hlt a.block (by rw [ha]; rfl)).1
      omega)
  · obtain ⟨a1, a2, a3, a4, a5, a6, a7, a8, a9, a10, a11, a12, a13, a14, a15, a16, a17, a18, a19⟩ := hz
    constructor <;> assumption
theorem hcmdz (x : Nv) (cl s1 : Int) (h : 0 ≤ cl ∧ cl ≤ 2147483648) (hs : s1 = (x.saga : Int) % 9999) : CmdZ ({ ({ (zeroC 11) with call := cl }) with saga := 1 + s1 }) := by
  have h11 : In64 11 := ⟨by decide, by decide⟩
  have h0 : In64 0 := ⟨by decide, by decide⟩
  have hc : In64 cl := in64_i (by omega) (by omega)
  have hg : In64 (1 + s1) := in64_i (by omega) (by omega)
  constructor <;> first | exact h11 | exact hc | exact hg | exact h0 | exact (show (0 : Nat) ≤ _ from Nat.zero_le _)
end Go.Proofs.YtgjnmfmbheejoaaGreatDoor
