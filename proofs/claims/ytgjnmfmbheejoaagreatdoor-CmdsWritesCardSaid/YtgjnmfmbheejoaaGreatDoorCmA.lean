/- Merged by program: CmMem, CmSml, CmFld. -/
import Derived.Test.YtgjnmfmbheejoaaGreatDoorPlC
import Derived.Test.YtgjnmfmbheejoaaGreatDoorDfG
import Derived.Test.YtgjnmfmbheejoaaGreatDoorRrA
import Derived.Test.YtgjnmfmbheejoaaGreatDoorRwA
namespace Go.Proofs.YtgjnmfmbheejoaaGreatDoor
section
open Go.RowKit Go.Shelf

def In64 (x : Int) : Prop := -9223372036854775808 ≤ x ∧ x ≤ 9223372036854775807
/-- The cells of a command whose definition's steps lie in a slice. -/
def cA (c : Cv) (A : Option Addr) (n m : Nat) : Array Value :=
  #[.int .i64 c.k, .int .i64 c.call, .int .i64 c.saga, .int .i64 c.ea, .int .i64 c.eb, .int .i64 c.ec, .string c.key, .int .i64 c.dl, .int .i64 c.mv, .string c.f, .string c.t, .int .i64 c.g, .string c.d.n, .int .i64 c.d.r, .int .i64 c.d.dl, .slice A n m, .int .i64 c.it.a, .int .i64 c.it.b, .int .i64 c.it.c, .int .i64 c.it.m, .bool c.it.i, .int .i64 c.it.g, .int .i64 c.res, .string c.data]
/-- Sizes of a command's parts. -/
structure CmdZ (c : Cv) : Prop where
  k : In64 c.k
  call : In64 c.call
  saga : In64 c.saga
  ea : In64 c.ea
  eb : In64 c.eb
  ec : In64 c.ec
  dl : In64 c.dl
  mv : In64 c.mv
  g : In64 c.g
  ia : In64 c.it.a
  ib : In64 c.it.b
  ic : In64 c.it.c
  im : In64 c.it.m
  ig : In64 c.it.g
  res : In64 c.res
  key : c.key.size ≤ 9223372036854775807
  f : c.f.size ≤ 9223372036854775807
  t : c.t.size ≤ 9223372036854775807
  data : c.data.size ≤ 9223372036854775807
/-- A command: its definition's steps in memory, and its sizes. -/
structure CmdIn (W : World) (c : Cv) (A : Option Addr) (n m : Nat) : Prop where
  d : DefAt W A n m c.d
  z : CmdZ c
theorem CmdIn.keep {w w' : World} {c : Cv} {A : Option Addr} {n m : Nat} (h : CmdIn w c A n m) (hb : Below w.heap.size w w') : CmdIn w' c A n m := ⟨h.d.keep hb, h.z⟩
theorem slD_lt {W : World} {A : Option Addr} {s : List Sp} (h : SlD W A s) : ∀ a : Addr, A = some a → s ≠ [] → a.block < W.heap.size := by
  rintro a rfl hs
  cases s with
  | nil => exact absurd rfl hs
  | cons p s =>
    obtain ⟨g, o, he, c0, _⟩ := h 0 p rfl
    cases he
    exact lt_cell c0
/-- The steps' slice does not lie in a block without a text ahead of a number. -/
theorem slD_ne {W : World} {B : Nat} {t : TypeId} {cs : Array Value} {A : Option Addr} {s : List Sp} (h : SlD W A s) (hB : Whole W B t cs) (ht : ∀ (i : Nat) (x : ByteArray), cs[i]? ≠ some (.string x)) : ∀ a : Addr, A = some a → s ≠ [] → some a.block ≠ some B := by
  rintro a rfl hs e
  cases e
  cases s with
  | nil => exact hs rfl
  | cons p s =>
    obtain ⟨g, o, he, c0, c1⟩ := h 0 p rfl
    cases he
    rw [Nat.zero_mul, Nat.add_zero] at c0
    rw [hB.cell] at c0
    exact ht _ _ c0
/-- A command in a box; its definition's steps lie in another one. -/
structure CmdAt (W : World) (B : Nat) (c : Cv) (A : Option Addr) (n m : Nat) : Prop where
  w : Whole W B 36 (cA c A n m)
  i : CmdIn W c A n m
  o : ∀ a : Addr, A = some a → c.d.s ≠ [] → a.block ≠ B
theorem CmdAt.lt {w : World} {B : Nat} {c : Cv} {A : Option Addr} {n m : Nat} (h : CmdAt w B c A n m) : B < w.heap.size := h.w.lt
theorem CmdAt.grown {w w' : World} {B : Nat} {c : Cv} {A : Option Addr} {n m : Nat} {row : Option Nat} (h : CmdAt w B c A n m) (hg : w.grownBy w' row) (h1 : some B ≠ row) (h2 : ∀ a : Addr, A = some a → c.d.s ≠ [] → some a.block ≠ row) : CmdAt w' B c A n m :=
  ⟨h.w.grown hg h1, ⟨h.i.d.grown hg h2, h.i.z⟩, h.o⟩
theorem CmdAt.keep {w w' : World} {B : Nat} {c : Cv} {A : Option Addr} {n m : Nat} (h : CmdAt w B c A n m) (hb : Below w.heap.size w w') : CmdAt w' B c A n m := h.grown (gbelow hb) (by simp) (by simp)
theorem CmdAt.new {w : World} {c : Cv} {A : Option Addr} {n m : Nat} (h : CmdIn w c A n m) : CmdAt (w.alloc (.cells (cA c A n m) 36)) w.heap.size c A n m :=
  ⟨Whole.new w _ _, h.keep ((Below.refl _ _).alloc (Nat.le_refl _) _), fun a ha hs => Nat.ne_of_lt (slD_lt h.d.s a ha hs)⟩
/-- A turned box of a command: the same steps. -/
theorem CmdAt.turn {w w' : World} {B : Nat} {c c' : Cv} {A : Option Addr} {n m : Nat} (h : CmdAt w B c A n m) (hg : w.grownBy w' (some B)) (hw : Whole w' B 36 (cA c' A n m)) (hd : c'.d = c.d) (hz : CmdZ c') : CmdAt w' B c' A n m :=
  ⟨hw, ⟨by rw [hd]; exact h.i.d.grown hg (fun a ha hs e => h.o a ha hs (Option.some.inj e)), hz⟩, by rw [hd]; exact h.o⟩
end
section
open Go.RowKit Go.Shelf

set_option maxHeartbeats 1000000 in
theorem small_any (C : Nat) (st : WS) (most : Nat) (hm : most ≤ 2147483648) (w : World) (h : RdP w C st) :
    Calls Tryz.prog 47 #[.pointer (some ⟨C, 0, none⟩), .int .i64 (most : Int)] w fun e w' => e = .returned (.int .i64 ((wSm most st).1 : Int)) ∧ RdP w' C (wSm most st).2 ∧ w.grownBy w' (some C) := by
  have U := Lib.hid (ruint_any C st w h)
  have hlt := wU_lt st
  have hm0 : (0 : Int) ≤ (most : Int) := by omega
  have hwm : IntKind.u64.wrap (most : Int) = (most : Int) := by rw [IntKind.wrap_u64]; omega
  unfold wSm
  generalize wU st = q at U hlt ⊢
  obtain ⟨n, s2⟩ := q
  dsimp only at U hlt ⊢
  clear h
  by_cases hc : most < n
  · have hc' : (most : Int) < (n : Int) := by omega
    rw [if_pos hc]
    clear hc hlt
    go_enter Tryz.func47, Tryz.ntmps47
    go_wp2_with (first
      | (go_at_call 100; refine U.out.mono ?_; rintro e w1 ⟨rfl, hP, hg⟩; have F := Lib.hid (rfail_any C s2 w1 hP); have HG := Lib.hid hg; clear hP hg)
      | (go_at_call 101; refine F.out.mono ?_; rintro e w2 ⟨rfl, hP2, hg2⟩))
    go_ret
    exact ⟨rfl, hP2, grown_trans HG.out hg2⟩
  · have hc' : ¬ ((most : Int) < (n : Int)) := by omega
    have hwn : IntKind.i64.wrap (n : Int) = (n : Int) := IntWalk.i64_in _ (by omega)
    rw [if_neg hc]
    clear hc hlt
    go_enter Tryz.func47, Tryz.ntmps47
    go_wp2_with (go_at_call 100; refine U.out.mono ?_; rintro e w1 ⟨rfl, hP, hg⟩)
    go_ret
    exact ⟨rfl, hP, hg⟩
set_option maxHeartbeats 1000000 in
theorem wlen_any (C base : Nat) (l : List UInt8) (w : World) (h : WrP w base C l) :
    Calls Tryz.prog 126 #[.pointer (some ⟨C, 0, none⟩)] w fun e w' => e = .returned (.int .i64 (l.length : Int)) ∧ w = w' := by
  obtain ⟨hb, v, hC, hown⟩ := id h
  obtain ⟨A, c, rfl, _⟩ := own_slice hown
  have c1 := hC.cell 1
  simp only [List.getElem?_toArray, List.getElem?_cons_succ, List.getElem?_cons_zero] at c1
  clear hC hown h
  generalize l.length = N at c1 ⊢
  go_enter Tryz.func126, Tryz.ntmps126
  go_wp2
  go_ret
  exact ⟨rfl, rfl⟩
set_option maxHeartbeats 1000000 in
/-- What was written, if it is not too long. -/
theorem limited_any (C base : Nat) (l : List UInt8) (w : World) (h : WrP w base C l) (hl : l.length ≤ 1000000) :
    Calls Tryz.prog 66 #[.pointer (some ⟨C, 0, none⟩)] w fun e w' => (∃ A n c, e = .returned (.tuple #[.slice A n c, .int .i64 (if l.length ≤ 65536 then 0 else 11)]) ∧ SlB w' A n (if l.length ≤ 65536 then l else []) ∧ n ≤ c) ∧ Below w.heap.size w w' := by
  have LN := Lib.hid (wlen_any C base l w h)
  by_cases hc : 65536 < l.length
  · have hc' : (65536 : Int) < (l.length : Int) := by omega
    rw [if_neg (by omega), if_neg (by omega)]
    generalize l.length = N at LN hc' 
    clear h hl hc
    go_enter Tryz.func66, Tryz.ntmps66
    go_wp2_with (go_at_call 126; refine LN.out.mono ?_; rintro e w1 ⟨rfl, rfl⟩)
    go_ret2
    exact ⟨⟨none, 0, 0, rfl, slB_nil _, Nat.le_refl _⟩, Below.refl _ _⟩
  · have hc' : ¬ ((65536 : Int) < (l.length : Int)) := by omega
    rw [if_pos (by omega), if_pos (by omega)]
    have BY := Lib.hid (wbytes_any C base l w h (by omega))
    clear h hl hc
    go_enter Tryz.func66, Tryz.ntmps66
    go_wp2_with (first
      | (go_at_call 126; refine LN.out.mono ?_; rintro e w1 ⟨rfl, rfl⟩)
      | (go_at_call 127; refine BY.out.mono ?_; rintro e w2 ⟨⟨v, rfl, ho⟩, hb2⟩; obtain ⟨A2, c2, rfl, hc2⟩ := own_slice ho))
    go_ret2
    exact ⟨⟨_, _, _, rfl, SlB.of_own ho, hc2⟩, hb2⟩
end
section
open Go.RowKit Go.Shelf

theorem whole4r {w : World} {B : Nat} {t : TypeId} {x0 x1 x2 : Value} (h : Whole w B t #[x0, x1, x2]) : w.cell? ⟨B, 0, none⟩ = some x0 ∧ w.cell? ⟨B, 1, none⟩ = some x1 ∧ w.cell? ⟨B, 2, none⟩ = some x2 := ⟨h.cell 0, h.cell 1, h.cell 2⟩
/-- Blocks that lie: those that function values hold. -/
structure Cap where
  b : Nat
  t : TypeId
  cs : Array Value
def capT (t : TypeId) : Prop := t ≠ 5 ∧ t ≠ 36 ∧ t ≠ 150 ∧ t ≠ 164
def Caps (W : World) (L : List Cap) : Prop := ∀ p ∈ L, Whole W p.b p.t p.cs ∧ capT p.t
theorem Caps.keep {W W' : World} {L : List Cap} (h : Caps W L) (hb : Below W.heap.size W W') : Caps W' L := fun p hp => ⟨(h p hp).1.keep hb, (h p hp).2⟩
/-- Two blocks may be turned, memory may grow. -/
structure TwoK (W W' : World) (B C : Nat) : Prop where
  os : W'.os = W.os
  tape : W'.tape = W.tape
  output : W'.output = W.output
  size : W.heap.size ≤ W'.heap.size
  block : ∀ i, i < W.heap.size → i ≠ B → i ≠ C → W'.heap[i]? = W.heap[i]?
theorem TwoK.one {W W' : World} {B C : Nat} (h : W.grownBy W' (some B)) : TwoK W W' B C := ⟨h.os, h.tape, h.output, h.size, fun i hi hB _ => h.block i hi (fun e => hB (Option.some.inj e))⟩
theorem TwoK.two {W W' : World} {B C : Nat} (h : W.grownBy W' (some C)) : TwoK W W' B C := ⟨h.os, h.tape, h.output, h.size, fun i hi _ hC => h.block i hi (fun e => hC (Option.some.inj e))⟩
theorem TwoK.of_below {W W' : World} {B C : Nat} (h : Below W.heap.size W W') : TwoK W W' B C := ⟨h.os, h.tape, h.output, h.size, fun i hi _ _ => h.block i hi⟩
theorem TwoK.trans {W W1 W2 : World} {B C : Nat} (h : TwoK W W1 B C) (k : TwoK W1 W2 B C) : TwoK W W2 B C :=
  ⟨k.os.trans h.os, k.tape.trans h.tape, k.output.trans h.output, Nat.le_trans h.size k.size, fun i hi hB hC => (k.block i (Nat.lt_of_lt_of_le hi h.size) hB hC).trans (h.block i hi hB hC)⟩
theorem TwoK.whole {W W' : World} {B C b : Nat} {t : TypeId} {cs : Array Value} (h : TwoK W W' B C) (hw : Whole W b t cs) (hB : b ≠ B) (hC : b ≠ C) : Whole W' b t cs := (h.block b hw.lt hB hC).trans hw
theorem TwoK.below {w W W' : World} {n B C : Nat} (h : Below n w W) (k : TwoK W W' B C) (hB : n ≤ B) (hC : n ≤ C) (hn : n ≤ W.heap.size) : Below n w W' :=
  ⟨k.os.trans h.os, k.tape.trans h.tape, k.output.trans h.output, Nat.le_trans h.size k.size, fun i hi => (k.block i (by omega) (by omega) (by omega)).trans (h.block i hi)⟩
theorem Caps.two {W W' : World} {L : List Cap} {B C : Nat} {t t' : TypeId} {cs cs' : Array Value} (h : Caps W L) (k : TwoK W W' B C) (hB : Whole W B t cs) (hC : Whole W C t' cs') (ht : t = 36) (ht' : t' = 150) : Caps W' L := fun p hp => by
  obtain ⟨h1, h2, h3, h4, h5⟩ := h p hp
  subst ht; subst ht'
  exact ⟨k.whole h1 (whole_ne h1 hB h3) (whole_ne h1 hC h4), h2, h3, h4, h5⟩
theorem Caps.one {W W' : World} {L : List Cap} {B : Nat} {cs : Array Value} (h : Caps W L) (hg : W.grownBy W' (some B)) (hB : Whole W B 36 cs) : Caps W' L := fun p hp => by
  obtain ⟨h1, h2, h3, h4, h5⟩ := h p hp
  exact ⟨h1.grown hg (fun e => whole_ne h1 hB h3 (Option.some.inj e)), h2, h3, h4, h5⟩
theorem Caps.wrk {W W' : World} {L : List Cap} {base C : Nat} {l : List UInt8} (h : Caps W L) (hk : WrK W W' base C) (hC : WrP W base C l) : Caps W' L := fun p hp => by
  obtain ⟨h1, h2, h3, h4, h5⟩ := h p hp
  obtain ⟨_, v, hw, _⟩ := hC
  exact ⟨hk.whole h1 h2 (whole_ne h1 hw h5), h2, h3, h4, h5⟩

/-- A function value. -/
structure FnV (v : Value) (g : Nat) (lb : Array Value) : Prop where
  v : v = .func (.func g) #[] lb
  eg : ∀ args w, (callFunc g args).run Tryz.prog w = .ok (.enter g args) w
def OkF (x : Fl) (v : Value) (L : List Cap) : Prop := ∃ g lb, FnV v g lb ∧ ∀ (c : Cv) (A : Option Addr) (n m B : Nat) (W : World), DfE W → Caps W L → CmdAt W B c A n m →
  Calls Tryz.prog g (#[.pointer (some ⟨B, 0, none⟩)] ++ lb) W fun e W' => (∃ b, e = .returned (.bool b) ∧ (b = true ↔ okF x c)) ∧ Below W.heap.size W W'
def ClF (x : Fl) (v : Value) (L : List Cap) : Prop := ∃ g lb, FnV v g lb ∧ ∀ (c : Cv) (A : Option Addr) (n m B : Nat) (W : World), Caps W L → CmdAt W B c A n m →
  Calls Tryz.prog g (#[.pointer (some ⟨B, 0, none⟩)] ++ lb) W fun e W' => e = .returned (.tuple #[]) ∧ W.grownBy W' (some B) ∧ ∃ A' n' m', CmdAt W' B (clrF x c) A' n' m'
def TxF (x : Fl) (v : Value) (L : List Cap) : Prop := ∃ g lb, FnV v g lb ∧ ∀ (c : Cv) (A : Option Addr) (n m B : Nat) (W : World), DfE W → Caps W L → CmdAt W B c A n m → okF x c →
  Calls Tryz.prog g (#[.pointer (some ⟨B, 0, none⟩)] ++ lb) W fun e W' => e = .returned (.string ⟨(textF x c).toArray⟩) ∧ Below W.heap.size W W'
def WrF (x : Fl) (v : Value) (L : List Cap) : Prop := ∃ g lb, FnV v g lb ∧ ∀ (c : Cv) (A : Option Addr) (n m B C base : Nat) (l : List UInt8) (W : World), Caps W L → CmdAt W B c A n m → okF x c → WrP W base C l → l.length ≤ 1000000 → B < base →
  Calls Tryz.prog g (#[.pointer (some ⟨C, 0, none⟩), .pointer (some ⟨B, 0, none⟩)] ++ lb) W fun e W' => e = .returned (.tuple #[]) ∧ WrP W' base C (l ++ encF x c) ∧ WrK W W' base C
def RdF (x : Fl) (v : Value) (L : List Cap) : Prop := ∃ g lb, FnV v g lb ∧ ∀ (c : Cv) (A : Option Addr) (n m B C : Nat) (st : WS) (W : World), Caps W L → CmdAt W B c A n m → RdP W C st → C < B →
  Calls Tryz.prog g (#[.pointer (some ⟨C, 0, none⟩), .pointer (some ⟨B, 0, none⟩)] ++ lb) W fun e W' => e = .returned (.tuple #[]) ∧ RdP W' C (rdF limP x c st).2 ∧ TwoK W W' B C ∧ ∃ A' n' m', CmdAt W' B (rdF limP x c st).1 A' n' m'
/-- What five function values of a field do. -/
structure FldAt (x : Fl) (v0 v1 v2 v3 v4 : Value) (L : List Cap) : Prop where
  ok : OkF x v0 L
  wr : WrF x v1 L
  rd : RdF x v2 L
  tx : TxF x v3 L
  cl : ClF x v4 L
theorem Caps.sub {W : World} {L L' : List Cap} (h : Caps W L') (hs : ∀ p ∈ L, p ∈ L') : Caps W L := fun p hp => h p (hs p hp)
theorem FldAt.more {x : Fl} {v0 v1 v2 v3 v4 : Value} {L L' : List Cap} (h : FldAt x v0 v1 v2 v3 v4 L) (hs : ∀ p ∈ L, p ∈ L') : FldAt x v0 v1 v2 v3 v4 L' := by
  obtain ⟨⟨g0, l0, f0, h0⟩, ⟨g1, l1, f1, h1⟩, ⟨g2, l2, f2, h2⟩, ⟨g3, l3, f3, h3⟩, ⟨g4, l4, f4, h4⟩⟩ := h
  exact ⟨⟨g0, l0, f0, fun c A n m B W hE hL => h0 c A n m B W hE (hL.sub hs)⟩, ⟨g1, l1, f1, fun c A n m B C base l W hL => h1 c A n m B C base l W (hL.sub hs)⟩, ⟨g2, l2, f2, fun c A n m B C st W hL => h2 c A n m B C st W (hL.sub hs)⟩,
    ⟨g3, l3, f3, fun c A n m B W hE hL => h3 c A n m B W hE (hL.sub hs)⟩, ⟨g4, l4, f4, fun c A n m B W hL => h4 c A n m B W (hL.sub hs)⟩⟩
/-- A reader of a command's box: the reader is turned. -/
theorem CmdAt.reads {W W' : World} {B C : Nat} {c : Cv} {A : Option Addr} {n m : Nat} {st : WS} (h : CmdAt W B c A n m) (hp : RdP W C st) (hg : W.grownBy W' (some C)) (hCB : C < B) : CmdAt W' B c A n m := by
  obtain ⟨A0, n0, c0, hC, _⟩ := hp
  refine h.grown hg (fun e => by have := Option.some.inj e; omega) (slD_ne h.i.d.s hC (fun i x hi => ?_))
  match i with
  | 0 => simp at hi
  | 1 => simp at hi
  | 2 => simp at hi
  | i + 3 => simp at hi
theorem wSm_le (most : Nat) (st : WS) : (wSm most st).1 ≤ most := by
  unfold wSm; split
  · exact Nat.zero_le _
  · omega
theorem in64_nat {n : Nat} (h : n ≤ 2147483648) : In64 (n : Int) := ⟨by omega, by omega⟩
end
end Go.Proofs.YtgjnmfmbheejoaaGreatDoor
