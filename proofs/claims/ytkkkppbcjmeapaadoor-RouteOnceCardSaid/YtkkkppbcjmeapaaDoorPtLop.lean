/- The list of moves that a statement is given; the map's state behind a move by the account. No condition. -/
import Derived.Test.YtkkkppbcjmeapaaDoorPtAmv
import Derived.Test.YtkkkppbcjmeapaaDoorRtB
import Derived.Deep.Strs
namespace Go.Proofs.YtkkkppbcjmeapaaDoor
open Go.RowKit

/-- A slice that holds moves by numbers. -/
def SlM (w : World) (x : Option Addr) (l : List (Nat × Nat × Nat)) : Prop :=
  ∀ (i : Nat) (p : Nat × Nat × Nat), l[i]? = some p → p.1 < 256 ∧ p.2.1 < 256 ∧ p.2.2 < 256 ∧ ∃ a, x = some a ∧ w.cell? (a.add (i * 3)) = some (.int .u8 (p.1 : Int)) ∧ w.cell? ((a.add (i * 3)).add 1) = some (.int .u8 (p.2.1 : Int)) ∧ w.cell? ((a.add (i * 3)).add 2) = some (.int .u8 (p.2.2 : Int))
set_option maxRecDepth 100000 in
theorem cut_moves (p : Option Addr) (n l c : Nat) (hn : n ≤ c) (w : World) : (Instr.slice 22 (.slice p l c) none (some (.int .i64 (n : Int))) none).run Tryd.prog w = .ok (.slice p n c) w := by
  have hs : (sizeOf (Tryd.prog.elem 22)).run Tryd.prog w = .ok 3 w := by kernel_rfl
  have hu : Tryd.prog.underlying 22 = some (.slice (Tryd.prog.elem 22)) := by kernel_rfl
  rw [run_slice_h w 22 p l c hu .i64 (n : Int) (by omega) (by omega), hs]
  show Result.ok (sliced p 0 n c 3) w = _
  unfold sliced
  congr 2
  rcases p with _ | a
  · simp
  · simp [Addr.add]
theorem min_nat {P : Program} (ts : Array TypeId) (t : TypeId) (n m : Nat) (w : World) : (Builtin.min_ ts t #[.int .i64 (n : Int), .int .i64 (m : Int)]).run P w = .ok (.int .i64 ((min n m : Nat) : Int)) w := by
  rw [run_minI]; congr 2; omega
theorem add_s (q : Addr) (j : Nat) : q.add (j + 1) = ⟨q.block, q.off + (j + 1), none⟩ := by unfold Addr.add; simp
theorem SlM.at {w w' : World} {x : Option Addr} {l : List (Nat × Nat × Nat)} (h : SlM w x l) (hb : Below w.heap.size w w') {i : Nat} {p : Nat × Nat × Nat} (hi : l[i]? = some p) :
    p.1 < 256 ∧ p.2.1 < 256 ∧ p.2.2 < 256 ∧ ∃ a, x = some a ∧ w'.cell? (a.add (i * 3)) = some (.int .u8 (p.1 : Int)) ∧ w'.cell? ⟨(a.add (i * 3)).block, (a.add (i * 3)).off + 1, none⟩ = some (.int .u8 (p.2.1 : Int)) ∧ w'.cell? ⟨(a.add (i * 3)).block, (a.add (i * 3)).off + 2, none⟩ = some (.int .u8 (p.2.2 : Int)) := by
  obtain ⟨h1, h2, h3, a, ha, c1, c2, c3⟩ := h i p hi
  have k0 : (a.add (i * 3)).block = a.block := by unfold Addr.add; split <;> rfl
  have hb' : a.block < w.heap.size := by rw [← k0]; exact lt_of_cellR c1
  have e : ∀ (q : Addr), q.block = a.block → w'.cell? q = w.cell? q := fun q hq => World.cell?_of_block (hb.block q.block (by rw [hq]; exact hb'))
  rw [add_s] at c2 c3
  exact ⟨h1, h2, h3, a, ha, (e _ k0).trans c1, (e ⟨_, _, none⟩ k0).trans c2, (e ⟨_, _, none⟩ k0).trans c3⟩
/-- A map, its account, and how many moves there were. -/
structure Stm (w W : World) (B A k : Nat) (d : List Pt) (acc : Nat → Int × Int) : Prop where
  s : StA w W B A d acc
  a : Acc ((k : Int) + 1) d acc
  l : d.length ≤ 2 * k + 1
section
variable {w W W' : World} {B A k : Nat} {d : List Pt} {acc : Nat → Int × Int}
theorem Stm.keep (h : Stm w W B A k d acc) (hb : Below W.heap.size W W') : Stm w W' B A k d acc := ⟨h.s.keep hb, h.a, h.l⟩
theorem Stm.small (h : Stm w W B A k d acc) (hk : k ≤ 30) : SmallP d := h.a.small (by have := h.l; omega)
theorem Acc.le {E E' : Int} (h : Acc E d acc) (hE : E ≤ E') : Acc E' d acc := ⟨h.ch, h.nm, fun p hp => by have := h.bd p hp; omega, h.at'⟩
theorem Stm.up (h : Stm w W B A k d acc) : Stm w W B A (k + 1) d acc := ⟨h.s, h.a.le (by omega), by have := h.l; omega⟩
theorem Stm.bd (h : Stm w W B A k d acc) (hk : k ≤ 30) : ∀ j, j < 64 → 1 ≤ (acc j).1 ∧ (acc j).1 < 8 ∧ 1 ≤ (acc j).2 ∧ (acc j).2 ≤ 1000000 := fun j hj => by have := h.a.one j hj; omega
theorem Stm.ep (h : Stm w W B A k d acc) (hk : k ≤ 30) : ∀ p ∈ d, p.e ≤ 2147483648 := fun p hp => by have := h.a.bd p hp; omega
end
theorem begun_stm (w : World) (W : World) (hw : Below w.heap.size w W) :
    Calls Tryd.prog 12 #[] W fun e W' => ∃ B A, e = .returned (.tuple #[.pointer (some ⟨B, 0, none⟩), .pointer (some ⟨A, 0, none⟩), .bool true]) ∧ Stm w W' B A 0 [⟨⟨#[]⟩, ⟨#[]⟩, 1, 1⟩] (fun _ => (1, 1)) := by
  refine (begun_any w W hw).mono ?_
  rintro e W' ⟨B, A, rfl, hS, _⟩
  exact ⟨B, A, rfl, hS, acc_begun, by simp⟩
theorem sp_sml (a b : Nat) : (spF a b).size ≤ 9223372036854775807 ∧ (spT a b).size ≤ 9223372036854775807 := by have := sp_size a b; omega
/-- A move by the account: what it answers. -/
def AmvS (w W W' : World) (B A k : Nat) (d : List Pt) (acc : Nat → Int × Int) (a b c : Nat) (e : Ending) : Prop :=
  (accL acc (spF a b) (spT a b) (spG c) 64 = none ∧ e = .returned (.tuple #[.int .i64 0, .bool false]) ∧ Stm w W' B A k d acc ∧ Below W.heap.size W W' ∧ moveV d (spF a b) (spT a b) (spG c) = (0, 9, d)) ∨
  ∃ o ep, accL acc (spF a b) (spT a b) (spG c) 64 = some (o, ep) ∧ e = .returned (.tuple #[.int .i64 ep, .bool true]) ∧ StA w W' B A d (accSet acc (spF a b) (spT a b) (spG c) ep) ∧ W.grownBy W' (some A) ∧
    moveV d (spF a b) (spT a b) (spG c) = (ep, 0, newL d (spF a b) (spT a b) (spG c)) ∧ Acc ((k : Int) + 1 + 1) (newL d (spF a b) (spT a b) (spG c)) (accSet acc (spF a b) (spT a b) (spG c) ep) ∧ (newL d (spF a b) (spT a b) (spG c)).length ≤ d.length + 2 ∧ ownerV d (spF a b) (spT a b) = (o, true, 0) ∧ o ≠ spG c ∧ 1 ≤ ep
theorem amv_st {w W : World} {B A k : Nat} {d : List Pt} {acc : Nat → Int × Int} (S : Stm w W B A k d acc) (hk : k ≤ 30) (a b c : Nat) (ha : a < 256) (hb : b < 256) (hc : c < 256) :
    Calls Tryd.prog 14 #[.pointer (some ⟨A, 0, none⟩), .agg #[.int .u8 (a : Int), .int .u8 (b : Int), .int .u8 (c : Int)]] W fun e W' => AmvS w W W' B A k d acc a b c e := by
  refine (amv_any A acc a b c W S.s.a (S.bd hk) ha hb hc).mono ?_
  intro e W' h
  have hl := S.l
  have hm := acc_move S.a (by omega) (by omega) (sp_ok a b) (sp_named a b).1 (sp_named a b).2 (g := spG c) (by have := spG_bd c; omega) (by omega)
  rcases h with ⟨h1, rfl, h2⟩ | ⟨o, ep, h1, rfl, h2, h3⟩
  · left
    rcases hm with ⟨_, h4⟩ | ⟨_, _, h4, _⟩
    · exact ⟨h1, rfl, S.keep h2, h2, h4⟩
    · rw [h1] at h4; cases h4
  · right
    rcases hm with ⟨h4, _⟩ | ⟨o', ep', h4, h5, h6, h7, h8, h9, h10, _⟩
    · rw [h1] at h4; cases h4
    · rw [h1] at h4
      cases h4
      exact ⟨o, ep, h1, rfl, S.s.put h2 h3, h3, h5, h6, h7, h8, h9, h10⟩
/-- The map's own move behind it. -/
theorem move_stm {w W : World} {B A k : Nat} {d : List Pt} {acc acc' : Nat → Int × Int} (S : StA w W B A d acc') (S0 : Acc ((k : Int) + 1) d acc) (hl : d.length ≤ 2 * k + 1) (hk : k ≤ 30) (a b c : Nat) {ep : Int}
    (hv : moveV d (spF a b) (spT a b) (spG c) = (ep, 0, newL d (spF a b) (spT a b) (spG c))) (hA : Acc ((k : Int) + 1 + 1) (newL d (spF a b) (spT a b) (spG c)) acc') (hn : (newL d (spF a b) (spT a b) (spG c)).length ≤ d.length + 2) :
    Calls Tryd.prog 15 #[.pointer (some ⟨B, 0, none⟩), .agg #[.string (spF a b), .string (spT a b)], .int .i64 (spG c)] W fun e W' => e = .returned (.tuple #[.int .i64 ep, .int .i64 0]) ∧ Stm w W' B A (k + 1) (newL d (spF a b) (spT a b) (spG c)) acc' ∧ W.grownBy W' (some B) := by
  refine (move_any B d (spF a b) (spT a b) (spG c) W S.s.m (S0.small (by omega)) (by omega) (fun p hp => by have := S0.bd p hp; omega) (sp_sml a b).1 (sp_sml a b).2).mono ?_
  rw [hv]
  rintro e W' ⟨h1, h2, h3⟩
  exact ⟨h1, ⟨S.move h2 h3, hA, by omega⟩, h3⟩
/-- A move that is not possible leaves all as it is. -/
theorem move_stn {w W : World} {B A k : Nat} {d : List Pt} {acc : Nat → Int × Int} (S : Stm w W B A k d acc) (hk : k ≤ 30) (a b c : Nat)
    (hv : moveV d (spF a b) (spT a b) (spG c) = (0, 9, d)) :
    Calls Tryd.prog 15 #[.pointer (some ⟨B, 0, none⟩), .agg #[.string (spF a b), .string (spT a b)], .int .i64 (spG c)] W fun e W' => e = .returned (.tuple #[.int .i64 0, .int .i64 9]) ∧ Stm w W' B A k d acc ∧ W.grownBy W' (some B) := by
  have hl := S.l
  refine (move_any B d (spF a b) (spT a b) (spG c) W S.s.s.m (S.small hk) (by omega) (S.ep hk) (sp_sml a b).1 (sp_sml a b).2).mono ?_
  rw [hv]
  rintro e W' ⟨h1, h2, h3⟩
  exact ⟨h1, ⟨S.s.move h2 h3, S.a, S.l⟩, h3⟩
theorem owner_stm {w W : World} {B A k : Nat} {d : List Pt} {acc : Nat → Int × Int} (S : Stm w W B A k d acc) (hk : k ≤ 31) (x y : ByteArray) (hx : x.size ≤ 9223372036854775807) (hy : y.size ≤ 9223372036854775807) {o : Int} {b : Bool} {er : Int} (hv : ownerV d x y = (o, b, er)) :
    Calls Tryd.prog 16 #[.pointer (some ⟨B, 0, none⟩), .agg #[.string x, .string y]] W fun e W' => e = .returned (.tuple #[.int .i64 o, .bool b, .int .i64 er]) ∧ Stm w W' B A k d acc ∧ Below W.heap.size W W' := by
  have hl := S.l
  refine (owner_any B d x y W S.s.s.m (S.a.small (by omega)) hx hy).mono ?_
  rw [hv]
  rintro e W' ⟨h1, h2⟩
  exact ⟨h1, S.keep h2, h2⟩
end Go.Proofs.YtkkkppbcjmeapaaDoor
