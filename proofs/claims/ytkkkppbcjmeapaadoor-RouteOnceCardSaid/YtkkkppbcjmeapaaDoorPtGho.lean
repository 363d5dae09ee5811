/- A map whose account is the proof's alone; two maps alike. Condition: they lie in memory. -/
import Derived.Test.YtkkkppbcjmeapaaDoorRtE
namespace Go.Proofs.YtkkkppbcjmeapaaDoor
open Go.RowKit

/-- A map, and an account that lies nowhere. -/
structure Stg (w W : World) (B k : Nat) (d : List Pt) (acc : Nat → Int × Int) : Prop where
  s : St w W B d
  a : Acc ((k : Int) + 1) d acc
  l : d.length ≤ 2 * k + 1
section
variable {w W W' : World} {B k : Nat} {d : List Pt} {acc : Nat → Int × Int}
theorem Stg.keep (h : Stg w W B k d acc) (hb : Below W.heap.size W W') : Stg w W' B k d acc := ⟨h.s.keep hb, h.a, h.l⟩
theorem Stm.ghost {A : Nat} (h : Stm w W B A k d acc) : Stg w W B k d acc := ⟨h.s.s, h.a, h.l⟩
end
theorem begun_stg (w : World) (W : World) (hw : Below w.heap.size w W) :
    Calls Tryd.prog 12 #[] W fun e W' => ∃ B A, e = .returned (.tuple #[.pointer (some ⟨B, 0, none⟩), .pointer (some ⟨A, 0, none⟩), .bool true]) ∧ Stg w W' B 0 [⟨⟨#[]⟩, ⟨#[]⟩, 1, 1⟩] (fun _ => (1, 1)) := by
  refine (begun_stm w W hw).mono ?_
  rintro e W' ⟨B, A, rfl, hS⟩
  exact ⟨B, A, rfl, hS.ghost⟩
theorem mv_val {E : Int} {d : List Pt} {acc : Nat → Int × Int} (h : Acc E d acc) (hE : E < 2147483640) (hE0 : 0 ≤ E) (a b c : Nat) (hlen : d.length ≤ 62) :
    ∃ acc', Acc (E + 1) (moveV d (spF a b) (spT a b) (spG c)).2.2 acc' ∧ (moveV d (spF a b) (spT a b) (spG c)).2.2.length ≤ d.length + 2 := by
  rcases acc_move h (by omega) hE0 (sp_ok a b) (sp_named a b).1 (sp_named a b).2 (g := spG c) (by have := spG_bd c; omega) hlen with ⟨_, hv⟩ | ⟨o, e, _, hv, hA, hl, _⟩
  · rw [hv]; exact ⟨acc, h.le (by omega), by show d.length ≤ _; omega⟩
  · rw [hv]; exact ⟨_, hA, hl⟩
theorem move_stg {w W : World} {B k : Nat} {d : List Pt} {acc : Nat → Int × Int} (S : Stg w W B k d acc) (hk : k ≤ 30) (a b c : Nat) :
    Calls Tryd.prog 15 #[.pointer (some ⟨B, 0, none⟩), .agg #[.string (spF a b), .string (spT a b)], .int .i64 (spG c)] W fun e W' => ∃ n er d' acc', e = .returned (.tuple #[.int .i64 n, .int .i64 er]) ∧ moveV d (spF a b) (spT a b) (spG c) = (n, er, d') ∧ Stg w W' B (k + 1) d' acc' ∧ W.grownBy W' (some B) := by
  have hl := S.l
  obtain ⟨acc', h1, h2⟩ := mv_val S.a (by omega) (by omega) a b c (by omega)
  refine (move_acc S.s S.a (by omega) (by omega) (spF a b) (spT a b) (spG c) (sp_sml a b).1 (sp_sml a b).2 rfl).mono ?_
  rintro e W' ⟨rfl, hS, hg⟩
  generalize hv : moveV d (spF a b) (spT a b) (spG c) = v at h1 h2 hS ⊢
  obtain ⟨n, er, d'⟩ := v
  have e1 : ((k + 1 : Nat) : Int) + 1 = (k : Int) + 1 + 1 := by omega
  have h2' : d'.length ≤ d.length + 2 := h2
  exact ⟨n, er, d', acc', rfl, rfl, ⟨hS, by rw [e1]; exact h1, by omega⟩, hg⟩
/-- Two maps that are alike. -/
structure Twn (w W : World) (B C k : Nat) (d : List Pt) (acc : Nat → Int × Int) : Prop where
  g : Stg w W B k d acc
  c : St w W C d
  ne : C ≠ B
/-- The first of two maps has moved. -/
structure TwX (w W : World) (B C k : Nat) (d d' : List Pt) (acc' : Nat → Int × Int) : Prop where
  g : Stg w W B (k + 1) d' acc'
  c : St w W C d
  ne : C ≠ B
  sm : SmallP d
  l : d.length ≤ 64
  e : ∀ p ∈ d, p.e ≤ 2147483648
section
variable {w W W' : World} {B C k : Nat} {d d' : List Pt} {acc acc' : Nat → Int × Int}
theorem Twn.keep (h : Twn w W B C k d acc) (hb : Below W.heap.size W W') : Twn w W' B C k d acc := ⟨h.g.keep hb, h.c.keep hb, h.ne⟩
theorem TwX.keep (h : TwX w W B C k d d' acc) (hb : Below W.heap.size W W') : TwX w W' B C k d d' acc := ⟨h.g.keep hb, h.c.keep hb, h.ne, h.sm, h.l, h.e⟩
end
theorem twn_one {w W : World} {B C k : Nat} {d : List Pt} {acc : Nat → Int × Int} (T : Twn w W B C k d acc) (hk : k ≤ 30) (a b c : Nat) :
    Calls Tryd.prog 15 #[.pointer (some ⟨B, 0, none⟩), .agg #[.string (spF a b), .string (spT a b)], .int .i64 (spG c)] W fun e W' => ∃ n er d' acc', e = .returned (.tuple #[.int .i64 n, .int .i64 er]) ∧ moveV d (spF a b) (spT a b) (spG c) = (n, er, d') ∧ TwX w W' B C k d d' acc' ∧ W.grownBy W' (some B) := by
  have hl := T.g.l
  refine (move_stg T.g hk a b c).mono ?_
  rintro e W' ⟨n, er, d', acc', h1, h2, h3, h4⟩
  exact ⟨n, er, d', acc', h1, h2, ⟨h3, T.c.other T.g.s T.ne h4, T.ne, T.g.a.small (by omega), by omega, fun p hp => by have := T.g.a.bd p hp; omega⟩, h4⟩
theorem twn_two {w W : World} {B C k : Nat} {d d' : List Pt} {acc' : Nat → Int × Int} (T : TwX w W B C k d d' acc') (a b c : Nat) {n er : Int} (hv : moveV d (spF a b) (spT a b) (spG c) = (n, er, d')) :
    Calls Tryd.prog 15 #[.pointer (some ⟨C, 0, none⟩), .agg #[.string (spF a b), .string (spT a b)], .int .i64 (spG c)] W fun e W' => e = .returned (.tuple #[.int .i64 n, .int .i64 er]) ∧ Twn w W' B C (k + 1) d' acc' ∧ W.grownBy W' (some C) := by
  refine (move_st T.c (spF a b) (spT a b) (spG c) T.sm T.l T.e (sp_sml a b).1 (sp_sml a b).2 hv).mono ?_
  rintro e W' ⟨h1, h2, h3⟩
  exact ⟨h1, ⟨⟨T.g.s.other T.c (Ne.symm T.ne) h3, T.g.a, T.g.l⟩, h2, T.ne⟩, h3⟩
theorem of_st {w W : World} {B : Nat} {d : List Pt} (S : St w W B d) (g : Int) (hd : d.length ≤ 900) :
    Calls Tryd.prog 29 #[.pointer (some ⟨B, 0, none⟩), .int .i64 g] W fun e W' => ∃ a c, e = .returned (.slice a (ofL g d).length c) ∧ SlR W' (.slice a (ofL g d).length c) (rgs (ofL g d)) ∧ St w W' B d ∧ Below W.heap.size W W' := by
  refine (of_any B d g W S.m hd).mono ?_
  rintro e W' ⟨v, rfl, ho, hb⟩
  obtain ⟨a, c, rfl⟩ := len_own' ho
  exact ⟨a, c, rfl, slR_own ho, S.keep hb, hb⟩
end Go.Proofs.YtkkkppbcjmeapaaDoor
