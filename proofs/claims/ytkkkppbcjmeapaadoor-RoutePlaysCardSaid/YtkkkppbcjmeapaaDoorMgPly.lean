/- Merged by program: PtMvs, PtGho, RfShow, RfNew, RfCopy, RfDuo, RPly, Frame31, Frame31M, Frame31S. -/
import Derived.Test.YtkkkppbcjmeapaaDoorPtLop
import Derived.Test.YtkkkppbcjmeapaaDoorPlMvs
import Derived.Test.YtkkkppbcjmeapaaDoorMgRf
import Derived.Test.YtkkkppbcjmeapaaDoorCards
import Derived.Test.YtkkkppbcjmeapaaDoorTie
import Derived.Test.YtkkkppbcjmeapaaDoorProg
import Derived.WalkKit
import Derived.ProofKit
import Derived.OpenShut
import Derived.ReadAgain
import Derived.Deep.DeepHandedRow
import Derived.Deep.DeepWitnessRowRef
import Derived.Lib.SmallJoins
import Derived.Lay
import Derived.MakeChecks
import Derived.Lib.AtoiErrMem
import Derived.Deep.Strs
namespace Go.Proofs.YtkkkppbcjmeapaaDoor
section
open Go.RowKit

section
variable {w W W' : World} {B C A : Nat} {d d' : List Pt} {acc : Nat → Int × Int}
theorem St.other (S : St w W C d') (T : St w W B d) (hne : C ≠ B) (hg : W.grownBy W' (some B)) : St w W' C d' := by
  obtain ⟨v, h1, _⟩ := T.m
  exact ⟨S.m.other h1 hne hg, S.b.grown hg S.b.size (fun q e => by cases e; exact T.h), S.h⟩
end
theorem acc_ne {E : Int} {d : List Pt} {acc : Nat → Int × Int} (h : Acc E d acc) : d ≠ [] := fun e => by
  obtain ⟨q, hq, _⟩ := h.key (k := 0) (by decide)
  rw [e] at hq; cases hq
theorem copy_st {w W : World} {B : Nat} {d : List Pt} (S : St w W B d) (hd : d.length ≤ 900) (hne : d ≠ []) :
    Calls Tryd.prog 25 #[.pointer (some ⟨B, 0, none⟩)] W fun e W' => ∃ C, e = .returned (.pointer (some ⟨C, 0, none⟩)) ∧ C ≠ B ∧ W.heap.size ≤ C ∧ St w W' C d ∧ St w W' B d ∧ Below W.heap.size W W' := by
  refine (copy_any B d W S.m hd).mono ?_
  rintro e W' ⟨⟨p, rfl, h⟩, hb⟩
  rcases h with ⟨h0, _⟩ | ⟨_, C, rfl, hC, hM⟩
  · exact absurd h0 hne
  · exact ⟨C, rfl, by have := S.m.lt; omega, hC, ⟨hM, S.b.trans (hb.mono S.b.size), Nat.le_trans S.b.size hC⟩, S.keep hb, hb⟩
theorem group_key {w W : World} {B : Nat} {d : List Pt} {acc : Nat → Int × Int} {E : Int} (S : St w W B d) (hA : Acc E d acc) (hd : d.length ≤ 900) {k : Nat} (hk : k < 64) :
    Calls Tryd.prog 23 #[.pointer (some ⟨B, 0, none⟩), .string (nmS k)] W fun e W' => e = .returned (.tuple #[.int .i64 (acc k).1, .int .i64 0]) ∧ Below W.heap.size W W' := by
  obtain ⟨q, _, hq, _, ha⟩ := hA.key hk
  refine (group_st S (nmS k) (hA.small hd) (by rw [nm_size]; omega) (nm_isName k) hq).mono ?_
  rintro e W' ⟨rfl, _, hb⟩
  exact ⟨by rw [ha], hb⟩
theorem epoch_key {w W : World} {B : Nat} {d : List Pt} {acc : Nat → Int × Int} {E : Int} (S : St w W B d) (hA : Acc E d acc) (hd : d.length ≤ 900) {k : Nat} (hk : k < 64) :
    Calls Tryd.prog 27 #[.pointer (some ⟨B, 0, none⟩), .string (nmS k)] W fun e W' => e = .returned (.tuple #[.int .i64 (acc k).2, .int .i64 0]) ∧ Below W.heap.size W W' := by
  obtain ⟨q, _, hq, _, ha⟩ := hA.key hk
  refine (epoch_st S (nmS k) (hA.small hd) (by rw [nm_size]; omega) (nm_isName k) hq).mono ?_
  rintro e W' ⟨rfl, _, hb⟩
  exact ⟨by rw [ha], hb⟩
theorem owner_acc {w W : World} {B : Nat} {d : List Pt} {acc : Nat → Int × Int} {E : Int} (S : St w W B d) (hA : Acc E d acc) (hd : d.length ≤ 900) (x y : ByteArray) (hx : x.size ≤ 9223372036854775807) (hy : y.size ≤ 9223372036854775807) {o : Int} {b : Bool} {er : Int} (hv : ownerV d x y = (o, b, er)) :
    Calls Tryd.prog 16 #[.pointer (some ⟨B, 0, none⟩), .agg #[.string x, .string y]] W fun e W' => e = .returned (.tuple #[.int .i64 o, .bool b, .int .i64 er]) ∧ St w W' B d ∧ Below W.heap.size W W' := by
  refine (owner_any B d x y W S.m (hA.small hd) hx hy).mono ?_
  rintro e W' ⟨rfl, hb⟩
  rw [hv]
  exact ⟨rfl, S.keep hb, hb⟩
theorem move_acc {w W : World} {B : Nat} {d : List Pt} {acc : Nat → Int × Int} {E : Int} (S : St w W B d) (hA : Acc E d acc) (hE : E ≤ 2147483648) (hd : d.length ≤ 64) (x y : ByteArray) (g : Int) (hx : x.size ≤ 9223372036854775807) (hy : y.size ≤ 9223372036854775807) {v : Int × Int × List Pt} (hv : moveV d x y g = v) :
    Calls Tryd.prog 15 #[.pointer (some ⟨B, 0, none⟩), .agg #[.string x, .string y], .int .i64 g] W fun e W' => e = .returned (.tuple #[.int .i64 v.1, .int .i64 v.2.1]) ∧ St w W' B v.2.2 ∧ W.grownBy W' (some B) :=
  move_st S x y g (hA.small (by omega)) hd (fun p hp => by have := hA.bd p hp; omega) hx hy hv
/-- A map, a copy of an older state of it, and a range that is asked. -/
structure TwoM (w W : World) (B C R : Nat) (X Y : ByteArray) (d d1 : List Pt) : Prop where
  s : St w W B d1
  c : St w W C d
  r : Whole W R 30 #[.string X, .string Y]
  ne : C ≠ B
section
variable {w W W' : World} {B C R : Nat} {X Y : ByteArray} {d d1 d2 : List Pt}
theorem TwoM.keep (h : TwoM w W B C R X Y d d1) (hb : Below W.heap.size W W') : TwoM w W' B C R X Y d d1 := ⟨h.s.keep hb, h.c.keep hb, h.r.below hb h.r.lt, h.ne⟩
theorem type_apart {w : World} {B R : Nat} {t : TypeId} {d : List Pt} {cs : Array Value} (h : MapAt w B d) (ht : t ≠ 74) (hr : Whole w R t cs) : R ≠ B := by
  rintro rfl
  obtain ⟨v, h1, _⟩ := h
  have e := (show w.heap[R]? = _ from h1).symm.trans (show w.heap[R]? = _ from hr)
  injection e with e
  injection e with _ e2 _
  exact ht e2.symm
theorem range_apart {w : World} {B R : Nat} {d : List Pt} {cs : Array Value} (h : MapAt w B d) (hr : Whole w R 30 cs) : R ≠ B := type_apart h (by decide) hr
theorem TwoM.move (h : TwoM w W B C R X Y d d1) (hS : St w W' B d2) (hg : W.grownBy W' (some B)) : TwoM w W' B C R X Y d d2 := ⟨hS, h.c.other h.s h.ne hg, h.r.other (range_apart h.s.m h.r) hg, h.ne⟩
end
theorem equalR_same {v v' : Value} {l : List (ByteArray × ByteArray)} {w : World} (h : SlR w v l) (h' : SlR w v' l) (hl : l.length ≤ 1000000) :
    Calls Tryd.prog 26 #[v, v'] w fun e w' => e = .returned (.bool true) ∧ Below w.heap.size w w' := by
  refine (equalR_any v v' l l w h h' hl).mono ?_
  rintro e W' ⟨⟨b, rfl, hb⟩, h2⟩
  rw [hb.2 rfl]
  exact ⟨rfl, h2⟩
theorem equalI_same {v v' : Value} {l : List Int} {w : World} (h : SlI w v l) (h' : SlI w v' l) (hl : l.length ≤ 1000000) :
    Calls Tryd.prog 24 #[v, v'] w fun e w' => e = .returned (.bool true) ∧ Below w.heap.size w w' := by
  refine (equalI_any v v' l l w h h' hl).mono ?_
  rintro e W' ⟨⟨b, rfl, hb⟩, h2⟩
  rw [hb.2 rfl]
  exact ⟨rfl, h2⟩
end
section
open Go.RowKit

/-- A map, and an account that lies nowhere. -/
structure Stg (w W : World) (B k : Nat) (d : List Pt) (acc : Nat → Int × Int) : Prop where
  s : St w W B d
  a : Acc ((k : Int) + 1) d acc
  l : d.length ≤ 2 * k + 1
section
variable {w W W' : World} {B k : Nat} {d : List Pt} {acc : Nat → Int × Int}
theorem Stg.keep (h : Stg w W B k d acc) (hb : Below W.heap.size W W') : Stg w W' B k d acc := ⟨h.s.keep hb, h.a, h.l⟩
theorem Stm.ghost {A : Nat} (h : Stm w W B A k d acc) : Stg w W B k d acc := ⟨h.s.s, h.a, h.l⟩
end
theorem begun_stg (w : World) (W : World) (hw : Below w.heap.size w W) :
    Calls Tryd.prog 12 #[] W fun e W' => ∃ B A, e = .returned (.tuple #[.pointer (some ⟨B, 0, none⟩), .pointer (some ⟨A, 0, none⟩), .bool true]) ∧ Stg w W' B 0 [⟨⟨#[]⟩, ⟨#[]⟩, 1, 1⟩] (fun _ => (1, 1)) := by
  refine (begun_stm w W hw).mono ?_
  rintro e W' ⟨B, A, rfl, hS⟩
  exact ⟨B, A, rfl, hS.ghost⟩
theorem mv_val {E : Int} {d : List Pt} {acc : Nat → Int × Int} (h : Acc E d acc) (hE : E < 2147483640) (hE0 : 0 ≤ E) (a b c : Nat) (hlen : d.length ≤ 62) :
    ∃ acc', Acc (E + 1) (moveV d (spF a b) (spT a b) (spG c)).2.2 acc' ∧ (moveV d (spF a b) (spT a b) (spG c)).2.2.length ≤ d.length + 2 := by
  rcases acc_move h (by omega) hE0 (sp_ok a b) (sp_named a b).1 (sp_named a b).2 (g := spG c) (by have := spG_bd c; omega) hlen with ⟨_, hv⟩ | ⟨o, e, _, hv, hA, hl, _⟩
  · rw [hv]; exact ⟨acc, h.le (by omega), by show d.length ≤ _; omega⟩
  · rw [hv]; exact ⟨_, hA, hl⟩
theorem move_stg {w W : World} {B k : Nat} {d : List Pt} {acc : Nat → Int × Int} (S : Stg w W B k d acc) (hk : k ≤ 30) (a b c : Nat) :
    Calls Tryd.prog 15 #[.pointer (some ⟨B, 0, none⟩), .agg #[.string (spF a b), .string (spT a b)], .int .i64 (spG c)] W fun e W' => ∃ n er d' acc', e = .returned (.tuple #[.int .i64 n, .int .i64 er]) ∧ moveV d (spF a b) (spT a b) (spG c) = (n, er, d') ∧ Stg w W' B (k + 1) d' acc' ∧ W.grownBy W' (some B) := by
  have hl := S.l
  obtain ⟨acc', h1, h2⟩ := mv_val S.a (by omega) (by omega) a b c (by omega)
  refine (move_acc S.s S.a (by omega) (by omega) (spF a b) (spT a b) (spG c) (sp_sml a b).1 (sp_sml a b).2 rfl).mono ?_
  rintro e W' ⟨rfl, hS, hg⟩
  generalize hv : moveV d (spF a b) (spT a b) (spG c) = v at h1 h2 hS ⊢
  obtain ⟨n, er, d'⟩ := v
  have e1 : ((k + 1 : Nat) : Int) + 1 = (k : Int) + 1 + 1 := by omega
  have h2' : d'.length ≤ d.length + 2 := h2
  exact ⟨n, er, d', acc', rfl, rfl, ⟨hS, by rw [e1]; exact h1, by omega⟩, hg⟩
/-- Two maps that are alike. -/
structure Twn (w W : World) (B C k : Nat) (d : List Pt) (acc : Nat → Int × Int) : Prop where
  g : Stg w W B k d acc
  c : St w W C d
  ne : C ≠ B
/-- The first of two maps has moved. -/
structure TwX (w W : World) (B C k : Nat) (d d' : List Pt) (acc' : Nat → Int × Int) : Prop where
  g : Stg w W B (k + 1) d' acc'
  c : St w W C d
  ne : C ≠ B
  sm : SmallP d
  l : d.length ≤ 64
  e : ∀ p ∈ d, p.e ≤ 2147483648
section
variable {w W W' : World} {B C k : Nat} {d d' : List Pt} {acc acc' : Nat → Int × Int}
theorem Twn.keep (h : Twn w W B C k d acc) (hb : Below W.heap.size W W') : Twn w W' B C k d acc := ⟨h.g.keep hb, h.c.keep hb, h.ne⟩
theorem TwX.keep (h : TwX w W B C k d d' acc) (hb : Below W.heap.size W W') : TwX w W' B C k d d' acc := ⟨h.g.keep hb, h.c.keep hb, h.ne, h.sm, h.l, h.e⟩
end
theorem twn_one {w W : World} {B C k : Nat} {d : List Pt} {acc : Nat → Int × Int} (T : Twn w W B C k d acc) (hk : k ≤ 30) (a b c : Nat) :
    Calls Tryd.prog 15 #[.pointer (some ⟨B, 0, none⟩), .agg #[.string (spF a b), .string (spT a b)], .int .i64 (spG c)] W fun e W' => ∃ n er d' acc', e = .returned (.tuple #[.int .i64 n, .int .i64 er]) ∧ moveV d (spF a b) (spT a b) (spG c) = (n, er, d') ∧ TwX w W' B C k d d' acc' ∧ W.grownBy W' (some B) := by
  have hl := T.g.l
  refine (move_stg T.g hk a b c).mono ?_
  rintro e W' ⟨n, er, d', acc', h1, h2, h3, h4⟩
  exact ⟨n, er, d', acc', h1, h2, ⟨h3, T.c.other T.g.s T.ne h4, T.ne, T.g.a.small (by omega), by omega, fun p hp => by have := T.g.a.bd p hp; omega⟩, h4⟩
theorem twn_two {w W : World} {B C k : Nat} {d d' : List Pt} {acc' : Nat → Int × Int} (T : TwX w W B C k d d' acc') (a b c : Nat) {n er : Int} (hv : moveV d (spF a b) (spT a b) (spG c) = (n, er, d')) :
    Calls Tryd.prog 15 #[.pointer (some ⟨C, 0, none⟩), .agg #[.string (spF a b), .string (spT a b)], .int .i64 (spG c)] W fun e W' => e = .returned (.tuple #[.int .i64 n, .int .i64 er]) ∧ Twn w W' B C (k + 1) d' acc' ∧ W.grownBy W' (some C) := by
  refine (move_st T.c (spF a b) (spT a b) (spG c) T.sm T.l T.e (sp_sml a b).1 (sp_sml a b).2 hv).mono ?_
  rintro e W' ⟨h1, h2, h3⟩
  exact ⟨h1, ⟨⟨T.g.s.other T.c (Ne.symm T.ne) h3, T.g.a, T.g.l⟩, h2, T.ne⟩, h3⟩
theorem of_st {w W : World} {B : Nat} {d : List Pt} (S : St w W B d) (g : Int) (hd : d.length ≤ 900) :
    Calls Tryd.prog 29 #[.pointer (some ⟨B, 0, none⟩), .int .i64 g] W fun e W' => ∃ a c, e = .returned (.slice a (ofL g d).length c) ∧ SlR W' (.slice a (ofL g d).length c) (rgs (ofL g d)) ∧ St w W' B d ∧ Below W.heap.size W W' := by
  refine (of_any B d g W S.m hd).mono ?_
  rintro e W' ⟨v, rfl, ho, hb⟩
  obtain ⟨a, c, rfl⟩ := len_own' ho
  exact ⟨a, c, rfl, slR_own ho, S.keep hb, hb⟩
end
section
open Go.RowKit

/-- A map and the reference's, of which the first may have moved already. -/
structure Duo (w W : World) (B C : Nat) (d d1 : List Pt) : Prop where
  s : St w W B d1
  r : RM W C d
  h : w.heap.size ≤ C
  ne : C ≠ B
  g : Good d
  g1 : Good d1
theorem Duo.keep {w W W' : World} {B C : Nat} {d d1 : List Pt} (h : Duo w W B C d d1) (hb : Below W.heap.size W W') : Duo w W' B C d d1 := ⟨h.s.keep hb, h.r.keep hb, h.h, h.ne, h.g, h.g1⟩
theorem rranges_st {W : World} {C : Nat} {d : List Pt} (h : RM W C d) {n : Nat} (hn : d.length = n) (hd : n ≤ 900) :
    Calls Tryd.prog 58 #[.pointer (some ⟨C, 0, none⟩)] W fun e W' => ∃ a c, e = .returned (.slice a n c) ∧ SlR W' (.slice a n c) (rgs d) ∧ Below W.heap.size W W' := by
  subst hn
  refine (rranges_any C d W h hd).mono ?_
  rintro e W' ⟨v, rfl, ho, hb⟩
  obtain ⟨a, c, rfl⟩ := len_own' ho
  exact ⟨a, c, rfl, slR_own ho, hb⟩
theorem rgroups_st {W : World} {C : Nat} {d : List Pt} (h : RM W C d) {n : Nat} (hn : d.length = n) (hd : n ≤ 900) :
    Calls Tryd.prog 59 #[.pointer (some ⟨C, 0, none⟩)] W fun e W' => ∃ a c, e = .returned (.slice a n c) ∧ SlI W' (.slice a n c) (grs d) ∧ Below W.heap.size W W' := by
  subst hn
  refine (rgroups_any C d W h hd).mono ?_
  rintro e W' ⟨v, rfl, ho, hb⟩
  rw [flatG_map] at ho
  obtain ⟨a, c, rfl⟩ := len_own' ho
  have : (grs d).length = d.length := by simp [grs]
  rw [← this] at ho
  have h1 := slI_own ho
  rw [this] at h1
  exact ⟨a, c, rfl, h1, hb⟩
theorem repochs_st {W : World} {C : Nat} {d : List Pt} (h : RM W C d) {n : Nat} (hn : d.length = n) (hd : n ≤ 900) :
    Calls Tryd.prog 60 #[.pointer (some ⟨C, 0, none⟩)] W fun e W' => ∃ a c, e = .returned (.slice a n c) ∧ SlI W' (.slice a n c) (eps d) ∧ Below W.heap.size W W' := by
  subst hn
  refine (repochs_any C d W h hd).mono ?_
  rintro e W' ⟨v, rfl, ho, hb⟩
  rw [flatE_map] at ho
  obtain ⟨a, c, rfl⟩ := len_own' ho
  have : (eps d).length = d.length := by simp [eps]
  rw [← this] at ho
  have h1 := slI_own ho
  rw [this] at h1
  exact ⟨a, c, rfl, h1, hb⟩
theorem rof_st {W : World} {C : Nat} {d : List Pt} (h : RM W C d) (g : Int) (hd : d.length ≤ 900) :
    Calls Tryd.prog 61 #[.pointer (some ⟨C, 0, none⟩), .int .i64 g] W fun e W' => ∃ a c, e = .returned (.slice a (ofL g d).length c) ∧ SlR W' (.slice a (ofL g d).length c) (rgs (ofL g d)) ∧ Below W.heap.size W W' := by
  refine (rof_any C d g W h hd).mono ?_
  rintro e W' ⟨v, rfl, ho, hb⟩
  obtain ⟨a, c, rfl⟩ := len_own' ho
  exact ⟨a, c, rfl, slR_own ho, hb⟩
theorem rfl_beqB (b : Bool) : (b == b) = true := beq_self_eq_true b
set_option maxRecDepth 100000 in
set_option maxHeartbeats 8000000 in
theorem shows_any {w W : World} {B C : Nat} {d : List Pt} (D : Duo w W B C d d) (key x y : ByteArray) (g : Int) (hk : key.size ≤ 9223372036854775807) (hx : x.size ≤ 9223372036854775807) (hy : y.size ≤ 9223372036854775807) :
    Calls Tryd.prog 36 #[.pointer (some ⟨B, 0, none⟩), .pointer (some ⟨C, 0, none⟩), .string key, .agg #[.string x, .string y], .int .i64 g] W fun e W' => e = .returned (.bool true) ∧ Below W.heap.size W W' := by
  have al := (Below.refl W.heap.size W).alloc (Nat.le_refl _) (.cells #[.string x, .string y] 30)
  have D0 := Lib.hid (D.keep al)
  have B0 := Lib.hid al
  have R0 := Lib.hid (Whole.new W 30 #[.string x, .string y])
  have HG := Lib.hid D.g
  have HF := Lib.hid (fun (h : isName key.data.toList = true) => D.g.find key h)
  have HL := Lib.hid (show d.length ≤ 900 by have := D.g.l; omega)
  have HGR := Lib.hid (show (rgs d).length ≤ 1000000 ∧ (grs d).length ≤ 1000000 ∧ (eps d).length ≤ 1000000 ∧ (rgs (ofL g d)).length ≤ 1000000 by
    have := D.g.l
    have h2 := ofL_len g d d.length
    rw [List.take_length] at h2
    simp only [rgs, grs, eps, List.length_map]
    omega)
  clear D al
  go_enter Tryd.func36, Tryd.ntmps36
  go_wp2_with fail
  generalize W.alloc (.cells #[.string x, .string y] 30) = W1 at D0 B0 R0 ⊢
  refine (group_any B d key _ D0.out.s.m HG.out.sm hk (fun _ h => HF.out h)).mono ?_
  rintro e W2 ⟨rfl, hb2⟩
  have D2 := Lib.hid (D0.out.keep hb2)
  have B2 := Lib.hid (B0.out.trans (hb2.mono B0.out.size))
  have R2 := Lib.hid (R0.out.below hb2 R0.out.lt)
  clear D0 B0 R0 hb2
  go_wp2_with fail
  refine (rgrp_any C d key _ D2.out.r HG.out.sm HG.out.ne hk HF.out).mono ?_
  rintro e W3 ⟨rfl, hb3⟩
  have D0 := Lib.hid (D2.out.keep hb3)
  have B0 := Lib.hid (B2.out.trans (hb3.mono B2.out.size))
  have R0 := Lib.hid (R2.out.below hb3 R2.out.lt)
  have r0 := (R0.out.cell 0).trans (show _ = some (Value.string x) from rfl)
  have r1 := (R0.out.cell 1).trans (show _ = some (Value.string y) from rfl)
  clear D2 B2 R2 hb3
  go_wp2_with fail
  clear r0 r1
  refine (epoch_any B d key _ D0.out.s.m HG.out.sm hk (fun _ h => HF.out h)).mono ?_
  rintro e W2 ⟨rfl, hb2⟩
  have D2 := Lib.hid (D0.out.keep hb2)
  have B2 := Lib.hid (B0.out.trans (hb2.mono B0.out.size))
  have R2 := Lib.hid (R0.out.below hb2 R0.out.lt)
  clear D0 B0 R0 hb2
  go_wp2_with fail
  refine (repc_any C d key _ D2.out.r HG.out.sm HG.out.ne hk HF.out).mono ?_
  rintro e W3 ⟨rfl, hb3⟩
  have D0 := Lib.hid (D2.out.keep hb3)
  have B0 := Lib.hid (B2.out.trans (hb3.mono B2.out.size))
  have R0 := Lib.hid (R2.out.below hb3 R2.out.lt)
  have r0 := (R0.out.cell 0).trans (show _ = some (Value.string x) from rfl)
  have r1 := (R0.out.cell 1).trans (show _ = some (Value.string y) from rfl)
  clear D2 B2 R2 hb3
  go_wp2_with fail
  clear r0 r1
  refine (owner_any B d x y _ D0.out.s.m HG.out.sm hx hy).mono ?_
  unfold ownerE
  rintro e W2 ⟨rfl, hb2⟩
  have D2 := Lib.hid (D0.out.keep hb2)
  have B2 := Lib.hid (B0.out.trans (hb2.mono B0.out.size))
  have R2 := Lib.hid (R0.out.below hb2 R0.out.lt)
  have r0 := (R2.out.cell 0).trans (show _ = some (Value.string x) from rfl)
  have r1 := (R2.out.cell 1).trans (show _ = some (Value.string y) from rfl)
  clear D0 B0 R0 hb2
  go_wp2_with fail
  clear r0 r1
  refine (rowner_any C d x y _ D2.out.r HG.out.sm HG.out.ne (fun p hp => (HG.out.b p hp).1.1) hx hy).mono ?_
  unfold ownerE
  rintro e W3 ⟨rfl, hb3⟩
  have D0 := Lib.hid (D2.out.keep hb3)
  have B0 := Lib.hid (B2.out.trans (hb3.mono B2.out.size))
  have qb := rfl_beqB (ownerV d x y).2.1
  clear D2 B2 R2 hb3
  go_wp2_with fail
  refine (ranges_st D0.out.s (n := d.length) rfl HL.out).mono ?_
  rintro e W2 ⟨a1, c1, rfl, hV1, _, hb2⟩
  have D2 := Lib.hid (D0.out.keep hb2)
  have B2 := Lib.hid (B0.out.trans (hb2.mono B0.out.size))
  have V1 := Lib.hid hV1
  clear hV1 hb2 D0 B0
  go_wp2_with fail
  refine (rranges_st D2.out.r (n := d.length) rfl HL.out).mono ?_
  rintro e W3 ⟨a2, c2, rfl, hV2, hb3⟩
  have D3 := Lib.hid (D2.out.keep hb3)
  have B3 := Lib.hid (B2.out.trans (hb3.mono B2.out.size))
  have V12 := Lib.hid (V1.out.keep hb3)
  have V2 := Lib.hid hV2
  clear hV2 hb3 D2 B2 V1
  go_wp2_with fail
  refine (equalR_same V12.out V2.out HGR.out.1).mono ?_
  rintro e W4 ⟨rfl, hb4⟩
  have D0 := Lib.hid (D3.out.keep hb4)
  have B0 := Lib.hid (B3.out.trans (hb4.mono B3.out.size))
  clear hb4 D3 B3 V12 V2
  go_wp2_with fail
  refine (groups_st D0.out.s (n := d.length) rfl HL.out).mono ?_
  rintro e W2 ⟨a1, c1, rfl, hV1, _, hb2⟩
  have D2 := Lib.hid (D0.out.keep hb2)
  have B2 := Lib.hid (B0.out.trans (hb2.mono B0.out.size))
  have V1 := Lib.hid hV1
  clear hV1 hb2 D0 B0
  go_wp2_with fail
  refine (rgroups_st D2.out.r (n := d.length) rfl HL.out).mono ?_
  rintro e W3 ⟨a2, c2, rfl, hV2, hb3⟩
  have D3 := Lib.hid (D2.out.keep hb3)
  have B3 := Lib.hid (B2.out.trans (hb3.mono B2.out.size))
  have V12 := Lib.hid (V1.out.keep hb3)
  have V2 := Lib.hid hV2
  clear hV2 hb3 D2 B2 V1
  go_wp2_with fail
  refine (equalI_same V12.out V2.out HGR.out.2.1).mono ?_
  rintro e W4 ⟨rfl, hb4⟩
  have D0 := Lib.hid (D3.out.keep hb4)
  have B0 := Lib.hid (B3.out.trans (hb4.mono B3.out.size))
  clear hb4 D3 B3 V12 V2
  go_wp2_with fail
  refine (epochs_st D0.out.s (n := d.length) rfl HL.out).mono ?_
  rintro e W2 ⟨a1, c1, rfl, hV1, _, hb2⟩
  have D2 := Lib.hid (D0.out.keep hb2)
  have B2 := Lib.hid (B0.out.trans (hb2.mono B0.out.size))
  have V1 := Lib.hid hV1
  clear hV1 hb2 D0 B0
  go_wp2_with fail
  refine (repochs_st D2.out.r (n := d.length) rfl HL.out).mono ?_
  rintro e W3 ⟨a2, c2, rfl, hV2, hb3⟩
  have D3 := Lib.hid (D2.out.keep hb3)
  have B3 := Lib.hid (B2.out.trans (hb3.mono B2.out.size))
  have V12 := Lib.hid (V1.out.keep hb3)
  have V2 := Lib.hid hV2
  clear hV2 hb3 D2 B2 V1
  go_wp2_with fail
  refine (equalI_same V12.out V2.out HGR.out.2.2.1).mono ?_
  rintro e W4 ⟨rfl, hb4⟩
  have D0 := Lib.hid (D3.out.keep hb4)
  have B0 := Lib.hid (B3.out.trans (hb4.mono B3.out.size))
  clear hb4 D3 B3 V12 V2
  go_wp2_with fail
  refine (of_st D0.out.s g HL.out).mono ?_
  rintro e W2 ⟨a1, c1, rfl, hV1, _, hb2⟩
  have D2 := Lib.hid (D0.out.keep hb2)
  have B2 := Lib.hid (B0.out.trans (hb2.mono B0.out.size))
  have V1 := Lib.hid hV1
  clear hV1 hb2 D0 B0
  go_wp2_with fail
  refine (rof_st D2.out.r g HL.out).mono ?_
  rintro e W3 ⟨a2, c2, rfl, hV2, hb3⟩
  have B3 := Lib.hid (B2.out.trans (hb3.mono B2.out.size))
  have V12 := Lib.hid (V1.out.keep hb3)
  have V2 := Lib.hid hV2
  clear hV2 hb3 D2 B2 V1
  go_wp2_with fail
  refine (equalR_same V12.out V2.out HGR.out.2.2.2).mono ?_
  rintro e W4 ⟨rfl, hb4⟩
  have B4 := Lib.hid (B3.out.trans (hb4.mono B3.out.size))
  clear hb4 B3 V12 V2
  go_wp2_with fail
  go_ret
  exact ⟨rfl, B4.out⟩
end
section
open Go.RowKit

set_option maxHeartbeats 1000000 in
theorem rnew_yes (n : Int) (hn : 1 ≤ n ∧ n < 8) (w : World) :
    Calls Tryd.prog 33 #[.int .i64 n] w fun e w' => ∃ C, e = .returned (.tuple #[.pointer (some ⟨C, 0, none⟩), .int .i64 0]) ∧ w.heap.size ≤ C ∧ RM w' C [⟨⟨#[]⟩, ⟨#[]⟩, n, 1⟩] ∧ Below w.heap.size w w' := by
  have G := Lib.hid (fun W => rgroup_any n W)
  rw [decide_eq_true hn] at G
  have P := Lib.hid (Whole.new w 103 #[.string ⟨#[]⟩, .string ⟨#[]⟩, .int .i64 n, .int .i64 1])
  have M := Lib.hid (Whole.new (w.alloc (.cells #[.string ⟨#[]⟩, .string ⟨#[]⟩, .int .i64 n, .int .i64 1] 103)) 106 #[.bool true, .slice (some ⟨w.heap.size, 0, none⟩) 1 1])
  have B := Lib.hid (((Below.refl w.heap.size w).alloc (Nat.le_refl _) (.cells #[.string ⟨#[]⟩, .string ⟨#[]⟩, .int .i64 n, .int .i64 1] 103)).alloc (by simp) (.cells #[.bool true, .slice (some ⟨w.heap.size, 0, none⟩) 1 1] 106))
  clear hn
  go_enter Tryd.func33, Tryd.ntmps33
  go_wp2_with (go_at_call 51; refine (G.out _).mono ?_; rintro e w1 ⟨rfl, rfl⟩)
  go_ret2
  refine ⟨w.heap.size + 1, rfl, by omega, ⟨w.heap.size, 1, ?_, fun i p hi => ?_, Nat.le_refl _⟩, B.out⟩
  · have := M.out; simpa using this
  · have P2 := P.out.alloc (.cells #[.bool true, .slice (some ⟨w.heap.size, 0, none⟩) 1 1] 106)
    match i with
    | 0 => cases hi; exact ⟨P2.cell 0, P2.cell 1, P2.cell 2, P2.cell 3⟩
    | i + 1 => cases hi
set_option maxHeartbeats 1000000 in
theorem rnew_no (n : Int) (hn : ¬ (1 ≤ n ∧ n < 8)) (w : World) :
    Calls Tryd.prog 33 #[.int .i64 n] w fun e w' => e = .returned (.tuple #[.pointer none, .int .i64 2]) ∧ w = w' := by
  have G := Lib.hid (fun W => rgroup_any n W)
  rw [decide_eq_false hn] at G
  clear hn
  go_enter Tryd.func33, Tryd.ntmps33
  go_wp2_with (go_at_call 51; refine (G.out _).mono ?_; rintro e w1 ⟨rfl, rfl⟩)
  go_ret2
  exact ⟨rfl, rfl⟩
/-- A slice that holds steps. -/
def SlS (w : World) (x : Option Addr) (l : List ((ByteArray × ByteArray) × Int × Bool)) : Prop :=
  ∀ (i : Nat) (p : (ByteArray × ByteArray) × Int × Bool), l[i]? = some p → p.1.1.size ≤ 9223372036854775807 ∧ p.1.2.size ≤ 9223372036854775807 ∧ ∃ a, x = some a ∧ w.cell? (a.add (i * 4)) = some (.string p.1.1) ∧ w.cell? ⟨(a.add (i * 4)).block, (a.add (i * 4)).off + 1, none⟩ = some (.string p.1.2) ∧
    w.cell? ⟨(a.add (i * 4)).block, (a.add (i * 4)).off + 2, none⟩ = some (.int .i64 p.2.1) ∧ w.cell? ⟨(a.add (i * 4)).block, (a.add (i * 4)).off + 3, none⟩ = some (.bool p.2.2)
theorem SlS.keep {w w' : World} {x : Option Addr} {l : List ((ByteArray × ByteArray) × Int × Bool)} (h : SlS w x l) (hb : Below w.heap.size w w') : SlS w' x l := fun i p hi => by
  obtain ⟨h1, h2, a, ha, c0, c1, c2, c3⟩ := h i p hi
  have k0 : (a.add (i * 4)).block < w.heap.size := lt_of_cellR c0
  have e : ∀ (q : Addr), q.block = (a.add (i * 4)).block → w'.cell? q = w.cell? q := fun q hq => World.cell?_of_block (hb.block q.block (by rw [hq]; exact k0))
  exact ⟨h1, h2, a, ha, (e _ rfl).trans c0, (e ⟨_, _, none⟩ rfl).trans c1, (e ⟨_, _, none⟩ rfl).trans c2, (e ⟨_, _, none⟩ rfl).trans c3⟩
def SomeB (e : Ending) : Prop := ∃ b, e = .returned (.bool b)
set_option maxRecDepth 100000 in
set_option maxHeartbeats 2000000 in
theorem few_any (x : Option Addr) (n c : Nat) (l : List ((ByteArray × ByteArray) × Int × Bool)) (w : World) (hl : l.length = n) (hn : n ≤ 9223372036854775807) (h : SlS w x l) :
    Calls Tryd.prog 32 #[.slice x n c] w fun e w' => SomeB e ∧ Below w.heap.size w w' := by
  have H := Lib.hid h
  have HL := Lib.hid hl
  clear h hl
  go_enter Tryd.func32, Tryd.ntmps32
  go_wp2_with fail
  go_loopw [3, 8] (fun z i wr => ∃ (k : Nat) (m : Int), k ≤ n ∧ i = .int .i64 k ∧ z = .int .i64 m ∧ Hid (Below w.heap.size w wr)) (fun _ i _ => n - (intOf i).toNat)
  case atStart => exact ⟨0, 0, Nat.zero_le _, rfl, rfl, Lib.hid (Below.refl _ _)⟩
  case round =>
    obtain ⟨k, m, hk, rfl, rfl, B⟩ := hrel
    by_cases hlt : k < n
    · obtain ⟨⟨⟨a, b⟩, g, q⟩, hp⟩ : ∃ p, l[k]? = some p := ⟨_, List.getElem?_eq_getElem (show k < l.length by rw [HL.out]; exact hlt)⟩
      obtain ⟨_, _, p, rfl, c0, c1, c2, c3⟩ := (H.out.keep B.out) k _ hp
      have hki : (k : Int) < n := by omega
      have B2 := Lib.hid (B.out.alloc B.out.size (.cells #[.string a, .string b, .int .i64 g, .bool q] 68))
      dsimp only at c0 c1 c2 c3
      clear hp
      go_wp2_with fail
      go_roundw
      case rel => exact ⟨k + 1, _, by omega, by go_num, rfl, B2⟩
      case measure => simp [intOf]; omega
    · obtain rfl : k = n := by omega
      clear H HL hlt
      by_cases h8 : k ≤ 80
      · have h80 : (k : Int) ≤ 80 := by omega
        go_wp2_with fail
        go_ret
        exact ⟨⟨_, rfl⟩, B.out⟩
      · have h80 : ¬ (k : Int) ≤ 80 := by omega
        have h81 : decide ((k : Int) ≤ 80) = false := decide_eq_false h80
        go_wp2_with fail
        go_ret
        exact ⟨⟨_, rfl⟩, B.out⟩
end
section
open Go.RowKit

theorem own_zero (w : World) : (w.alloc (.cells #[] 103)).ownsRow w.heap.size 103 4 (.slice (some ⟨w.heap.size, 0, none⟩) 0 0) 0 [] :=
  ⟨rfl, Or.inr ⟨w.heap.size, 0, #[], rfl, Nat.le_refl _, heap_alloc_new w _, Nat.le_refl _, Nat.zero_le _, rfl, rfl⟩⟩
set_option maxRecDepth 100000 in
set_option maxHeartbeats 2000000 in
theorem rcopy_any (C : Nat) (d : List Pt) (w : World) (h : RM w C d) (hd : d.length ≤ 900) (hne : d ≠ []) :
    Calls Tryd.prog 34 #[.pointer (some ⟨C, 0, none⟩)] w fun e w' => ∃ C', e = .returned (.pointer (some ⟨C', 0, none⟩)) ∧ w.heap.size ≤ C' ∧ RM w' C' d ∧ Below w.heap.size w w' := by
  have M := Lib.hid (valid_any C d w h)
  obtain ⟨g, cap, h1, hc, hcap⟩ := h
  have c0 := (h1.cell 1).trans (show _ = some (Value.slice (some ⟨g, 0, none⟩) d.length cap) from rfl)
  have c := cell_al (.cells #[] 103) c0
  have al := (Below.refl w.heap.size w).alloc (Nat.le_refl _) (.cells #[] 103)
  have hc1 := hc.keep al
  obtain ⟨v', w', hrun, hown, hgr, _⟩ := run_app_rp _ w.heap.size _ 0 [] (own_zero w) ⟨g, 0, none⟩ d.length cap (flatP d) (flatP_len d) (fun j u hj => by rw [add_off]; exact cells_flatP hc1 j u hj) (flatP_one d) (by omega) al.size
  obtain ⟨a, cap2, gl, rfl, ha, hcl, hcap2⟩ := rows_own (d := d) (by simpa using hown) (by simp)
  obtain ⟨ha', hgl⟩ := ha hne
  subst ha'
  have R := Lib.hid hrun
  have BW := Lib.hid (al.grown hgr al.size (fun q e => by cases e; exact Nat.le_refl _))
  have HCL := Lib.hid hcl
  have HCP := Lib.hid hcap2
  clear h1 hc hcap c0 hc1 hrun hown hgr al hcl hcap2 ha hgl
  go_enter Tryd.func34, Tryd.ntmps34
  go_wp2_with (first | (go_at_call 52; refine M.out.mono ?_; rintro e w1 ⟨rfl, rfl⟩) | (at_builtin; refine wpList_append_run rfl (.tmp 6) (.tmp 10) 104 rfl rfl rfl R.out ?_))
  go_ret
  exact ⟨w'.heap.size, rfl, BW.out.size, ⟨gl, cap2, Whole.new w' 106 #[.bool true, .slice (some ⟨gl, 0, none⟩) d.length cap2], HCL.out.keep ((Below.refl _ _).alloc (Nat.le_refl _) _), HCP.out⟩, BW.out.alloc BW.out.size _⟩
end
section
open Go.RowKit

section
variable {w W W' : World} {B C B' C' : Nat} {d d1 d' : List Pt}
theorem St.byRef {w W W' : World} {B C : Nat} {d d' : List Pt} (S : St w W B d) (T : RM W C d') (hC : w.heap.size ≤ C) (hne : B ≠ C) (hg : W.grownBy W' (some C)) : St w W' B d :=
  ⟨S.m.byRef T hne hg, S.b.grown hg S.b.size (fun q e => by cases e; exact hC), S.h⟩
/-- A pair that stays where another one moves. -/
theorem Duo.other1 (h : Duo w W B' C' d' d') (T : St w W B d) (h1 : B' ≠ B) (h2 : C' ≠ B) (hg : W.grownBy W' (some B)) : Duo w W' B' C' d' d' := by
  obtain ⟨v, hv, _⟩ := T.m
  exact ⟨h.s.other T h1 hg, h.r.byBox h.g.ne hv h2 hg, h.h, h.ne, h.g, h.g1⟩
theorem Duo.other2 (h : Duo w W B' C' d' d') (T : RM W C d) (hC : w.heap.size ≤ C) (h1 : B' ≠ C) (h2 : C' ≠ C) (hg : W.grownBy W' (some C)) : Duo w W' B' C' d' d' :=
  ⟨h.s.byRef T hC h1 hg, h.r.byRef h.g.ne T h2 hg, h.h, h.ne, h.g, h.g1⟩
end
theorem duo_mv1 {w W : World} {B C : Nat} {d : List Pt} (D : Duo w W B C d d) (x y : ByteArray) (g : Int) (hx : x.size ≤ 9223372036854775807) (hy : y.size ≤ 9223372036854775807) :
    Calls Tryd.prog 15 #[.pointer (some ⟨B, 0, none⟩), .agg #[.string x, .string y], .int .i64 g] W fun e W' => e = .returned (.tuple #[.int .i64 (moveV d x y g).1, .int .i64 (moveV d x y g).2.1]) ∧ Duo w W' B C d (moveV d x y g).2.2 ∧ W.grownBy W' (some B) := by
  obtain ⟨v, hv, _⟩ := D.s.m
  refine (move_st D.s x y g D.g.sm D.g.l (fun p hp => (D.g.b p hp).2.2) hx hy rfl).mono ?_
  rintro e W' ⟨h1, h2, h3⟩
  exact ⟨h1, ⟨h2, D.r.byBox D.g.ne hv D.ne h3, D.h, D.ne, D.g, D.g.move x y g⟩, h3⟩
theorem rmove_any {W : World} {C : Nat} {d : List Pt} (h : RM W C d) (G : Good d) (x y : ByteArray) (g : Int) (hx : x.size ≤ 9223372036854775807) (hy : y.size ≤ 9223372036854775807) :
    Calls Tryd.prog 35 #[.pointer (some ⟨C, 0, none⟩), .agg #[.string x, .string y], .int .i64 g] W fun e W' => e = .returned (.tuple #[.int .i64 (moveV d x y g).1, .int .i64 (moveV d x y g).2.1]) ∧ RM W' C (moveV d x y g).2.2 ∧ W.grownBy W' (some C) := by
  have no : ∀ er, ((okR x y = false ∧ er = 2) ∨ (okR x y = true ∧ ¬ (1 ≤ g ∧ g < 8) ∧ er = 2) ∨ (okR x y = true ∧ (1 ≤ g ∧ g < 8) ∧ ((ownerV d x y).2.1 = false ∨ (ownerV d x y).1 = g) ∧ er = 9)) → moveV d x y g = (0, er, d) →
      Calls Tryd.prog 35 #[.pointer (some ⟨C, 0, none⟩), .agg #[.string x, .string y], .int .i64 g] W fun e W' => e = .returned (.tuple #[.int .i64 (moveV d x y g).1, .int .i64 (moveV d x y g).2.1]) ∧ RM W' C (moveV d x y g).2.2 ∧ W.grownBy W' (some C) := fun er hc hv => by
    rw [hv]
    refine (rmove_no C d x y g er W h G hx hy hc).mono ?_
    rintro e W' ⟨h1, h2⟩
    exact ⟨h1, h.keep h2, below_row h2⟩
  cases hr : okR x y with
  | false =>
    refine no 2 (Or.inl ⟨hr, rfl⟩) ?_
    rw [ref_stay (Or.inl (by rw [owner_bad G.ne hr]; decide)), owner_bad G.ne hr]; rfl
  | true =>
    obtain ⟨o, b, hv⟩ := owner_zero G.ne hr
    by_cases hg : 1 ≤ g ∧ g < 8
    · by_cases hs : b = false ∨ o = g
      · refine no 9 (Or.inr (Or.inr ⟨hr, hg, by rw [hv]; exact hs, rfl⟩)) ?_
        rw [ref_stay (Or.inr (Or.inr (by rw [hv]; exact hs))), hv, if_neg (show ¬ ((0 : Int) ≠ 0) by decide), if_neg (by simp; omega)]
      · have hb : b = true := by
          cases b with
          | true => rfl
          | false => exact absurd (Or.inl rfl) hs
        subst hb
        exact rmove_yes C d x y g o W h G hx hy hr hg hv (fun e => hs (Or.inr e))
    · refine no 2 (Or.inr (Or.inl ⟨hr, hg, rfl⟩)) ?_
      rw [ref_stay (Or.inr (Or.inl hg)), hv, if_neg (show ¬ ((0 : Int) ≠ 0) by decide), if_pos hg]
theorem duo_mv2 {w W : World} {B C : Nat} {d : List Pt} (x y : ByteArray) (g : Int) (D : Duo w W B C d (moveV d x y g).2.2) (hx : x.size ≤ 9223372036854775807) (hy : y.size ≤ 9223372036854775807) :
    Calls Tryd.prog 35 #[.pointer (some ⟨C, 0, none⟩), .agg #[.string x, .string y], .int .i64 g] W fun e W' => e = .returned (.tuple #[.int .i64 (moveV d x y g).1, .int .i64 (moveV d x y g).2.1]) ∧ Duo w W' B C (moveV d x y g).2.2 (moveV d x y g).2.2 ∧ W.grownBy W' (some C) := by
  refine (rmove_any D.r D.g x y g hx hy).mono ?_
  rintro e W' ⟨h1, h2, h3⟩
  exact ⟨h1, ⟨D.s.byRef D.r D.h (Ne.symm D.ne) h3, h2, D.h, D.ne, D.g1, D.g1⟩, h3⟩
/-- The older pair, if there is one. -/
def Old (w W : World) (B C : Nat) (ov wv : Value) : Prop := (ov = .pointer none ∧ wv = .pointer none) ∨ ∃ B' C' d', ov = .pointer (some ⟨B', 0, none⟩) ∧ wv = .pointer (some ⟨C', 0, none⟩) ∧ Duo w W B' C' d' d' ∧ B' ≠ B ∧ C' ≠ B ∧ B' ≠ C ∧ C' ≠ C
section
variable {w W W' : World} {B C : Nat} {d d1 : List Pt} {ov wv : Value}
theorem Old.keep (h : Old w W B C ov wv) (hb : Below W.heap.size W W') : Old w W' B C ov wv := by
  rcases h with h | ⟨B', C', d', h1, h2, h3, h4⟩
  · exact Or.inl h
  · exact Or.inr ⟨B', C', d', h1, h2, h3.keep hb, h4⟩
theorem Old.mv1 (h : Old w W B C ov wv) (T : St w W B d) (hg : W.grownBy W' (some B)) : Old w W' B C ov wv := by
  rcases h with h | ⟨B', C', d', h1, h2, h3, h4, h5, h6, h7⟩
  · exact Or.inl h
  · exact Or.inr ⟨B', C', d', h1, h2, h3.other1 T h4 h5 hg, h4, h5, h6, h7⟩
theorem Old.mv2 (h : Old w W B C ov wv) (T : RM W C d) (hC : w.heap.size ≤ C) (hg : W.grownBy W' (some C)) : Old w W' B C ov wv := by
  rcases h with h | ⟨B', C', d', h1, h2, h3, h4, h5, h6, h7⟩
  · exact Or.inl h
  · exact Or.inr ⟨B', C', d', h1, h2, h3.other2 T hC h6 h7 hg, h4, h5, h6, h7⟩
end
end
section
open Go.RowKit

theorem whole_apart2 {w : World} {b b' : Nat} {t t' : TypeId} {cs cs' : Array Value} (h : Whole w b t cs) (h' : Whole w b' t' cs') (ht : t ≠ t') : b ≠ b' := by
  rintro rfl
  have e := (show w.heap[b]? = _ from h).symm.trans (show w.heap[b]? = _ from h')
  injection e with e
  injection e with _ e2 _
  exact ht e2
theorem RM.apart {w : World} {C b : Nat} {d : List Pt} {t : TypeId} {cs : Array Value} (h : RM w C d) (h' : Whole w b t cs) (ht : t ≠ 106) : b ≠ C := by
  obtain ⟨g, cap, h1, _⟩ := h
  exact whole_apart2 h' h1 ht
theorem below_works {w W : World} (h : Below w.heap.size w W) : Calls Tryd.prog 21 #[] W fun e W' => e = .returned (.bool true) ∧ Below w.heap.size w W' := by
  refine (works_any W).mono ?_
  rintro e W' ⟨rfl, hb⟩
  exact ⟨rfl, h.trans (hb.mono h.size)⟩
set_option maxRecDepth 100000 in
set_option maxHeartbeats 16000000 in
theorem routePlays_any (first : Int) (x : Option Addr) (n c : Nat) (l : List ((ByteArray × ByteArray) × Int × Bool)) (key : ByteArray) (w : World) (hl : l.length = n) (hn : n ≤ 9223372036854775807) (h : SlS w x l) (hk : key.size ≤ 9223372036854775807) :
    Calls Tryd.prog 8 #[.int .i64 first, .slice x n c, .string key] w fun e w' => e = .returned (.bool true) ∧ Below w.heap.size w w' := by
  have F := Lib.hid (few_any x n c l w hl hn h)
  have H := Lib.hid h
  have HL := Lib.hid hl
  clear h hl
  go_enter Tryd.func8, Tryd.ntmps8
  go_wp2_with fail
  refine F.out.mono ?_
  rintro e w1 ⟨⟨b, rfl⟩, hb1⟩
  have B1 := Lib.hid hb1
  clear hb1 F
  cases b with
  | false => as_aux_lemma =>
    go_wp2_with fail
    refine (below_works B1.out).mono ?_
    rintro e w2 ⟨rfl, hb2⟩
    have B2 := Lib.hid hb2
    clear hb2
    go_wp2_with fail
    go_ret
    exact ⟨rfl, B2.out⟩
  | true =>
    by_cases hk1 : key.size > 100
    · as_aux_lemma =>
      have hki : (key.size : Int) > 100 := by omega
      go_wp2_with fail
      refine (below_works B1.out).mono ?_
      rintro e w2 ⟨rfl, hb2⟩
      have B2 := Lib.hid hb2
      clear hb2
      go_wp2_with fail
      go_ret
      exact ⟨rfl, B2.out⟩
    · have hki : ¬ (key.size : Int) > 100 := by omega
      have HK := Lib.hid hk
      by_cases hf : 1 ≤ first ∧ first < 8
      · as_aux_lemma =>
        have HF := Lib.hid hf
        have HNN := Lib.hid hn
        clear hf hk hk1
        go_wp2_with fail
        refine (new_st first HF.out w _ B1.out).mono ?_
        rintro e w2 ⟨B, rfl, _, hS, _⟩
        have S2 := Lib.hid hS
        clear hS B1
        go_wp2_with fail
        refine (rnew_yes first HF.out _).mono ?_
        rintro e w3 ⟨C, rfl, hC, hR, hb3⟩
        have D3 : Hid (Duo w w3 B C [⟨⟨#[]⟩, ⟨#[]⟩, first, 1⟩] [⟨⟨#[]⟩, ⟨#[]⟩, first, 1⟩]) := Lib.hid ⟨S2.out.keep hb3, hR, Nat.le_trans S2.out.b.size hC, by have := S2.out.m.lt; omega, Good.one HF.out, Good.one HF.out⟩
        have O3 : Hid (Old w w3 B C (.pointer none) (.pointer none)) := Lib.hid (Or.inl ⟨rfl, rfl⟩)
        clear hC hR hb3 S2
        go_wp2_with fail
        clear hki
        go_loopw [7, 9, 11, 12, 53] (fun mv rv ov wv i wr => ∃ (k B C : Nat) (d : List Pt), k ≤ n ∧ i = .int .i64 k ∧ mv = .pointer (some ⟨B, 0, none⟩) ∧ rv = .pointer (some ⟨C, 0, none⟩) ∧ Hid (Duo w wr B C d d) ∧ Hid (Old w wr B C ov wv)) (fun _ _ _ _ i _ => n - (intOf i).toNat)
        case atStart => exact ⟨0, B, C, _, Nat.zero_le _, rfl, rfl, rfl, D3, O3⟩
        case round =>
          clear D3 O3
          obtain ⟨k, B, C, d, hkn, rfl, rfl, rfl, D, O⟩ := hrel
          by_cases hlt : k < n
          · as_aux_lemma =>
            obtain ⟨⟨⟨a, b⟩, g, q⟩, hp⟩ : ∃ p, l[k]? = some p := ⟨_, List.getElem?_eq_getElem (show k < l.length by rw [HL.out]; exact hlt)⟩
            obtain ⟨za, zb, p, rfl, c0, c1, c2, c3⟩ := (H.out.keep D.out.s.b) k _ hp
            have hki : (k : Int) < n := by omega
            have hwk : IntKind.i64.wrap ((k : Int) + 1) = (k : Int) + 1 := IntWalk.i64_in _ (by have := HNN.out; omega)
            dsimp only at za zb c0 c1 c2 c3
            have HZ := Lib.hid (And.intro za zb)
            have P0 := Lib.hid (Whole.new wr 68 #[.string a, .string b, .int .i64 g, .bool q])
            have al := (Below.refl wr.heap.size wr).alloc (Nat.le_refl _) (.cells #[.string a, .string b, .int .i64 g, .bool q] 68)
            have D0 := Lib.hid (D.out.keep al)
            have O0 := Lib.hid (O.out.keep al)
            have HL9 := Lib.hid (show d.length ≤ 900 by have := D.out.g.l; omega)
            have y3 := (P0.out.cell 3).trans (show _ = some (Value.bool q) from rfl)
            clear hp za zb al D O H HL
            go_upto_if 58 with fail
            clear c0 c1 c2 c3
            generalize wr.alloc (.cells #[.string a, .string b, .int .i64 g, .bool q] 68) = wp at P0 D0 O0 y3 ⊢
            generalize wr.heap.size = P at P0 y3 ⊢
            go_cut [7, 9, 11, 12] (fun mv rv ov wv wx => ∃ (B C : Nat), mv = .pointer (some ⟨B, 0, none⟩) ∧ rv = .pointer (some ⟨C, 0, none⟩) ∧ Hid (Duo w wx B C d d) ∧ Hid (Old w wx B C ov wv) ∧ Hid (Whole wx P 68 #[.string a, .string b, .int .i64 g, .bool q]))
            case first => as_aux_lemma =>
              cases q with
              | false =>
                go_wp2_with fail
                go_meet
                exact ⟨B, C, rfl, rfl, D0, O0, P0⟩
              | true =>
                go_wp2_with fail
                clear y3
                refine (copy_st D0.out.s HL9.out D0.out.g.ne).mono ?_
                rintro e w5 ⟨B2, rfl, _, hB2, hS5, _, hb5⟩
                have D5 := Lib.hid (D0.out.keep hb5)
                have S5 := Lib.hid hS5
                have P5 := Lib.hid (P0.out.below hb5 P0.out.lt)
                have HBB := Lib.hid (show B < B2 ∧ C < B2 by have := D0.out.s.m.lt; have := D0.out.r.lt; omega)
                clear hB2 hS5 hb5 D0 P0 O0
                go_wp2_with fail
                refine (rcopy_any C d _ D5.out.r HL9.out D5.out.g.ne).mono ?_
                rintro e w6 ⟨C2, rfl, hC2, hR6, hb6⟩
                have D6 := Lib.hid (D5.out.keep hb6)
                have hlt1 := D5.out.s.m.lt
                have hlt2 := D5.out.r.lt
                have hlt3 := S5.out.m.lt
                have hsz := D5.out.s.b.size
                have N6 : Hid (Duo w w6 B2 C2 d d) := Lib.hid ⟨S5.out.keep hb6, hR6, by omega, by omega, D5.out.g, D5.out.g⟩
                have O6 : Hid (Old w w6 B2 C2 (.pointer (some ⟨B, 0, none⟩)) (.pointer (some ⟨C, 0, none⟩))) := Lib.hid (Or.inr ⟨B, C, d, rfl, rfl, D6.out, by have := HBB.out; omega, by have := HBB.out; omega, by omega, by omega⟩)
                have P6 := Lib.hid (P5.out.below hb6 P5.out.lt)
                clear hC2 hR6 hb6 D6 D5 S5 P5 HBB hlt1 hlt2 hlt3 hsz
                go_wp2_with fail
                go_meet
                exact ⟨B2, C2, rfl, rfl, N6, O6, P6⟩
            case rest =>
              obtain ⟨B, C, rfl, rfl, D, O, P0⟩ := hcut
              clear y3 D0 O0
              generalize wc = w4 at D O P0 ⊢
              have y0 := (P0.out.cell 0).trans (show _ = some (Value.string a) from rfl)
              have y1 := (P0.out.cell 1).trans (show _ = some (Value.string b) from rfl)
              have y2 := (P0.out.cell 2).trans (show _ = some (Value.int .i64 g) from rfl)
              go_wp2_with fail
              clear y0 y1 y2
              refine (duo_mv1 D.out a b g HZ.out.1 HZ.out.2).mono ?_
              rintro e w5 ⟨rfl, hD5, hg5⟩
              have P5 := Lib.hid (P0.out.other (type_apart D.out.s.m (by decide) P0.out) hg5)
              have O5 := Lib.hid (O.out.mv1 D.out.s hg5)
              have D5 := Lib.hid hD5
              have y0 := (P5.out.cell 0).trans (show _ = some (Value.string a) from rfl)
              have y1 := (P5.out.cell 1).trans (show _ = some (Value.string b) from rfl)
              have y2 := (P5.out.cell 2).trans (show _ = some (Value.int .i64 g) from rfl)
              clear hD5 hg5 D O P0
              go_wp2_with fail
              clear y0 y1 y2
              refine (duo_mv2 a b g D5.out HZ.out.1 HZ.out.2).mono ?_
              rintro e w6 ⟨rfl, hD6, hg6⟩
              have P6 := Lib.hid (P5.out.other (D5.out.r.apart P5.out (by decide)) hg6)
              have O6 := Lib.hid (O5.out.mv2 D5.out.r D5.out.h hg6)
              have D6 := Lib.hid hD6
              have y0 := (P6.out.cell 0).trans (show _ = some (Value.string a) from rfl)
              have y1 := (P6.out.cell 1).trans (show _ = some (Value.string b) from rfl)
              have y2 := (P6.out.cell 2).trans (show _ = some (Value.int .i64 g) from rfl)
              clear hD6 hg6 D5 O5 P5
              generalize (moveV d a b g).1 = v1
              generalize (moveV d a b g).2.1 = v2
              generalize (moveV d a b g).2.2 = d2 at D6
              go_wp2_with fail
              clear y0 y1 y2
              refine (shows_any D6.out key a b g HK.out HZ.out.1 HZ.out.2).mono ?_
              rintro e w7 ⟨rfl, hb7⟩
              have P7 := Lib.hid (P6.out.below hb7 P6.out.lt)
              have O7 := Lib.hid (O6.out.keep hb7)
              have D7 := Lib.hid (D6.out.keep hb7)
              have y0 := (P7.out.cell 0).trans (show _ = some (Value.string a) from rfl)
              have y1 := (P7.out.cell 1).trans (show _ = some (Value.string b) from rfl)
              clear hb7 D6 O6 P6
              go_wp2_with fail
              clear y0 y1
              refine (shows_any D7.out a a b 1 HZ.out.1 HZ.out.1 HZ.out.2).mono ?_
              rintro e w8 ⟨rfl, hb8⟩
              have P8 := Lib.hid (P7.out.below hb8 P7.out.lt)
              have D8 := Lib.hid (D7.out.keep hb8)
              have hO8 := O7.out.keep hb8
              have y0 := (P8.out.cell 0).trans (show _ = some (Value.string a) from rfl)
              have y1 := (P8.out.cell 1).trans (show _ = some (Value.string b) from rfl)
              have y2 := (P8.out.cell 2).trans (show _ = some (Value.int .i64 g) from rfl)
              clear hb8 D7 O7 P7
              have O8 := Lib.hid hO8
              rcases hO8 with ⟨rfl, rfl⟩ | ⟨B', C', d', rfl, rfl, hD', _⟩
              · as_aux_lemma =>
                go_wp2_with fail
                go_roundw
                case rel => exact ⟨k + 1, B, C, d2, by omega, by go_num, rfl, rfl, D8, O8⟩
                case measure => simp [intOf]; omega
              · as_aux_lemma =>
                have DD := Lib.hid hD'
                clear hD'
                go_wp2_with fail
                clear y0 y1 y2
                refine (shows_any DD.out key a b g HK.out HZ.out.1 HZ.out.2).mono ?_
                rintro e w9 ⟨rfl, hb9⟩
                have D9 := Lib.hid (D8.out.keep hb9)
                have O9 := Lib.hid (O8.out.keep hb9)
                clear hb9 D8 O8 DD P8
                go_wp2_with fail
                go_roundw
                case rel => exact ⟨k + 1, B, C, d2, by omega, by go_num, rfl, rfl, D9, O9⟩
                case measure => simp [intOf]; omega
          · as_aux_lemma =>
            obtain rfl : k = n := by omega
            clear H HL HNN hlt hn
            go_wp2_with fail
            refine (shows_any D.out key key ⟨#[]⟩ first HK.out HK.out (by decide)).mono ?_
            rintro e w5 ⟨rfl, hb5⟩
            have D5 := Lib.hid (D.out.keep hb5)
            clear hb5 D O
            go_wp2_with fail
            refine (works_st D5.out.s).mono ?_
            rintro e w6 ⟨rfl, hb6⟩
            have B6 := Lib.hid hb6
            clear hb6 D5
            go_wp2_with fail
            go_ret
            exact ⟨rfl, B6.out⟩
      · as_aux_lemma =>
        have HF := Lib.hid hf
        clear hf hk hk1
        go_wp2_with fail
        refine (new_err first HF.out _).mono ?_
        rintro e w2 ⟨rfl, hb2⟩
        have B2 := Lib.hid (B1.out.trans (hb2.mono B1.out.size))
        clear hb2 B1
        go_wp2_with (go_at_call 33; refine (rnew_no first HF.out _).mono ?_; rintro e w3 ⟨rfl, rfl⟩)
        refine (below_works B2.out).mono ?_
        rintro e w4 ⟨rfl, hb4⟩
        have B4 := Lib.hid hb4
        clear hb4 B2
        go_wp2_with fail
        go_ret
        exact ⟨rfl, B4.out⟩
end
section
open Go.ChangeShapes Go.WideShapes Go.ChangeAt Go.RowKit

abbrev laidL : List (String × DataW Unit) := Rows.routeNilRow.laid

theorem own : ownKnob Tryd.prog.godebug = none := by kernel_rfl

/-- A world for the witness. -/
noncomputable def laidWorld (os : Os) : World := World.laidAll Tryd.prog os laidL
theorem laid_met (os : Os) (args : Array Value) : laidMetH Tryd.prog laidL ((laidWorld os).forCall (fun _ _ => 0) ⟨#[], args, []⟩).memory := by
  rw [MakeChecks.laidMetH_plain _ _ _ (by kernel_rfl)]
  exact laidMet_laidAll args (by kernel_rfl) (by kernel_rfl)

theorem kids : Kids Tryd.prog (· < Tryd.prog.types.size) := kids_rows (by kernel_rfl) (by kernel_rfl)
theorem full : ∀ t e, t < Tryd.prog.types.size → Tryd.prog.underlying t = some (.slice e) → 0 < Tryd.prog.cellsOf e := slices_full_of _ (by kernel_rfl)

theorem carryAll {H : Type} {enc : TypeId × Value → H} {P : Program} {W W' : World} {b : Nat} {sp : Nat → Bool} {hd : Bool} : ∀ {ts : List TypeId} {vs : List Value} {ds : List (DataW H)} {ps : List MemPlace},
    DataW.TrodAll enc P W b sp hd ts vs ds ps → (∀ p ∈ ps, W.sameAt W' p) → DataW.TrodAll enc P W' b sp hd ts vs ds ps
  | [], [], [], _, h, _ => h
  | _ :: _, _ :: _, _ :: _, _, ⟨p, q, ⟨n, h1⟩, h2, e⟩, hs =>
    ⟨p, q, ⟨n, DataW.trod_carry n _ _ _ h1 (fun x hx => hs x (by rw [e]; exact List.mem_append_left _ hx))⟩, carryAll h2 (fun x hx => hs x (by rw [e]; exact List.mem_append_right _ hx)), e⟩

theorem cell_intP {P : Program} {W : World} {r : Reach} {b : Nat} {t : TypeId} {v : Value} (ht : P.underlying t = some (.int .i64)) (h : Cell.okWide P W r b t v) : ∃ n : Int, v = .int .i64 n ∧ -9223372036854775808 ≤ n ∧ n ≤ 9223372036854775807 := by
  simp only [Cell.okWide, ht] at h
  have hv : ∃ n : Int, v = .int .i64 n ∧ IntKind.i64.has n := by cases v <;> simp_all [Cell.ok]
  obtain ⟨n, rfl, h1⟩ := hv
  have e1 : IntKind.i64.min = -9223372036854775808 := by decide
  have e2 : IntKind.i64.max = 9223372036854775807 := by decide
  unfold IntKind.has at h1
  rw [e1, e2] at h1
  exact ⟨n, rfl, h1⟩
theorem cell_boolP {P : Program} {W : World} {r : Reach} {b : Nat} {t : TypeId} {v : Value} (ht : P.underlying t = some .bool) (h : Cell.okWide P W r b t v) : ∃ n : Bool, v = .bool n := by
  simp only [Cell.okWide, ht] at h
  cases v <;> simp_all [Cell.ok]
set_option maxRecDepth 100000 in
theorem row_cellsF {W : World} {r : Reach} {b : Nat} {t : TypeId} {v : Value} {fs : Array Field} {ts : List TypeId} (ht : Tryd.prog.underlying t = some (.struct fs)) (hts : Tryd.prog.cellTypes Tryd.prog.depth t = some ts) (hC : Tryd.prog.cellsOf t = ts.length)
    (h : Value.okWide Tryd.prog W r b t v) : ∃ cs : Array Value, v = .agg cs ∧ cs.size = ts.length ∧ ∀ i (hi : i < ts.length) w, cs[i]? = some w → Cell.okWide Tryd.prog W r b ts[i] w := by
  simp only [Value.okWide, ht] at h
  obtain ⟨cs, rfl, hsz, ts', h1, _, h3⟩ := h
  obtain rfl := Option.some.inj (hts.symm.trans h1)
  refine ⟨cs, rfl, hsz.trans hC, fun i hi w hw => ?_⟩
  obtain ⟨u, hu, hk⟩ := h3 i w hw
  rw [Nat.mod_eq_of_lt hi, List.getElem?_eq_getElem hi] at hu
  obtain rfl := Option.some.inj hu
  exact hk

/-- WHAT A LAW ANSWERS that returned true and kept what lay. -/
theorem post_law {H : Type} {enc : TypeId × Value → H} {f : Func} {s : ChangeSpec} {W W' : World} {args : Array Value} {ds gs : List (DataW H)} {before : List MemPlace}
    (hv : s.vars = []) (hrt : f.resultTypes = #[4]) (hts : ∀ t ∈ f.params.toList, t < Tryd.prog.types.size)
    (hW : DataW.Whole enc Tryd.prog f.params.toList s.vars false W args.toList ds gs before)
    (hfn : s.fn H ds = { results := [.lit (.bool true)], args := ds }) (hb : Below W.heap.size W W') :
    s.post enc Tryd.prog f false true false false W args (.bool true) W' := by
  have hW' := hW
  have hlt := hW.lt
  obtain ⟨p, q, hA, hV, rfl, hfz, hnd⟩ := hW
  rw [hv] at hV
  obtain ⟨rfl, rfl⟩ := trodVars_none hV
  refine ⟨ds, [], p ++ [], [], p, [], hW', ?_, ?_, ?_, hb.frame _, fun h => by cases h⟩
  · rw [List.append_nil, hfn, hrt]
    exact trodAll_mk1 (shut_bool Tryd.underlying4 _)
  · rw [List.append_nil, hfn]
    have h1 : DataW.TrodAll enc Tryd.prog W 0 (fun b => decide (b < W.heap.size)) true f.params.toList args.toList ds p :=
      DataW.TrodAll.respare kids full hts hA (fun x hx => by simpa using hlt x (by simpa using hx))
    exact carryAll h1 (fun x hx => hb.same (hlt x (by simpa using hx)))
  · rw [hv, List.append_nil, hfn]
    rfl

theorem cell_strP {P : Program} {W : World} {r : Reach} {b : Nat} {t : TypeId} {v : Value} (ht : P.underlying t = some .string) (h : Cell.okWide P W r b t v) : ∃ s : ByteArray, v = .string s ∧ s.size ≤ 9223372036854775807 := by
  simp only [Cell.okWide, ht] at h
  have hv : ∃ s : ByteArray, v = .string s ∧ (s.size : Int) ≤ IntKind.i64.max := by cases v <;> simp_all [Cell.ok]
  obtain ⟨s, rfl, h1⟩ := hv
  rw [show IntKind.i64.max = 9223372036854775807 by decide] at h1
  exact ⟨s, rfl, by omega⟩
set_option maxRecDepth 100000 in
theorem open_rng {W : World} {r : Reach} {b : Nat} {v : Value} (h : Value.okWide Tryd.prog W r b 30 v) :
    ∃ x y : ByteArray, v = .agg #[.string x, .string y] ∧ x.size ≤ 9223372036854775807 ∧ y.size ≤ 9223372036854775807 := by
  obtain ⟨cs, rfl, hsz, hc⟩ := row_cellsF (ts := [9, 9]) Tryd.underlying30 (by kernel_rfl) (by kernel_rfl) h
  obtain ⟨l⟩ := cs
  match l, hsz with
  | [c0, c1], _ =>
    obtain ⟨x, rfl, hx⟩ := cell_strP Tryd.underlying9 (hc 0 (by decide) c0 rfl)
    obtain ⟨y, rfl, hy⟩ := cell_strP Tryd.underlying9 (hc 1 (by decide) c1 rfl)
    exact ⟨x, y, rfl, hx, hy⟩
theorem open_has {P : Program} {W : World} {r : Reach} {b : Nat} {t : TypeId} {v : Value} {k : IntKind} (ht : P.underlying t = some (.int k)) (h : Value.okWide P W r b t v) : ∃ n : Int, v = .int k n ∧ IntKind.min k ≤ n ∧ n ≤ IntKind.max k := by
  simp only [Value.okWide, Cell.okWide, ht] at h
  have hv : ∃ n : Int, v = .int k n ∧ IntKind.has k n := by cases v <;> simp_all [Cell.ok]
  obtain ⟨n, rfl, h1⟩ := hv
  exact ⟨n, rfl, h1⟩
theorem open_u32 {P : Program} {W : World} {r : Reach} {b : Nat} {t : TypeId} {v : Value} (ht : P.underlying t = some (.int .u32)) (h : Value.okWide P W r b t v) : ∃ n : Int, v = .int .u32 n ∧ 0 ≤ n ∧ n ≤ 4294967295 := by
  obtain ⟨n, h0, h1, h2⟩ := open_has ht h
  rw [show IntKind.u32.min = 0 by decide] at h1
  rw [show IntKind.u32.max = 4294967295 by decide] at h2
  exact ⟨n, h0, h1, h2⟩
theorem open_u16 {P : Program} {W : World} {r : Reach} {b : Nat} {t : TypeId} {v : Value} (ht : P.underlying t = some (.int .u16)) (h : Value.okWide P W r b t v) : ∃ n : Int, v = .int .u16 n ∧ 0 ≤ n ∧ n ≤ 65535 := by
  obtain ⟨n, h0, h1, h2⟩ := open_has ht h
  rw [show IntKind.u16.min = 0 by decide] at h1
  rw [show IntKind.u16.max = 65535 by decide] at h2
  exact ⟨n, h0, h1, h2⟩
theorem open_u8 {P : Program} {W : World} {r : Reach} {b : Nat} {t : TypeId} {v : Value} (ht : P.underlying t = some (.int .u8)) (h : Value.okWide P W r b t v) : ∃ n : Int, v = .int .u8 n ∧ 0 ≤ n ∧ n ≤ 255 := by
  obtain ⟨n, h0, h1, h2⟩ := open_has ht h
  rw [show IntKind.u8.min = 0 by decide] at h1
  rw [show IntKind.u8.max = 255 by decide] at h2
  exact ⟨n, h0, h1, h2⟩
theorem open_i64 {P : Program} {W : World} {r : Reach} {b : Nat} {t : TypeId} {v : Value} (ht : P.underlying t = some (.int .i64)) (h : Value.okWide P W r b t v) : ∃ n : Int, v = .int .i64 n ∧ -9223372036854775808 ≤ n ∧ n ≤ 9223372036854775807 := by
  obtain ⟨n, h0, h1, h2⟩ := open_has ht h
  rw [show IntKind.i64.min = -9223372036854775808 by decide] at h1
  rw [show IntKind.i64.max = 9223372036854775807 by decide] at h2
  exact ⟨n, h0, h1, h2⟩
theorem open_str {P : Program} {W : World} {r : Reach} {b : Nat} {t : TypeId} {v : Value} (ht : P.underlying t = some .string) (h : Value.okWide P W r b t v) : ∃ s : ByteArray, v = .string s ∧ s.size ≤ 9223372036854775807 := by
  simp only [Value.okWide, Cell.okWide, ht] at h
  have hv : ∃ s : ByteArray, v = .string s ∧ (s.size : Int) ≤ IntKind.i64.max := by cases v <;> simp_all [Cell.ok]
  obtain ⟨s, rfl, h1⟩ := hv
  rw [show IntKind.i64.max = 9223372036854775807 by decide] at h1
  exact ⟨s, rfl, by omega⟩
end
section
open Go.ChangeShapes Go.WideShapes Go.ChangeAt Go.RowKit Go.Deep

section
variable {H : Type} {enc : TypeId × Value → H} {w : World} {base : Nat} {spare : Nat → Bool} {held : Bool}
theorem cells3 {b : Nat} {a : Addr} {cs : List Value} (h : w.cells? b a 3 = some cs) : ∃ x y z, cs = [x, y, z] ∧ w.cell? a = some x ∧ w.cell? (a.add 1) = some y ∧ w.cell? (a.add 2) = some z := by
  obtain ⟨_, hl, hc⟩ := World.cells?_some h
  match cs, hl with
  | [x, y, z], _ => exact ⟨x, y, z, rfl, by have := hc 0 (by decide); rw [show a.add 0 = a by unfold Addr.add; simp] at this; exact this, hc 1 (by decide), hc 2 (by decide)⟩
theorem u8_wf {n : Int} (h : (Lit.int .u8 n).wf = true) : 0 ≤ n ∧ n < 256 := by
  simp only [Lit.wf, Bool.and_eq_true, decide_eq_true_eq] at h
  have e1 : IntKind.u8.min = 0 := by decide
  have e2 : IntKind.u8.max = 255 := by decide
  omega
set_option maxRecDepth 100000 in
theorem open_move {fuel : Nat} {x y z : Value} {q : DataW H × List MemPlace} (h : DataW.trod enc Tryd.prog w base spare held fuel 24 [x, y, z] = some q) :
    ∃ a b c : Nat, a < 256 ∧ b < 256 ∧ c < 256 ∧ x = .int .u8 (a : Int) ∧ y = .int .u8 (b : Int) ∧ z = .int .u8 (c : Int) := by
  obtain ⟨y0, y1, y2, n, _, _, h0, h1, h2⟩ := trod_struct3 Tryd.underlying24 h
  obtain ⟨a, ha, _, wa⟩ := DataW.trod_int Tryd.underlying5 h0
  obtain ⟨b, hb, _, wb⟩ := DataW.trod_int Tryd.underlying5 h1
  obtain ⟨c, hc, _, wc⟩ := DataW.trod_int Tryd.underlying5 h2
  have wa := u8_wf wa
  have wb := u8_wf wb
  have wc := u8_wf wc
  have hs : Tryd.prog.cellsOf 5 = 1 := by kernel_rfl
  rw [hs] at ha hb hc
  obtain ⟨a, rfl⟩ := Int.eq_ofNat_of_zero_le wa.1
  obtain ⟨b, rfl⟩ := Int.eq_ofNat_of_zero_le wb.1
  obtain ⟨c, rfl⟩ := Int.eq_ofNat_of_zero_le wc.1
  refine ⟨a, b, c, by omega, by omega, by omega, ?_, ?_, ?_⟩
  · simpa using ha
  · simpa using hb
  · simpa using hc
theorem cell_u8P {P : Program} {W : World} {r : Reach} {b : Nat} {t : TypeId} {v : Value} (ht : P.underlying t = some (.int .u8)) (h : Cell.okWide P W r b t v) : ∃ n : Nat, v = .int .u8 (n : Int) ∧ n < 256 := by
  simp only [Cell.okWide, ht] at h
  have hv : ∃ n : Int, v = .int .u8 n ∧ IntKind.u8.has n := by cases v <;> simp_all [Cell.ok]
  obtain ⟨n, rfl, h1⟩ := hv
  have e1 : IntKind.u8.min = 0 := by decide
  have e2 : IntKind.u8.max = 255 := by decide
  unfold IntKind.has at h1
  rw [e1, e2] at h1
  obtain ⟨n, rfl⟩ := Int.eq_ofNat_of_zero_le h1.1
  exact ⟨n, rfl, by omega⟩
set_option maxRecDepth 100000 in
theorem open_mv {W : World} {r : Reach} {b : Nat} {v : Value} (h : Value.okWide Tryd.prog W r b 24 v) :
    ∃ x y z : Nat, v = .agg #[.int .u8 (x : Int), .int .u8 (y : Int), .int .u8 (z : Int)] ∧ x < 256 ∧ y < 256 ∧ z < 256 := by
  obtain ⟨cs, rfl, hsz, hc⟩ := row_cellsF (ts := [5, 5, 5]) Tryd.underlying24 (by kernel_rfl) (by kernel_rfl) h
  obtain ⟨l⟩ := cs
  match l, hsz with
  | [c0, c1, c2], _ =>
    obtain ⟨x, rfl, hx⟩ := cell_u8P Tryd.underlying5 (hc 0 (by decide) c0 rfl)
    obtain ⟨y, rfl, hy⟩ := cell_u8P Tryd.underlying5 (hc 1 (by decide) c1 rfl)
    obtain ⟨z, rfl, hz⟩ := cell_u8P Tryd.underlying5 (hc 2 (by decide) c2 rfl)
    exact ⟨x, y, z, rfl, hx, hy, hz⟩
set_option maxRecDepth 100000 in
theorem open_sl {W : World} {r : Reach} {b : Nat} {v : Value} (h : Value.okWide Tryd.prog W r b 22 v) : ∃ a n c, v = .slice a n c := by
  simp only [Value.okWide, Cell.okWide, Tryd.underlying22] at h
  cases v <;> simp_all [Cell.ok]
set_option maxRecDepth 100000 in
theorem open_moves {fuel : Nat} {cs : List Value} {x : DataW H × List MemPlace} (h : DataW.trod enc Tryd.prog w base spare held fuel 22 cs = some x) :
    ∃ (a : Option Addr) (len cap : Nat) (l : List (Nat × Nat × Nat)), cs = [.slice a len cap] ∧ len ≤ cap ∧ l.length = len ∧ SlM w a l := by
  have hc : Tryd.prog.cellsOf 24 = 3 := by kernel_rfl
  rcases DataW.trod_slice Tryd.underlying22 h with ⟨rfl, _⟩ | ⟨a, len, cap, elems, rest, n, _, rfl, rfl, hb, hl, hm, hlen, hel, _, _⟩
  · exact ⟨none, 0, 0, [], rfl, Nat.le_refl _, rfl, fun i p hi => by simp at hi⟩
  · rw [hc] at hel
    have each : ∀ i, i < len → ∃ m : Nat × Nat × Nat, m.1 < 256 ∧ m.2.1 < 256 ∧ m.2.2 < 256 ∧ w.cell? (a.add (i * 3)) = some (.int .u8 (m.1 : Int)) ∧ w.cell? ((a.add (i * 3)).add 1) = some (.int .u8 (m.2.1 : Int)) ∧ w.cell? ((a.add (i * 3)).add 2) = some (.int .u8 (m.2.2 : Int)) := fun i hi => by
      have h1 := hel i hi
      rw [List.getElem?_eq_getElem (by omega), Option.bind_eq_some_iff] at h1
      obtain ⟨cs', hcs, hy⟩ := h1
      obtain ⟨x, y, z, rfl, c0, c1, c2⟩ := cells3 hcs
      obtain ⟨p, q, r, hp, hq, hr, rfl, rfl, rfl⟩ := open_move hy
      exact ⟨(p, q, r), hp, hq, hr, c0, c1, c2⟩
    obtain ⟨f, hf⟩ := choose_lt each
    refine ⟨some a, len, cap, (List.range len).map f, rfl, hl, by simp, fun i p hi => ?_⟩
    simp only [List.getElem?_map, Option.map_eq_some_iff] at hi
    obtain ⟨j, hj, rfl⟩ := hi
    obtain ⟨hj1, hj2⟩ := List.getElem?_eq_some_iff.1 hj
    simp only [List.getElem_range] at hj2
    subst hj2
    obtain ⟨h1, h2, h3, h4, h5, h6⟩ := hf i (by simpa using hj1)
    exact ⟨h1, h2, h3, a, rfl, h4, h5, h6⟩
end
end
section
open Go.ChangeShapes Go.WideShapes Go.ChangeAt Go.RowKit Go.Deep

section
variable {H : Type} {enc : TypeId × Value → H} {w : World} {base : Nat} {spare : Nat → Bool} {held : Bool}
theorem add_z (a : Addr) : a.add 0 = a := by unfold Addr.add; simp
theorem cells4 {b : Nat} {a : Addr} {cs : List Value} (h : w.cells? b a 4 = some cs) : ∃ x y z u, cs = [x, y, z, u] ∧ w.cell? a = some x ∧ w.cell? (a.add 1) = some y ∧ w.cell? (a.add 2) = some z ∧ w.cell? (a.add 3) = some u := by
  obtain ⟨_, hl, hc⟩ := World.cells?_some h
  match cs, hl with
  | [x, y, z, u], _ => exact ⟨x, y, z, u, rfl, by have := hc 0 (by decide); rw [add_z] at this; exact this, hc 1 (by decide), hc 2 (by decide), hc 3 (by decide)⟩
theorem cells2 {b : Nat} {a : Addr} {cs : List Value} (h : w.cells? b a 2 = some cs) : ∃ x y, cs = [x, y] ∧ w.cell? a = some x ∧ w.cell? (a.add 1) = some y := by
  obtain ⟨_, hl, hc⟩ := World.cells?_some h
  match cs, hl with
  | [x, y], _ => exact ⟨x, y, rfl, by have := hc 0 (by decide); rw [add_z] at this; exact this, hc 1 (by decide)⟩
theorem cells1 {b : Nat} {a : Addr} {cs : List Value} (h : w.cells? b a 1 = some cs) : ∃ x, cs = [x] ∧ w.cell? a = some x := by
  obtain ⟨_, hl, hc⟩ := World.cells?_some h
  match cs, hl with
  | [x], _ => exact ⟨x, rfl, by have := hc 0 (by decide); rw [add_z] at this; exact this⟩
set_option maxRecDepth 100000 in
theorem open_rngD {fuel : Nat} {x y : Value} {q : DataW H × List MemPlace} (h : DataW.trod enc Tryd.prog w base spare held fuel 30 [x, y] = some q) :
    ∃ a b : ByteArray, a.size ≤ 9223372036854775807 ∧ b.size ≤ 9223372036854775807 ∧ x = .string a ∧ y = .string b := by
  obtain ⟨y0, y1, n, _, _, h0, h1⟩ := trod_struct2 Tryd.underlying30 h
  obtain ⟨a, ha, _, wa⟩ := DataW.trod_string Tryd.underlying9 h0
  obtain ⟨b, hb, _, wb⟩ := DataW.trod_string Tryd.underlying9 h1
  unfold maxLen at wa wb
  have hs : Tryd.prog.cellsOf 9 = 1 := by kernel_rfl
  rw [hs] at ha hb
  exact ⟨a, b, by omega, by omega, by simpa using ha, by simpa using hb⟩
set_option maxRecDepth 100000 in
theorem open_step {fuel : Nat} {x y z u : Value} {q : DataW H × List MemPlace} (h : DataW.trod enc Tryd.prog w base spare held fuel 68 [x, y, z, u] = some q) :
    ∃ (a b : ByteArray) (g : Int) (c : Bool), a.size ≤ 9223372036854775807 ∧ b.size ≤ 9223372036854775807 ∧ x = .string a ∧ y = .string b ∧ z = .int .i64 g ∧ u = .bool c := by
  obtain ⟨y0, y1, y2, n, _, _, h0, h1, h2⟩ := trod_struct3 Tryd.underlying68 h
  have hr : Tryd.prog.cellsOf 30 = 2 := by kernel_rfl
  have hi : Tryd.prog.cellsOf 3 = 1 := by kernel_rfl
  have hb : Tryd.prog.cellsOf 4 = 1 := by kernel_rfl
  rw [hr] at h0
  obtain ⟨a, b, wa, wb, ha, hb'⟩ := open_rngD (x := x) (y := y) (by simpa using h0)
  obtain ⟨g, hg, _, _⟩ := DataW.trod_int Tryd.underlying3 h1
  obtain ⟨c, hc, _⟩ := DataW.trod_bool Tryd.underlying4 h2
  rw [hi] at hg
  rw [hb] at hc
  exact ⟨a, b, g, c, wa, wb, ha, hb', by simpa using hg, by simpa using hc⟩
set_option maxRecDepth 100000 in
theorem open_steps {fuel : Nat} {cs : List Value} {x : DataW H × List MemPlace} (h : DataW.trod enc Tryd.prog w base spare held fuel 62 cs = some x) :
    ∃ (a : Option Addr) (len cap : Nat) (l : List ((ByteArray × ByteArray) × Int × Bool)), cs = [.slice a len cap] ∧ len ≤ 9223372036854775807 ∧ l.length = len ∧ SlS w a l := by
  have hc : Tryd.prog.cellsOf 68 = 4 := by kernel_rfl
  rcases DataW.trod_slice Tryd.underlying62 h with ⟨rfl, _⟩ | ⟨a, len, cap, elems, rest, n, _, rfl, rfl, hb, hl, hm, hlen, hel, _, _⟩
  · exact ⟨none, 0, 0, [], rfl, by omega, rfl, fun i p hi => by simp at hi⟩
  · rw [hc] at hel
    unfold maxLen at hm
    have each : ∀ i, i < len → ∃ m : (ByteArray × ByteArray) × Int × Bool, m.1.1.size ≤ 9223372036854775807 ∧ m.1.2.size ≤ 9223372036854775807 ∧ w.cell? (a.add (i * 4)) = some (.string m.1.1) ∧ w.cell? ((a.add (i * 4)).add 1) = some (.string m.1.2) ∧ w.cell? ((a.add (i * 4)).add 2) = some (.int .i64 m.2.1) ∧ w.cell? ((a.add (i * 4)).add 3) = some (.bool m.2.2) := fun i hi => by
      have h1 := hel i hi
      rw [List.getElem?_eq_getElem (by omega), Option.bind_eq_some_iff] at h1
      obtain ⟨cs', hcs, hy⟩ := h1
      obtain ⟨x, y, z, u, rfl, c0, c1, c2, c3⟩ := cells4 hcs
      obtain ⟨p, q, g, c, hp, hq, rfl, rfl, rfl, rfl⟩ := open_step hy
      exact ⟨((p, q), g, c), hp, hq, c0, c1, c2, c3⟩
    obtain ⟨f, hf⟩ := choose_lt each
    refine ⟨some a, len, cap, (List.range len).map f, rfl, by omega, by simp, fun i p hi => ?_⟩
    simp only [List.getElem?_map, Option.map_eq_some_iff] at hi
    obtain ⟨j, hj, rfl⟩ := hi
    obtain ⟨hj1, hj2⟩ := List.getElem?_eq_some_iff.1 hj
    simp only [List.getElem_range] at hj2
    subst hj2
    obtain ⟨h1, h2, h3, h4, h5, h6⟩ := hf i (by simpa using hj1)
    rw [add_s] at h4 h5 h6
    exact ⟨h1, h2, a, rfl, h3, h4, h5, h6⟩
set_option maxRecDepth 100000 in
theorem open_slS {W : World} {r : Reach} {b : Nat} {v : Value} (h : Value.okWide Tryd.prog W r b 62 v) : ∃ a n c, v = .slice a n c := by
  simp only [Value.okWide, Cell.okWide, Tryd.underlying62] at h
  cases v <;> simp_all [Cell.ok]
end
end
end Go.Proofs.YtkkkppbcjmeapaaDoor
