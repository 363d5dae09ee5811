/- Merged by program: PtMvs. -/
import Derived.Test.YtkkkppbcjmeapaaDoorPtLop
import Derived.Test.YtkkkppbcjmeapaaDoorRtB
namespace Go.Proofs.YtkkkppbcjmeapaaDoor
section
open Go.RowKit

section
variable {w W W' : World} {B C A : Nat} {d d' : List Pt} {acc : Nat → Int × Int}
theorem St.other (S : St w W C d') (T : St w W B d) (hne : C ≠ B) (hg : W.grownBy W' (some B)) : St w W' C d' := by
  obtain ⟨v, h1, _⟩ := T.m
  exact ⟨S.m.other h1 hne hg, S.b.grown hg S.b.size (fun q e => by cases e; exact T.h), S.h⟩
end
theorem acc_ne {E : Int} {d : List Pt} {acc : Nat → Int × Int} (h : Acc E d acc) : d ≠ [] := fun e => by
  obtain ⟨q, hq, _⟩ := h.key (k := 0) (by decide)
  rw [e] at hq; cases hq
theorem copy_st {w W : World} {B : Nat} {d : List Pt} (S : St w W B d) (hd : d.length ≤ 900) (hne : d ≠ []) :
    Calls Tryd.prog 25 #[.pointer (some ⟨B, 0, none⟩)] W fun e W' => ∃ C, e = .returned (.pointer (some ⟨C, 0, none⟩)) ∧ C ≠ B ∧ W.heap.size ≤ C ∧ St w W' C d ∧ St w W' B d ∧ Below W.heap.size W W' := by
  refine (copy_any B d W S.m hd).mono ?_
  rintro e W' ⟨⟨p, rfl, h⟩, hb⟩
  rcases h with ⟨h0, _⟩ | ⟨_, C, rfl, hC, hM⟩
  · exact absurd h0 hne
  · exact ⟨C, rfl, by have := S.m.lt; omega, hC, ⟨hM, S.b.trans (hb.mono S.b.size), Nat.le_trans S.b.size hC⟩, S.keep hb, hb⟩
theorem group_key {w W : World} {B : Nat} {d : List Pt} {acc : Nat → Int × Int} {E : Int} (S : St w W B d) (hA : Acc E d acc) (hd : d.length ≤ 900) {k : Nat} (hk : k < 64) :
    Calls Tryd.prog 23 #[.pointer (some ⟨B, 0, none⟩), .string (nmS k)] W fun e W' => e = .returned (.tuple #[.int .i64 (acc k).1, .int .i64 0]) ∧ Below W.heap.size W W' := by
  obtain ⟨q, _, hq, _, ha⟩ := hA.key hk
  refine (group_st S (nmS k) (hA.small hd) (by rw [nm_size]; omega) (nm_isName k) hq).mono ?_
  rintro e W' ⟨rfl, _, hb⟩
  exact ⟨by rw [ha], hb⟩
theorem epoch_key {w W : World} {B : Nat} {d : List Pt} {acc : Nat → Int × Int} {E : Int} (S : St w W B d) (hA : Acc E d acc) (hd : d.length ≤ 900) {k : Nat} (hk : k < 64) :
    Calls Tryd.prog 27 #[.pointer (some ⟨B, 0, none⟩), .string (nmS k)] W fun e W' => e = .returned (.tuple #[.int .i64 (acc k).2, .int .i64 0]) ∧ Below W.heap.size W W' := by
  obtain ⟨q, _, hq, _, ha⟩ := hA.key hk
  refine (epoch_st S (nmS k) (hA.small hd) (by rw [nm_size]; omega) (nm_isName k) hq).mono ?_
  rintro e W' ⟨rfl, _, hb⟩
  exact ⟨by rw [ha], hb⟩
theorem owner_acc {w W : World} {B : Nat} {d : List Pt} {acc : Nat → Int × Int} {E : Int} (S : St w W B d) (hA : Acc E d acc) (hd : d.length ≤ 900) (x y : ByteArray) (hx : x.size ≤ 9223372036854775807) (hy : y.size ≤ 9223372036854775807) {o : Int} {b : Bool} {er : Int} (hv : ownerV d x y = (o, b, er)) :
    Calls Tryd.prog 16 #[.pointer (some ⟨B, 0, none⟩), .agg #[.string x, .string y]] W fun e W' => e = .returned (.tuple #[.int .i64 o, .bool b, .int .i64 er]) ∧ St w W' B d ∧ Below W.heap.size W W' := by
  refine (owner_any B d x y W S.m (hA.small hd) hx hy).mono ?_
  rintro e W' ⟨rfl, hb⟩
  rw [hv]
  exact ⟨rfl, S.keep hb, hb⟩
theorem move_acc {w W : World} {B : Nat} {d : List Pt} {acc : Nat → Int × Int} {E : Int} (S : St w W B d) (hA : Acc E d acc) (hE : E ≤ 2147483648) (hd : d.length ≤ 64) (x y : ByteArray) (g : Int) (hx : x.size ≤ 9223372036854775807) (hy : y.size ≤ 9223372036854775807) {v : Int × Int × List Pt} (hv : moveV d x y g = v) :
    Calls Tryd.prog 15 #[.pointer (some ⟨B, 0, none⟩), .agg #[.string x, .string y], .int .i64 g] W fun e W' => e = .returned (.tuple #[.int .i64 v.1, .int .i64 v.2.1]) ∧ St w W' B v.2.2 ∧ W.grownBy W' (some B) :=
  move_st S x y g (hA.small (by omega)) hd (fun p hp => by have := hA.bd p hp; omega) hx hy hv
/-- A map, a copy of an older state of it, and a range that is asked. -/
structure TwoM (w W : World) (B C R : Nat) (X Y : ByteArray) (d d1 : List Pt) : Prop where
  s : St w W B d1
  c : St w W C d
  r : Whole W R 30 #[.string X, .string Y]
  ne : C ≠ B
section
variable {w W W' : World} {B C R : Nat} {X Y : ByteArray} {d d1 d2 : List Pt}
theorem TwoM.keep (h : TwoM w W B C R X Y d d1) (hb : Below W.heap.size W W') : TwoM w W' B C R X Y d d1 := ⟨h.s.keep hb, h.c.keep hb, h.r.below hb h.r.lt, h.ne⟩
theorem type_apart {w : World} {B R : Nat} {t : TypeId} {d : List Pt} {cs : Array Value} (h : MapAt w B d) (ht : t ≠ 74) (hr : Whole w R t cs) : R ≠ B := by
  rintro rfl
  obtain ⟨v, h1, _⟩ := h
  have e := (show w.heap[R]? = _ from h1).symm.trans (show w.heap[R]? = _ from hr)
  injection e with e
  injection e with _ e2 _
  exact ht e2.symm
theorem range_apart {w : World} {B R : Nat} {d : List Pt} {cs : Array Value} (h : MapAt w B d) (hr : Whole w R 30 cs) : R ≠ B := type_apart h (by decide) hr
theorem TwoM.move (h : TwoM w W B C R X Y d d1) (hS : St w W' B d2) (hg : W.grownBy W' (some B)) : TwoM w W' B C R X Y d d2 := ⟨hS, h.c.other h.s h.ne hg, h.r.other (range_apart h.s.m h.r) hg, h.ne⟩
end
theorem equalR_same {v v' : Value} {l : List (ByteArray × ByteArray)} {w : World} (h : SlR w v l) (h' : SlR w v' l) (hl : l.length ≤ 1000000) :
    Calls Tryd.prog 26 #[v, v'] w fun e w' => e = .returned (.bool true) ∧ Below w.heap.size w w' := by
  refine (equalR_any v v' l l w h h' hl).mono ?_
  rintro e W' ⟨⟨b, rfl, hb⟩, h2⟩
  rw [hb.2 rfl]
  exact ⟨rfl, h2⟩
theorem equalI_same {v v' : Value} {l : List Int} {w : World} (h : SlI w v l) (h' : SlI w v' l) (hl : l.length ≤ 1000000) :
    Calls Tryd.prog 24 #[v, v'] w fun e w' => e = .returned (.bool true) ∧ Below w.heap.size w w' := by
  refine (equalI_any v v' l l w h h' hl).mono ?_
  rintro e W' ⟨⟨b, rfl, hb⟩, h2⟩
  rw [hb.2 rfl]
  exact ⟨rfl, h2⟩
end
end Go.Proofs.YtkkkppbcjmeapaaDoor
