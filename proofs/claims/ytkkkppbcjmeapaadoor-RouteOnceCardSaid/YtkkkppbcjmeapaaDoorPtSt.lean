/- The state of a statement with one map: the map, and what lay before. No condition. -/
import Derived.Test.YtkkkppbcjmeapaaDoorPtName
import Derived.Test.YtkkkppbcjmeapaaDoorRtB
namespace Go.Proofs.YtkkkppbcjmeapaaDoor
open Go.RowKit

theorem map_box {w : World} {B : Nat} {d : List Pt} (h : MapAt w B d) : ∃ v, Boxed w B 74 v ∧ ∃ a n c, v = .slice a n c := by
  obtain ⟨v, h1, h2⟩ := h
  refine ⟨v, h1, ?_⟩
  rcases h2 with ⟨_, rfl⟩ | ⟨g, o, cap, rfl, _⟩
  · exact ⟨_, _, _, rfl⟩
  · exact ⟨_, _, _, rfl⟩
theorem int_apart {w : World} {B g o : Nat} {d : List Pt} {k : IntKind} {n : Int} (h : MapAt w B d) (hc : w.cell? ⟨g, o, none⟩ = some (.int k n)) : g ≠ B := by
  rintro rfl
  obtain ⟨v, h1, a, m, c, rfl⟩ := map_box h
  simp only [World.cell?, show w.heap[g]? = _ from h1] at hc
  match o with
  | 0 => simp at hc
  | o + 1 => simp at hc
theorem str_apart {w : World} {B g o : Nat} {d : List Pt} {s : ByteArray} (h : MapAt w B d) (hc : w.cell? ⟨g, o, none⟩ = some (.string s)) : g ≠ B := by
  rintro rfl
  obtain ⟨v, h1, a, m, c, rfl⟩ := map_box h
  simp only [World.cell?, show w.heap[g]? = _ from h1] at hc
  match o with
  | 0 => simp at hc
  | o + 1 => simp at hc
theorem SlI.other {w w' : World} {v : Value} {l : List Int} {B : Nat} {d : List Pt} (h : SlI w v l) (hM : MapAt w B d) (hg : w.grownBy w' (some B)) : SlI w' v l := by
  obtain ⟨a, cap, rfl, hc⟩ := h
  refine ⟨a, cap, rfl, fun i p hi => ?_⟩
  obtain ⟨g, o, ha, h1⟩ := hc i p hi
  have hne := int_apart hM h1
  exact ⟨g, o, ha, grown_cell h1 hg (by simp; exact hne)⟩
theorem SlR.other {w w' : World} {v : Value} {l : List (ByteArray × ByteArray)} {B : Nat} {d : List Pt} (h : SlR w v l) (hM : MapAt w B d) (hg : w.grownBy w' (some B)) : SlR w' v l := by
  obtain ⟨a, cap, rfl, hc⟩ := h
  refine ⟨a, cap, rfl, fun i p hi => ?_⟩
  obtain ⟨g, o, ha, h1, h2⟩ := hc i p hi
  have hne := str_apart hM h1
  exact ⟨g, o, ha, grown_cell h1 hg (by simp; exact hne), grown_cell h2 hg (by simp; exact hne)⟩
theorem Whole.other {w w' : World} {b B : Nat} {t : TypeId} {cs : Array Value} (h : Whole w b t cs) (hne : b ≠ B) (hg : w.grownBy w' (some B)) : Whole w' b t cs := (hg.block b h.lt (by simp; exact hne)).trans h
theorem SlR.get {w : World} {a : Option Addr} {n c : Nat} {l : List (ByteArray × ByteArray)} (h : SlR w (.slice a n c) l) {i : Nat} {p : ByteArray × ByteArray} (hi : l[i]? = some p) : ∃ g o, a = some ⟨g, o, none⟩ ∧ w.cell? ⟨g, o + i * 2, none⟩ = some (.string p.1) ∧ w.cell? ⟨g, o + i * 2 + 1, none⟩ = some (.string p.2) := by
  obtain ⟨a', c', he, hc⟩ := h
  injection he with h1 h2 h3
  subst h1
  exact hc i p hi
theorem SlI.get {w : World} {a : Option Addr} {n c : Nat} {l : List Int} (h : SlI w (.slice a n c) l) {i : Nat} {p : Int} (hi : l[i]? = some p) : ∃ g o, a = some ⟨g, o, none⟩ ∧ w.cell? ⟨g, o + i, none⟩ = some (.int .i64 p) := by
  obtain ⟨a', c', he, hc⟩ := h
  injection he with h1 h2 h3
  subst h1
  exact hc i p hi
/-- A map of the statement's own, and what lay before it is kept. -/
structure St (w W : World) (B : Nat) (d : List Pt) : Prop where
  m : MapAt W B d
  b : Below w.heap.size w W
  h : w.heap.size ≤ B
section
variable {w W W' : World} {B : Nat} {d d' : List Pt}
theorem St.keep (h : St w W B d) (hb : Below W.heap.size W W') : St w W' B d := ⟨h.m.keep hb, h.b.trans (hb.mono h.b.size), h.h⟩
theorem St.alloc (h : St w W B d) (o : Obj) : St w (W.alloc o) B d := h.keep ((Below.refl _ _).alloc (Nat.le_refl _) o)
theorem St.drew (h : St w W B d) : St w W.drew B d := h.keep (Below.refl _ _).drew
theorem St.drewN (h : St w W B d) (q : Nat) : St w (W.drewN q) B d := h.keep (b_drewN (Below.refl _ _) q)
theorem St.move (h : St w W B d) (hM : MapAt W' B d') (hg : W.grownBy W' (some B)) : St w W' B d' := ⟨hM, h.b.grown hg h.b.size (fun q e => by cases e; exact h.h), h.h⟩
end
theorem new_st (n : Int) (hn : 1 ≤ n ∧ n < 8) (w W : World) (hb : Below w.heap.size w W) :
    Calls Tryd.prog 22 #[.int .i64 n] W fun e W' => ∃ B, e = .returned (.tuple #[.pointer (some ⟨B, 0, none⟩), .int .i64 0]) ∧ W.heap.size ≤ B ∧ St w W' B [⟨⟨#[]⟩, ⟨#[]⟩, n, 1⟩] ∧ Below W.heap.size W W' := by
  refine (new_any n W).mono ?_
  rintro e W' ⟨p, er, rfl, hr, hb'⟩
  unfold NewR at hr
  rw [if_pos hn] at hr
  obtain ⟨rfl, B, rfl, h1, h2⟩ := hr
  have := hb.size
  exact ⟨B, rfl, h1, ⟨h2, hb.trans (hb'.mono hb.size), by omega⟩, hb'⟩
theorem new_err (n : Int) (hn : ¬ (1 ≤ n ∧ n < 8)) (W : World) :
    Calls Tryd.prog 22 #[.int .i64 n] W fun e W' => e = .returned (.tuple #[.pointer none, .int .i64 2]) ∧ Below W.heap.size W W' := by
  refine (new_any n W).mono ?_
  rintro e W' ⟨p, er, rfl, hr, hb'⟩
  unfold NewR at hr
  rw [if_neg hn] at hr
  obtain ⟨rfl, rfl⟩ := hr
  exact ⟨rfl, hb'⟩
/-- The name of a small number. -/
theorem nm_nat (n : Nat) (hn : n ≤ 255) (W : World) : Calls Tryd.prog 18 #[.int .u8 (n : Int)] W fun e w' => e = .returned (.string (nmS n)) ∧ Below W.heap.size W w' := nm_any (n : Int) W (by omega) (by omega)
theorem move_st {w W : World} {B : Nat} {d : List Pt} (S : St w W B d) (x y : ByteArray) (g : Int) (hs : SmallP d) (hd : d.length ≤ 64) (he : ∀ p ∈ d, p.e ≤ 2147483648) (hx : x.size ≤ 9223372036854775807) (hy : y.size ≤ 9223372036854775807) {v : Int × Int × List Pt} (hv : moveV d x y g = v) :
    Calls Tryd.prog 15 #[.pointer (some ⟨B, 0, none⟩), .agg #[.string x, .string y], .int .i64 g] W fun e W' => e = .returned (.tuple #[.int .i64 v.1, .int .i64 v.2.1]) ∧ St w W' B v.2.2 ∧ W.grownBy W' (some B) := by
  refine (move_any B d x y g W S.m hs hd he hx hy).mono ?_
  rw [hv]
  rintro e W' ⟨h1, h2, h3⟩
  exact ⟨h1, S.move h2 h3, h3⟩
theorem len_own' {w : World} {base : Nat} {e : TypeId} {size : Nat} {v : Value} {n : Nat} {xs : List Value} (h : w.ownsRow base e size v n xs) : ∃ a c, v = .slice a n c := by
  rcases h.2 with ⟨rfl, rfl⟩ | ⟨g, cap, cur, rfl, _⟩
  · exact ⟨none, 0, rfl⟩
  · exact ⟨_, cap, rfl⟩
theorem ranges_st {w W : World} {B : Nat} {d : List Pt} (S : St w W B d) {n : Nat} (hn : d.length = n) (hd : n ≤ 900) :
    Calls Tryd.prog 19 #[.pointer (some ⟨B, 0, none⟩)] W fun e W' => ∃ a c, e = .returned (.slice a n c) ∧ SlR W' (.slice a n c) (rgs d) ∧ St w W' B d ∧ Below W.heap.size W W' := by
  subst hn
  refine (ranges_any B d W S.m hd).mono ?_
  rintro e W' ⟨v, rfl, ho, hb⟩
  obtain ⟨a, c, rfl⟩ := len_own' ho
  exact ⟨a, c, rfl, slR_own ho, S.keep hb, hb⟩
theorem groups_st {w W : World} {B : Nat} {d : List Pt} (S : St w W B d) {n : Nat} (hn : d.length = n) (hd : n ≤ 900) :
    Calls Tryd.prog 20 #[.pointer (some ⟨B, 0, none⟩)] W fun e W' => ∃ a c, e = .returned (.slice a n c) ∧ SlI W' (.slice a n c) (grs d) ∧ St w W' B d ∧ Below W.heap.size W W' := by
  subst hn
  refine (groups_any B d W S.m hd).mono ?_
  rintro e W' ⟨v, rfl, ho, hb⟩
  rw [flatG_map] at ho
  obtain ⟨a, c, rfl⟩ := len_own' ho
  have : (grs d).length = d.length := by simp [grs]
  rw [← this] at ho
  have h1 := slI_own ho
  rw [this] at h1
  exact ⟨a, c, rfl, h1, S.keep hb, hb⟩
theorem epochs_st {w W : World} {B : Nat} {d : List Pt} (S : St w W B d) {n : Nat} (hn : d.length = n) (hd : n ≤ 900) :
    Calls Tryd.prog 31 #[.pointer (some ⟨B, 0, none⟩)] W fun e W' => ∃ a c, e = .returned (.slice a n c) ∧ SlI W' (.slice a n c) (eps d) ∧ St w W' B d ∧ Below W.heap.size W W' := by
  subst hn
  refine (epochs_any B d W S.m hd).mono ?_
  rintro e W' ⟨v, rfl, ho, hb⟩
  rw [flatE_map] at ho
  obtain ⟨a, c, rfl⟩ := len_own' ho
  have : (eps d).length = d.length := by simp [eps]
  rw [← this] at ho
  have h1 := slI_own ho
  rw [this] at h1
  exact ⟨a, c, rfl, h1, S.keep hb, hb⟩
theorem group_st {w W : World} {B : Nat} {d : List Pt} (S : St w W B d) (key : ByteArray) (hs : SmallP d) (hk : key.size ≤ 9223372036854775807) (hn : isName key.data.toList = true) {q : Pt} (hq : findP d key = some q) :
    Calls Tryd.prog 23 #[.pointer (some ⟨B, 0, none⟩), .string key] W fun e W' => e = .returned (.tuple #[.int .i64 q.g, .int .i64 0]) ∧ St w W' B d ∧ Below W.heap.size W W' := by
  refine (group_any B d key W S.m hs hk (fun _ _ => ⟨q, hq⟩)).mono ?_
  have hd : d ≠ [] := fun e => by rw [e] at hq; cases hq
  have hv : findV d key = (q, 0) := by
    unfold findV
    rw [if_neg hd, if_pos hn]
    unfold findP at hq
    rw [hq]; rfl
  rw [hv]
  rintro e W' ⟨rfl, hb⟩
  exact ⟨rfl, S.keep hb, hb⟩
theorem epoch_st {w W : World} {B : Nat} {d : List Pt} (S : St w W B d) (key : ByteArray) (hs : SmallP d) (hk : key.size ≤ 9223372036854775807) (hn : isName key.data.toList = true) {q : Pt} (hq : findP d key = some q) :
    Calls Tryd.prog 27 #[.pointer (some ⟨B, 0, none⟩), .string key] W fun e W' => e = .returned (.tuple #[.int .i64 q.e, .int .i64 0]) ∧ St w W' B d ∧ Below W.heap.size W W' := by
  refine (epoch_any B d key W S.m hs hk (fun _ _ => ⟨q, hq⟩)).mono ?_
  have hd : d ≠ [] := fun e => by rw [e] at hq; cases hq
  have hv : findV d key = (q, 0) := by
    unfold findV
    rw [if_neg hd, if_pos hn]
    unfold findP at hq
    rw [hq]; rfl
  rw [hv]
  rintro e W' ⟨rfl, hb⟩
  exact ⟨rfl, S.keep hb, hb⟩
theorem works_st {w W : World} {B : Nat} {d : List Pt} (S : St w W B d) : Calls Tryd.prog 21 #[] W fun e W' => e = .returned (.bool true) ∧ Below w.heap.size w W' := by
  refine (works_any W).mono ?_
  rintro e W' ⟨rfl, hb⟩
  exact ⟨rfl, S.b.trans (hb.mono S.b.size)⟩
end Go.Proofs.YtkkkppbcjmeapaaDoor
