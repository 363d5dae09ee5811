/- What a function that reads a definition holds in memory: its result, its reader, its definition; by the program's reader and by the reference's. No condition. -/
import Derived.Test.YtgjnmfmbheejoaaGreatDoorDfG
import Derived.Test.YtgjnmfmbheejoaaGreatDoorRdr2
import Derived.Test.YtgjnmfmbheejoaaGreatDoorRrd3
import Derived.Deep.RegionHeld3
namespace Go.Proofs.YtgjnmfmbheejoaaGreatDoor
open Go.RowKit Go.Shelf

theorem RdP.other {W W2 : World} {C : Nat} {st : WS} {row : Option Nat} (h : RdP W C st) (hg : W.grownBy W2 row) (hr : ∀ k, row = some k → C < k) : RdP W2 C st := by
  obtain ⟨A, n, c, h1, h2, h3, h4, h5⟩ := h
  refine ⟨A, n, c, h1.grown hg (fun e => by have := hr C e.symm; omega), h2, h3, h4, fun l e => (h5 l e).grown hg (fun a ha _ e => ?_)⟩
  have a1 := h4.2 a ha
  have a2 := hr a.block e.symm
  omega
/-- What Decode holds in memory: its result, its reader, its definition. -/
structure DecM (w W : World) (C D : Nat) (st : WS) (dv : Array Value) : Prop where
  rd : RdP W C st
  d : Whole W D 31 dv
  r : Whole W w.heap.size 31 #[.string ⟨#[]⟩, .int .i64 0, .int .i64 0, .slice none 0 0]
  b : Below w.heap.size w W
  o1 : w.heap.size < C
  o2 : C < D
theorem DecM.reads {w W W2 : World} {C D : Nat} {st st2 : WS} {dv : Array Value} (h : DecM w W C D st dv) (hp : RdP W2 C st2) (hg : W.grownBy W2 (some C)) : DecM w W2 C D st2 dv :=
  ⟨hp, h.d.grown hg (by have := h.o2; simp; omega), h.r.grown hg (by have := h.o1; simp; omega), h.b.grown hg h.b.size (fun k e => by cases e; exact Nat.le_of_lt h.o1), h.o1, h.o2⟩
theorem DecM.other {w W W2 : World} {C D : Nat} {st : WS} {dv : Array Value} {row : Option Nat} (h : DecM w W C D st dv) (hg : W.grownBy W2 row) (hr : ∀ k, row = some k → D < k) : DecM w W2 C D st dv := by
  have a := h.o1
  have b := h.o2
  exact ⟨h.rd.other hg (fun k e => by have := hr k e; omega), h.d.grown hg (fun e => by have := hr D e.symm; omega), h.r.grown hg (fun e => by have := hr _ e.symm; omega), h.b.grown hg h.b.size (fun k e => by have := hr k e; omega), a, b⟩
theorem DecM.keep {w W W2 : World} {C D : Nat} {st : WS} {dv : Array Value} (h : DecM w W C D st dv) (hb : Below W.heap.size W W2) : DecM w W2 C D st dv := h.other (gbelow hb) (by simp)
theorem DecM.put {w W : World} {C D : Nat} {st : WS} {dv : Array Value} (h : DecM w W C D st dv) (i : Nat) (v : Value) : DecM w (W.setCell ⟨D, i, none⟩ v) C D st (dv.setIfInBounds i v) := by
  have a := h.o1
  have b := h.o2
  have hg := grown_set (World.grownBy.refl W (some D)) i v
  exact ⟨h.rd.other hg (fun k e => by cases e; exact b), h.d.put i v, h.r.grown hg (fun e => by cases e; omega), h.b.grown hg h.b.size (fun k e => by cases e; omega), a, b⟩
/-- A step is appended to those of the definition behind the reader's number. -/
theorem dec_pack {w w6 w7 : World} {C D B0 k : Nat} {st2 st3 : WS} {x y z v : Value} {xs : List Value} (hM : DecM w w6 C D st2 #[x, y, z, v]) (hO : w6.ownsRow B0 53 2 v k xs) (hD : D < B0) (hB : B0 ≤ w6.heap.size) (hP : RdP w7 C st3) (hg : w6.grownBy w7 (some C)) (hk : k ≤ 1000) (ky : ByteArray) (iv : Int) :
    w7.cell? ⟨D, 3, none⟩ = some v ∧ (w7.alloc (.cells #[.string ky, .int .i64 iv] 53)).cell? ⟨D, 3, none⟩ = some v ∧
    ∃ (A' : Option Addr) (c' : Nat) (w8 : World), Hid ((Builtin.append_ #[29, 29] 29 #[v, .slice (some ⟨w7.heap.size, 0, none⟩) 1 1]).run Tryz.prog (w7.alloc (.cells #[.string ky, .int .i64 iv] 53)) = .ok (.slice A' (k + 1) c') w8) ∧ w8.cell? ⟨D, 3, none⟩ = some v ∧ w8.frozen? ⟨D, 3, none⟩ = false ∧
      Hid (DecM w (w8.setCell ⟨D, 3, none⟩ (.slice A' (k + 1) c')) C D st3 #[x, y, z, .slice A' (k + 1) c'] ∧ (w8.setCell ⟨D, 3, none⟩ (.slice A' (k + 1) c')).ownsRow B0 53 2 (.slice A' (k + 1) c') (k + 1) (xs ++ [.string ky, .int .i64 iv]) ∧ B0 ≤ (w8.setCell ⟨D, 3, none⟩ (.slice A' (k + 1) c')).heap.size) := by
  have o1 := hM.o1
  have o2 := hM.o2
  have hne : v.ownBlock = none ∨ v.ownBlock ≠ some C := Or.inr (fun e => by have := (hO.lt C e).1; omega)
  have M7 := hM.reads hP hg
  have O7 := hO.kept hg hne
  have hB7 : B0 ≤ w7.heap.size := Nat.le_trans hB hg.size
  have M7a := M7.keep ((Below.refl _ w7).alloc (Nat.le_refl _) (.cells #[.string ky, .int .i64 iv] 53))
  obtain ⟨v', w8, hrun, hown, hgr⟩ := run_app_step (w7.alloc (.cells #[.string ky, .int .i64 iv] 53)) B0 v k xs (O7.alloc _) ⟨w7.heap.size, 0, none⟩ 1 1 [.string ky, .int .i64 iv] rfl (news_at w7 _ [.string ky, .int .i64 iv] _ rfl) (by simp [Value.oneCell']) (by omega) (by simp; omega)
  obtain ⟨A', c', rfl, _⟩ := own_slice2 hown
  have hvb : ∀ j, v.ownBlock = some j → D < j := fun j e => Nat.lt_of_lt_of_le hD (hO.lt j e).1
  have M8 := M7a.other hgr hvb
  have g9 := grown_set (World.grownBy.refl w8 (some D)) 3 (.slice A' (k + 1) c')
  refine ⟨M7.d.cell 3, M7a.d.cell 3, A', c', w8, hrun, M8.d.cell 3, M8.d.fr 3, ⟨?_, hown.kept g9 (Or.inr (fun e => by have := (hown.lt D e).1; omega)), ?_⟩⟩
  · have := M8.put 3 (.slice A' (k + 1) c')
    simpa using this
  · have := hgr.size
    simp only [World.size_alloc] at this
    simp [World.setCell]; omega
theorem RdQ.other {W W2 : World} {C : Nat} {st : WS} {row : Option Nat} (h : RdQ W C st) (hg : W.grownBy W2 row) (hr : ∀ k, row = some k → C < k) : RdQ W2 C st := by
  obtain ⟨A, n, c, h1, h2, h3, h4, h5⟩ := h
  refine ⟨A, n, c, h1.grown hg (fun e => by have := hr C e.symm; omega), h2, h3, h4, fun l e => (h5 l e).grown hg (fun a ha _ e => ?_)⟩
  have a1 := h4.2 a ha
  have a2 := hr a.block e.symm
  omega
/-- What Decode holds in memory: its result, its reader, its definition. -/
structure DecQ (w W : World) (C D : Nat) (st : WS) (dv : Array Value) : Prop where
  rd : RdQ W C st
  d : Whole W D 31 dv
  r : Whole W w.heap.size 31 #[.string ⟨#[]⟩, .int .i64 0, .int .i64 0, .slice none 0 0]
  b : Below w.heap.size w W
  o1 : w.heap.size < C
  o2 : C < D
theorem DecQ.reads {w W W2 : World} {C D : Nat} {st st2 : WS} {dv : Array Value} (h : DecQ w W C D st dv) (hp : RdQ W2 C st2) (hg : W.grownBy W2 (some C)) : DecQ w W2 C D st2 dv :=
  ⟨hp, h.d.grown hg (by have := h.o2; simp; omega), h.r.grown hg (by have := h.o1; simp; omega), h.b.grown hg h.b.size (fun k e => by cases e; exact Nat.le_of_lt h.o1), h.o1, h.o2⟩
theorem DecQ.other {w W W2 : World} {C D : Nat} {st : WS} {dv : Array Value} {row : Option Nat} (h : DecQ w W C D st dv) (hg : W.grownBy W2 row) (hr : ∀ k, row = some k → D < k) : DecQ w W2 C D st dv := by
  have a := h.o1
  have b := h.o2
  exact ⟨h.rd.other hg (fun k e => by have := hr k e; omega), h.d.grown hg (fun e => by have := hr D e.symm; omega), h.r.grown hg (fun e => by have := hr _ e.symm; omega), h.b.grown hg h.b.size (fun k e => by have := hr k e; omega), a, b⟩
theorem DecQ.keep {w W W2 : World} {C D : Nat} {st : WS} {dv : Array Value} (h : DecQ w W C D st dv) (hb : Below W.heap.size W W2) : DecQ w W2 C D st dv := h.other (gbelow hb) (by simp)
theorem DecQ.put {w W : World} {C D : Nat} {st : WS} {dv : Array Value} (h : DecQ w W C D st dv) (i : Nat) (v : Value) : DecQ w (W.setCell ⟨D, i, none⟩ v) C D st (dv.setIfInBounds i v) := by
  have a := h.o1
  have b := h.o2
  have hg := grown_set (World.grownBy.refl W (some D)) i v
  exact ⟨h.rd.other hg (fun k e => by cases e; exact b), h.d.put i v, h.r.grown hg (fun e => by cases e; omega), h.b.grown hg h.b.size (fun k e => by cases e; omega), a, b⟩
/-- A step is appended to those of the definition behind the reader's number. -/
theorem decq_pack {w w6 w7 : World} {C D B0 k : Nat} {st2 st3 : WS} {x y z v : Value} {xs : List Value} (hM : DecQ w w6 C D st2 #[x, y, z, v]) (hO : w6.ownsRow B0 53 2 v k xs) (hD : D < B0) (hB : B0 ≤ w6.heap.size) (hP : RdQ w7 C st3) (hg : w6.grownBy w7 (some C)) (hk : k ≤ 1000) (ky : ByteArray) (iv : Int) :
    w7.cell? ⟨D, 3, none⟩ = some v ∧ (w7.alloc (.cells #[.string ky, .int .i64 iv] 53)).cell? ⟨D, 3, none⟩ = some v ∧
    ∃ (A' : Option Addr) (c' : Nat) (w8 : World), Hid ((Builtin.append_ #[29, 29] 29 #[v, .slice (some ⟨w7.heap.size, 0, none⟩) 1 1]).run Tryz.prog (w7.alloc (.cells #[.string ky, .int .i64 iv] 53)) = .ok (.slice A' (k + 1) c') w8) ∧ w8.cell? ⟨D, 3, none⟩ = some v ∧ w8.frozen? ⟨D, 3, none⟩ = false ∧
      Hid (DecQ w (w8.setCell ⟨D, 3, none⟩ (.slice A' (k + 1) c')) C D st3 #[x, y, z, .slice A' (k + 1) c'] ∧ (w8.setCell ⟨D, 3, none⟩ (.slice A' (k + 1) c')).ownsRow B0 53 2 (.slice A' (k + 1) c') (k + 1) (xs ++ [.string ky, .int .i64 iv]) ∧ B0 ≤ (w8.setCell ⟨D, 3, none⟩ (.slice A' (k + 1) c')).heap.size) := by
  have o1 := hM.o1
  have o2 := hM.o2
  have hne : v.ownBlock = none ∨ v.ownBlock ≠ some C := Or.inr (fun e => by have := (hO.lt C e).1; omega)
  have M7 := hM.reads hP hg
  have O7 := hO.kept hg hne
  have hB7 : B0 ≤ w7.heap.size := Nat.le_trans hB hg.size
  have M7a := M7.keep ((Below.refl _ w7).alloc (Nat.le_refl _) (.cells #[.string ky, .int .i64 iv] 53))
  obtain ⟨v', w8, hrun, hown, hgr⟩ := run_app_step (w7.alloc (.cells #[.string ky, .int .i64 iv] 53)) B0 v k xs (O7.alloc _) ⟨w7.heap.size, 0, none⟩ 1 1 [.string ky, .int .i64 iv] rfl (news_at w7 _ [.string ky, .int .i64 iv] _ rfl) (by simp [Value.oneCell']) (by omega) (by simp; omega)
  obtain ⟨A', c', rfl, _⟩ := own_slice2 hown
  have hvb : ∀ j, v.ownBlock = some j → D < j := fun j e => Nat.lt_of_lt_of_le hD (hO.lt j e).1
  have M8 := M7a.other hgr hvb
  have g9 := grown_set (World.grownBy.refl w8 (some D)) 3 (.slice A' (k + 1) c')
  refine ⟨M7.d.cell 3, M7a.d.cell 3, A', c', w8, hrun, M8.d.cell 3, M8.d.fr 3, ⟨?_, hown.kept g9 (Or.inr (fun e => by have := (hown.lt D e).1; omega)), ?_⟩⟩
  · have := M8.put 3 (.slice A' (k + 1) c')
    simpa using this
  · have := hgr.size
    simp only [World.size_alloc] at this
    simp [World.setCell]; omega
theorem wT_len (s : WS) : (wT s).1.length ≤ 65536 := by
  unfold wT
  cases s with
  | none => simp
  | some x =>
    simp only
    cases hx : uvR x with
    | none => simp
    | some p =>
      obtain ⟨n, k⟩ := p
      dsimp only
      split
      · rw [List.length_take]; omega
      · simp
theorem wSps_z : ∀ (n : Nat) (st : WS) (p : Sp), p ∈ (wSps n st).1 → SpZ p
  | 0, st, p, h => by cases h
  | n + 1, st, p, h => by
    rw [wSps] at h
    rcases List.mem_cons.1 h with rfl | h
    · have h1 := zag_i64 (wU_lt (wT st).2)
      refine ⟨?_, h1.1, h1.2⟩
      show (⟨(wT st).1.toArray⟩ : ByteArray).size ≤ _
      rw [Lib.size_mk]
      have := wT_len st
      omega
    · exact wSps_z n _ p h
/-- What reading a definition from bytes answers. -/
def DecodeR (l : List UInt8) (w w' : World) (e : Ending) : Prop := (∃ d A n c er, e = .returned (.tuple #[dV d A n c, .int .i64 er]) ∧ DecR l d er ∧ DefAt w' A n c d) ∧ Below w.heap.size w w'
/-- The same; what holds its steps is new memory. -/
def DecodeN (l : List UInt8) (w w' : World) (e : Ending) : Prop := (∃ d A n c er, e = .returned (.tuple #[dV d A n c, .int .i64 er]) ∧ DecR l d er ∧ DefAt w' A n c d ∧ ∀ a : Addr, A = some a → w.heap.size ≤ a.block) ∧ Below w.heap.size w w'
theorem DecodeN.any {l : List UInt8} {w w' : World} {e : Ending} (h : DecodeN l w w' e) : DecodeR l w w' e := by
  obtain ⟨⟨d, A, n, c, er, h1, h2, h3, _⟩, hb⟩ := h
  exact ⟨⟨d, A, n, c, er, h1, h2, h3⟩, hb⟩
end Go.Proofs.YtgjnmfmbheejoaaGreatDoor
