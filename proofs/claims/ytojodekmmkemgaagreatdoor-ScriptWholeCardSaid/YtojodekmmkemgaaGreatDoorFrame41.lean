/- Numbers and operations given as arguments, one and a list, as memory holds them. No condition. -/
import Derived.Test.YtojodekmmkemgaaGreatDoorFrameD
import Derived.Test.YtojodekmmkemgaaGreatDoorScNums
import Derived.Test.YtojodekmmkemgaaGreatDoorScWeak
namespace Go.Proofs.YtojodekmmkemgaaGreatDoor
open Go.ChangeShapes Go.WideShapes Go.ChangeAt Go.RowKit Go.Deep

theorem cell_hasP {P : Program} {W : World} {r : Reach} {b : Nat} {t : TypeId} {v : Value} {k : IntKind} (ht : P.underlying t = some (.int k)) (h : Cell.okWide P W r b t v) : ∃ n : Int, v = .int k n ∧ IntKind.min k ≤ n ∧ n ≤ IntKind.max k := by
  simp only [Cell.okWide, ht] at h
  have hv : ∃ n : Int, v = .int k n ∧ IntKind.has k n := by cases v <;> simp_all [Cell.ok]
  obtain ⟨n, rfl, h1⟩ := hv
  exact ⟨n, rfl, h1⟩
set_option maxRecDepth 100000 in
/-- A slice of an argument. -/
theorem open_sl3 {W : World} {r : Reach} {b : Nat} {t e : TypeId} {v : Value} (ht : Tryz.prog.underlying t = some (.slice e)) (h : Value.okWide Tryz.prog W r b t v) : ∃ sa sl sc, v = Value.slice sa sl sc := by
  simp only [Value.okWide, Cell.okWide, ht] at h
  cases v <;> simp_all [Cell.ok]
theorem cells_sl {sa A : Option Addr} {sl sc n c : Nat} (h : (Value.slice sa sl sc).cells.toList = [.slice A n c]) : A = sa ∧ n = sl ∧ c = sc := by
  simp [Value.cells] at h
  obtain ⟨rfl, rfl, rfl⟩ := h
  exact ⟨rfl, rfl, rfl⟩
theorem no_of {n0 n1 n2 n3 n4 n5 n6 : Int} (h0 : 0 ≤ n0 ∧ n0 ≤ 255) (h1 : 0 ≤ n1 ∧ n1 ≤ 255) (h2 : 0 ≤ n2 ∧ n2 ≤ 255) (h3 : 0 ≤ n3 ∧ n3 ≤ 255) (h4 : 0 ≤ n4 ∧ n4 ≤ 255) (h5 : 0 ≤ n5 ∧ n5 ≤ 4294967295) (h6 : In64 n6) :
    ∃ x : No, nAo x = #[.int .u8 n0, .int .u8 n1, .int .u8 n2, .int .u8 n3, .int .u8 n4, .int .u32 n5, .int .i64 n6] ∧ NoZ x := by
  obtain ⟨m0, rfl⟩ := Int.eq_ofNat_of_zero_le h0.1
  obtain ⟨m1, rfl⟩ := Int.eq_ofNat_of_zero_le h1.1
  obtain ⟨m2, rfl⟩ := Int.eq_ofNat_of_zero_le h2.1
  obtain ⟨m3, rfl⟩ := Int.eq_ofNat_of_zero_le h3.1
  obtain ⟨m4, rfl⟩ := Int.eq_ofNat_of_zero_le h4.1
  obtain ⟨m5, rfl⟩ := Int.eq_ofNat_of_zero_le h5.1
  exact ⟨⟨m0, m1, m2, m3, m4, m5, n6⟩, rfl, ⟨by dsimp only; omega, by dsimp only; omega, by dsimp only; omega, by dsimp only; omega, by dsimp only; omega, by dsimp only; omega, h6⟩⟩
set_option maxRecDepth 100000 in
/-- The numbers of an argument. -/
theorem open_nums {W : World} {r : Reach} {b : Nat} {v : Value} (h : Value.okWide Tryz.prog W r b 27 v) : ∃ x : No, v = .agg (nAo x) ∧ NoZ x := by
  obtain ⟨cs, rfl, hsz, hc⟩ := row_cells (ts := [5, 5, 5, 5, 5, 25, 2]) Tryz.underlying27 (by kernel_rfl) (by kernel_rfl) h
  obtain ⟨l⟩ := cs
  match l, hsz with
  | [c0, c1, c2, c3, c4, c5, c6], _ =>
    obtain ⟨n0, rfl, a0, b0⟩ := cell_hasP Tryz.underlying5 (hc 0 (by decide) c0 rfl)
    obtain ⟨n1, rfl, a1, b1⟩ := cell_hasP Tryz.underlying5 (hc 1 (by decide) c1 rfl)
    obtain ⟨n2, rfl, a2, b2⟩ := cell_hasP Tryz.underlying5 (hc 2 (by decide) c2 rfl)
    obtain ⟨n3, rfl, a3, b3⟩ := cell_hasP Tryz.underlying5 (hc 3 (by decide) c3 rfl)
    obtain ⟨n4, rfl, a4, b4⟩ := cell_hasP Tryz.underlying5 (hc 4 (by decide) c4 rfl)
    obtain ⟨n5, rfl, a5, b5⟩ := cell_hasP Tryz.underlying25 (hc 5 (by decide) c5 rfl)
    obtain ⟨n6, rfl, a6, b6⟩ := cell_hasP Tryz.underlying2 (hc 6 (by decide) c6 rfl)
    rw [show IntKind.u8.min = 0 by decide] at a0 a1 a2 a3 a4
    rw [show IntKind.u8.max = 255 by decide] at b0 b1 b2 b3 b4
    rw [show IntKind.u32.min = 0 by decide] at a5
    rw [show IntKind.u32.max = 4294967295 by decide] at b5
    rw [show IntKind.i64.min = -9223372036854775808 by decide] at a6
    rw [show IntKind.i64.max = 9223372036854775807 by decide] at b6
    obtain ⟨x, hx, hz⟩ := no_of ⟨a0, b0⟩ ⟨a1, b1⟩ ⟨a2, b2⟩ ⟨a3, b3⟩ ⟨a4, b4⟩ ⟨a5, b5⟩ ⟨a6, b6⟩
    exact ⟨x, by rw [hx], hz⟩
theorem wf8 {n : Int} (h : (Lit.int .u8 n).wf = true) : 0 ≤ n ∧ n ≤ 255 := by
  simpa [Lit.wf, IntKind.has, IntKind.min, IntKind.max, IntKind.signed, IntKind.bits] using h
theorem wf32 {n : Int} (h : (Lit.int .u32 n).wf = true) : 0 ≤ n ∧ n ≤ 4294967295 := by
  simpa [Lit.wf, IntKind.has, IntKind.min, IntKind.max, IntKind.signed, IntKind.bits] using h
instance : Inhabited No := ⟨⟨0, 0, 0, 0, 0, 0, 0⟩⟩
instance : Inhabited Oq := ⟨⟨zeroO 0 0, none, 0, 0⟩⟩

section
variable {H : Type} {enc : TypeId × Value → H} {w : World} {base : Nat} {spare : Nat → Bool} {held : Bool}
set_option maxRecDepth 100000 in
theorem open_num7 {fuel : Nat} {cs : List Value} {q : DataW H × List MemPlace} (h : DataW.trod enc Tryz.prog w base spare held fuel 27 cs = some q) : ∃ x : No, NoZ x ∧ cs = (nAo x).toList := by
  obtain ⟨xs, m, _, _, hl, hlen, hf⟩ := DataW.trod_struct Tryz.underlying27 h
  have hc : Tryz.prog.cellsOf 27 = 7 := by kernel_rfl
  have e8 : Tryz.prog.cellsOf 5 = 1 := by kernel_rfl
  have e32 : Tryz.prog.cellsOf 25 = 1 := by kernel_rfl
  have e64 : Tryz.prog.cellsOf 2 = 1 := by kernel_rfl
  rw [hc] at hl
  have hx : xs.length = 7 := hlen
  match xs, hx with
  | [x0, x1, x2, x3, x4, x5, x6], _ =>
    have h0 : DataW.trod enc Tryz.prog w base spare held m 5 ((cs.drop 0).take (Tryz.prog.cellsOf 5)) = some x0 := hf 0 _ rfl
    have h1 : DataW.trod enc Tryz.prog w base spare held m 5 ((cs.drop 1).take (Tryz.prog.cellsOf 5)) = some x1 := hf 1 _ rfl
    have h2 : DataW.trod enc Tryz.prog w base spare held m 5 ((cs.drop 2).take (Tryz.prog.cellsOf 5)) = some x2 := hf 2 _ rfl
    have h3 : DataW.trod enc Tryz.prog w base spare held m 5 ((cs.drop 3).take (Tryz.prog.cellsOf 5)) = some x3 := hf 3 _ rfl
    have h4 : DataW.trod enc Tryz.prog w base spare held m 5 ((cs.drop 4).take (Tryz.prog.cellsOf 5)) = some x4 := hf 4 _ rfl
    have h5 : DataW.trod enc Tryz.prog w base spare held m 25 ((cs.drop 5).take (Tryz.prog.cellsOf 25)) = some x5 := hf 5 _ rfl
    have h6 : DataW.trod enc Tryz.prog w base spare held m 2 ((cs.drop 6).take (Tryz.prog.cellsOf 2)) = some x6 := hf 6 _ rfl
    obtain ⟨n0, g0, _, k0⟩ := DataW.trod_int Tryz.underlying5 h0
    obtain ⟨n1, g1, _, k1⟩ := DataW.trod_int Tryz.underlying5 h1
    obtain ⟨n2, g2, _, k2⟩ := DataW.trod_int Tryz.underlying5 h2
    obtain ⟨n3, g3, _, k3⟩ := DataW.trod_int Tryz.underlying5 h3
    obtain ⟨n4, g4, _, k4⟩ := DataW.trod_int Tryz.underlying5 h4
    obtain ⟨n5, g5, _, k5⟩ := DataW.trod_int Tryz.underlying25 h5
    obtain ⟨n6, g6, _, k6⟩ := DataW.trod_int Tryz.underlying2 h6
    rw [e8] at g0 g1 g2 g3 g4
    rw [e32] at g5
    rw [e64] at g6
    obtain ⟨x, hx, hz⟩ := no_of (wf8 k0) (wf8 k1) (wf8 k2) (wf8 k3) (wf8 k4) (wf32 k5) (i64_wf k6)
    refine ⟨x, hz, ?_⟩
    rw [hx]
    match cs, hl with
    | [c0, c1, c2, c3, c4, c5, c6], _ =>
      simp only [List.drop_succ_cons, List.drop_zero, List.take_succ_cons, List.take_zero, List.cons.injEq, and_true] at g0 g1 g2 g3 g4 g5 g6
      rw [g0, g1, g2, g3, g4, g5, g6]
set_option maxRecDepth 100000 in
/-- The numbers of a list. -/
theorem open_numsL {fuel : Nat} {cs : List Value} {x : DataW H × List MemPlace} (h : DataW.trod enc Tryz.prog w base spare held fuel 22 cs = some x) :
    ∃ (A : Option Addr) (n c : Nat) (l : List No), cs = [.slice A n c] ∧ n ≤ c ∧ n ≤ 9223372036854775807 ∧ l.length = n ∧ SlN w A l := by
  have hc : Tryz.prog.cellsOf 27 = 7 := by kernel_rfl
  rcases DataW.trod_slice Tryz.underlying22 h with ⟨rfl, _⟩ | ⟨a, len, cap, elems, rest, n, _, rfl, rfl, hb, hl, hm, hlen, hel, _, _⟩
  · exact ⟨none, 0, 0, [], rfl, Nat.le_refl _, by omega, rfl, fun i p hi => by simp at hi⟩
  · rw [hc] at hel
    unfold maxLen at hm
    have each : ∀ i, i < len → ∃ p : No, NoZ p ∧ ∀ j v, (nAo p).toList[j]? = some v → w.cell? ((a.add (i * 7)).add j) = some v := fun i hi => by
      have h1 := hel i hi
      rw [List.getElem?_eq_getElem (by omega), Option.bind_eq_some_iff] at h1
      obtain ⟨cs', hcs, hy⟩ := h1
      obtain ⟨p, hp, rfl⟩ := open_num7 hy
      obtain ⟨_, hl7, hcc⟩ := World.cells?_some hcs
      refine ⟨p, hp, fun j v hj => ?_⟩
      have hj7 : j < 7 := (List.getElem?_eq_some_iff.1 hj).1
      rw [hcc j hj7]
      exact hj
    obtain ⟨f, hf⟩ := choose_lt each
    refine ⟨some a, len, cap, (List.range len).map f, rfl, hl, by omega, by simp, fun i p hi => ?_⟩
    simp only [List.getElem?_map, Option.map_eq_some_iff] at hi
    obtain ⟨j, hj, rfl⟩ := hi
    obtain ⟨hj1, hj2⟩ := List.getElem?_eq_some_iff.1 hj
    simp only [List.getElem_range] at hj2
    subst hj2
    have h1 : i < len := by simpa using hj1
    have hsp : a.spot = none := by
      have := World.cell?_spot ((hf 0 (by omega)).2 0 _ rfl)
      rw [Nat.zero_mul, add_z, add_z] at this; exact this
    refine ⟨(hf i h1).1, a.block, a.off, ?_, fun j v hj => ?_⟩
    · obtain ⟨b, o, s⟩ := a
      dsimp only at hsp
      subst hsp; rfl
    · have c0 := (hf i h1).2 j v hj
      rw [add_n hsp, add_n rfl] at c0
      exact c0
set_option maxRecDepth 100000 in
set_option maxHeartbeats 2000000 in
/-- The cells of an operation. -/
theorem open_opT {fuel : Nat} {cs : List Value} {q : DataW H × List MemPlace} (h : DataW.trod enc Tryz.prog w base spare held fuel 34 cs = some q) : ∃ (o : Ov) (A : Option Addr) (n m : Nat), cs = (oA o A n m).toList ∧ OpWk w o A n m := by
  obtain ⟨xs, m, _, _, hl, hlen, hf⟩ := DataW.trod_struct Tryz.underlying34 h
  have hc : Tryz.prog.cellsOf 34 = 10 := by kernel_rfl
  have ei : Tryz.prog.cellsOf 3 = 1 := by kernel_rfl
  have es : Tryz.prog.cellsOf 9 = 1 := by kernel_rfl
  have er : Tryz.prog.cellsOf 29 = 2 := by kernel_rfl
  have ed : Tryz.prog.cellsOf 32 = 4 := by kernel_rfl
  have el : Tryz.prog.cellsOf 30 = 1 := by kernel_rfl
  rw [hc] at hl
  have hx : xs.length = 6 := hlen
  match xs, hx with
  | [x0, x1, x2, x3, x4, x5], _ =>
    have h0 : DataW.trod enc Tryz.prog w base spare held m 3 ((cs.drop 0).take (Tryz.prog.cellsOf 3)) = some x0 := hf 0 _ rfl
    have h1 : DataW.trod enc Tryz.prog w base spare held m 3 ((cs.drop 1).take (Tryz.prog.cellsOf 3)) = some x1 := hf 1 _ rfl
    have h2 : DataW.trod enc Tryz.prog w base spare held m 3 ((cs.drop 2).take (Tryz.prog.cellsOf 3)) = some x2 := hf 2 _ rfl
    have h3 : DataW.trod enc Tryz.prog w base spare held m 9 ((cs.drop 3).take (Tryz.prog.cellsOf 9)) = some x3 := hf 3 _ rfl
    have h4 : DataW.trod enc Tryz.prog w base spare held m 29 ((cs.drop 4).take (Tryz.prog.cellsOf 29)) = some x4 := hf 4 _ rfl
    have h5 : DataW.trod enc Tryz.prog w base spare held m 32 ((cs.drop 6).take (Tryz.prog.cellsOf 32)) = some x5 := hf 5 _ rfl
    obtain ⟨n0, g0, _, k0⟩ := DataW.trod_int Tryz.underlying3 h0
    obtain ⟨n1, g1, _, k1⟩ := DataW.trod_int Tryz.underlying3 h1
    obtain ⟨n2, g2, _, k2⟩ := DataW.trod_int Tryz.underlying3 h2
    obtain ⟨s3, g3, _, k3⟩ := DataW.trod_string Tryz.underlying9 h3
    rw [ei] at g0 g1 g2
    rw [es] at g3
    rw [er] at h4
    rw [ed] at h5
    match cs, hl with
    | [c0, c1, c2, c3, c4, c5, c6, c7, c8, c9], _ =>
      have h4 : DataW.trod enc Tryz.prog w base spare held m 29 [c4, c5] = some x4 := h4
      have h5 : DataW.trod enc Tryz.prog w base spare held m 32 [c6, c7, c8, c9] = some x5 := h5
      obtain ⟨y0, y1, m2, _, _, r0, r1⟩ := trod_struct2 Tryz.underlying29 h4
      obtain ⟨z0, z1, z2, z3, m3, _, _, d0, d1, d2, d3⟩ := Joins.trod_struct4 Tryz.underlying32 h5
      obtain ⟨s4, g4, _, k4⟩ := DataW.trod_string Tryz.underlying9 r0
      obtain ⟨s5, g5, _, k5⟩ := DataW.trod_string Tryz.underlying9 r1
      obtain ⟨s6, g6, _, k6⟩ := DataW.trod_string Tryz.underlying9 d0
      obtain ⟨n7, g7, _, k7⟩ := DataW.trod_int Tryz.underlying3 d1
      obtain ⟨n8, g8, _, k8⟩ := DataW.trod_int Tryz.underlying3 d2
      obtain ⟨A, n, c, s, hcs, t1, t2, t3, t4, t5⟩ := open_stepsD d3
      unfold maxLen at k3 k4 k5 k6
      rw [es] at g4 g5 g6
      rw [ei] at g7 g8
      rw [el] at hcs
      have e0 : c0 = .int .i64 n0 := by simpa using g0
      have e1 : c1 = .int .i64 n1 := by simpa using g1
      have e2 : c2 = .int .i64 n2 := by simpa using g2
      have e3 : c3 = .string s3 := by simpa using g3
      have e4 : c4 = .string s4 := by simpa using g4
      have e5 : c5 = .string s5 := by simpa using g5
      have e6 : c6 = .string s6 := by simpa using g6
      have e7 : c7 = .int .i64 n7 := by simpa using g7
      have e8 : c8 = .int .i64 n8 := by simpa using g8
      have e9 : c9 = .slice A n c := by simpa using hcs
      refine ⟨⟨n0, n1, n2, s3, s4, s5, ⟨s6, n7, n8, s⟩⟩, A, n, c, by rw [e0, e1, e2, e3, e4, e5, e6, e7, e8, e9]; rfl, t3, t1, t2, ⟨by show s6.size ≤ _; omega, i64_wf k7, i64_wf k8, t4⟩, t5, ⟨i64_wf k0, i64_wf k1, i64_wf k2, by show s3.size ≤ _; omega, by show s4.size ≤ _; omega, by show s5.size ≤ _; omega⟩⟩
set_option maxRecDepth 100000 in
/-- The operation of an argument. -/
theorem open_op {fuel : Nat} {W : World} {r : Reach} {b : Nat} {v : Value} {q : DataW H × List MemPlace} (ho : Value.okWide Tryz.prog W r b 34 v) (h : DataW.trod enc Tryz.prog w base spare held fuel 34 v.cells.toList = some q) :
    ∃ (o : Ov) (A : Option Addr) (n m : Nat), v = .agg (oA o A n m) ∧ OpWk w o A n m := by
  obtain ⟨cs, rfl, hsz, _⟩ := row_cells (ts := [3, 3, 3, 9, 9, 9, 9, 3, 3, 30]) Tryz.underlying34 (by kernel_rfl) (by kernel_rfl) ho
  obtain ⟨o, A, n, m, hcs, hi⟩ := open_opT h
  refine ⟨o, A, n, m, ?_, hi⟩
  have : cs.toList = (oA o A n m).toList := hcs
  rw [Array.toList_inj.1 this]
set_option maxRecDepth 100000 in
/-- The operations of a list. -/
theorem open_ops {fuel : Nat} {cs : List Value} {x : DataW H × List MemPlace} (h : DataW.trod enc Tryz.prog w base spare held fuel 24 cs = some x) :
    ∃ (A : Option Addr) (n c : Nat) (l : List Oq), cs = [.slice A n c] ∧ n ≤ c ∧ n ≤ 9223372036854775807 ∧ l.length = n ∧ SlOw w A l := by
  have hc : Tryz.prog.cellsOf 34 = 10 := by kernel_rfl
  rcases DataW.trod_slice Tryz.underlying24 h with ⟨rfl, _⟩ | ⟨a, len, cap, elems, rest, n, _, rfl, rfl, hb, hl, hm, hlen, hel, _, _⟩
  · exact ⟨none, 0, 0, [], rfl, Nat.le_refl _, by omega, rfl, fun i p hi => by simp at hi⟩
  · rw [hc] at hel
    unfold maxLen at hm
    have each : ∀ i, i < len → ∃ p : Oq, OpWk w p.o p.A p.n p.m ∧ ∀ j v, (qL p)[j]? = some v → w.cell? ((a.add (i * 10)).add j) = some v := fun i hi => by
      have h1 := hel i hi
      rw [List.getElem?_eq_getElem (by omega), Option.bind_eq_some_iff] at h1
      obtain ⟨cs', hcs, hy⟩ := h1
      obtain ⟨o, A, n, m, rfl, hp⟩ := open_opT hy
      obtain ⟨_, hl7, hcc⟩ := World.cells?_some hcs
      refine ⟨⟨o, A, n, m⟩, hp, fun j v hj => ?_⟩
      have hj7 : j < 10 := (List.getElem?_eq_some_iff.1 hj).1
      rw [hcc j hj7]
      exact hj
    obtain ⟨f, hf⟩ := choose_lt each
    refine ⟨some a, len, cap, (List.range len).map f, rfl, hl, by omega, by simp, fun i p hi => ?_⟩
    simp only [List.getElem?_map, Option.map_eq_some_iff] at hi
    obtain ⟨j, hj, rfl⟩ := hi
    obtain ⟨hj1, hj2⟩ := List.getElem?_eq_some_iff.1 hj
    simp only [List.getElem_range] at hj2
    subst hj2
    have h1 : i < len := by simpa using hj1
    have hsp : a.spot = none := by
      have := World.cell?_spot ((hf 0 (by omega)).2 0 _ rfl)
      rw [Nat.zero_mul, add_z, add_z] at this; exact this
    refine ⟨a.block, a.off, ?_, fun j v hj => ?_, (hf i h1).1⟩
    · obtain ⟨b, o, s⟩ := a
      dsimp only at hsp
      subst hsp; rfl
    · have c0 := (hf i h1).2 j v hj
      rw [add_n hsp, add_n rfl] at c0
      exact c0
end
end Go.Proofs.YtojodekmmkemgaaGreatDoor
