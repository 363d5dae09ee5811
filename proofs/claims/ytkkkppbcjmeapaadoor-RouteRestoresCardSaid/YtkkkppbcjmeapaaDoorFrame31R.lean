/- Lists of ranges and of numbers and a step, given as arguments, as memory holds them. No condition. -/
import Derived.Test.YtkkkppbcjmeapaaDoorFrame31S
import Derived.ChangeSlices
namespace Go.Proofs.YtkkkppbcjmeapaaDoor
open Go.ChangeShapes Go.WideShapes Go.ChangeAt Go.RowKit Go.Deep

theorem add_n {a : Addr} (h : a.spot = none) (j : Nat) : a.add j = ⟨a.block, a.off + j, none⟩ := by
  obtain ⟨b, o, s⟩ := a
  dsimp only at h
  subst h
  unfold Addr.add
  by_cases hj : j = 0 <;> simp [hj]
section
variable {H : Type} {enc : TypeId × Value → H} {w : World} {base : Nat} {spare : Nat → Bool} {held : Bool}
set_option maxRecDepth 100000 in
theorem open_rngs {fuel : Nat} {cs : List Value} {x : DataW H × List MemPlace} (h : DataW.trod enc Tryd.prog w base spare held fuel 45 cs = some x) :
    ∃ (a : Option Addr) (len cap : Nat) (l : List (ByteArray × ByteArray)), cs = [.slice a len cap] ∧ l.length = len ∧ SlR w (.slice a len cap) l ∧ ∀ p ∈ l, p.1.size ≤ 9223372036854775807 ∧ p.2.size ≤ 9223372036854775807 := by
  have hc : Tryd.prog.cellsOf 30 = 2 := by kernel_rfl
  rcases DataW.trod_slice Tryd.underlying45 h with ⟨rfl, _⟩ | ⟨a, len, cap, elems, rest, n, _, rfl, rfl, hb, hl, hm, hlen, hel, _, _⟩
  · exact ⟨none, 0, 0, [], rfl, rfl, ⟨none, 0, rfl, fun i p hi => by simp at hi⟩, fun p hp => by simp at hp⟩
  · rw [hc] at hel
    have each : ∀ i, i < len → ∃ m : ByteArray × ByteArray, m.1.size ≤ 9223372036854775807 ∧ m.2.size ≤ 9223372036854775807 ∧ w.cell? (a.add (i * 2)) = some (.string m.1) ∧ w.cell? ((a.add (i * 2)).add 1) = some (.string m.2) := fun i hi => by
      have h1 := hel i hi
      rw [List.getElem?_eq_getElem (by omega), Option.bind_eq_some_iff] at h1
      obtain ⟨cs', hcs, hy⟩ := h1
      obtain ⟨x, y, rfl, c0, c1⟩ := cells2 hcs
      obtain ⟨p, q, hp, hq, rfl, rfl⟩ := open_rngD hy
      exact ⟨(p, q), hp, hq, c0, c1⟩
    obtain ⟨f, hf⟩ := choose_lt each
    refine ⟨some a, len, cap, (List.range len).map f, rfl, by simp, ⟨some a, cap, by simp, fun i p hi => ?_⟩, fun p hp => ?_⟩
    · simp only [List.getElem?_map, Option.map_eq_some_iff] at hi
      obtain ⟨j, hj, rfl⟩ := hi
      obtain ⟨hj1, hj2⟩ := List.getElem?_eq_some_iff.1 hj
      simp only [List.getElem_range] at hj2
      subst hj2
      have hi' : i < len := by simpa using hj1
      obtain ⟨_, _, h3, h4⟩ := hf i hi'
      obtain ⟨_, _, h30, _⟩ := hf 0 (by omega)
      have hsp : a.spot = none := by
        have := World.cell?_spot h30
        rw [Nat.zero_mul, add_z] at this; exact this
      obtain ⟨b, off, s⟩ := a
      dsimp only at hsp
      subst hsp
      refine ⟨b, off, rfl, ?_, ?_⟩
      · rw [add_n (a := ⟨b, off, none⟩) rfl (i * 2)] at h3; exact h3
      · rw [add_n (a := ⟨b, off, none⟩) rfl (i * 2), add_n (a := ⟨b, off + i * 2, none⟩) rfl 1] at h4; exact h4
    · simp only [List.mem_map, List.mem_range] at hp
      obtain ⟨i, hi, rfl⟩ := hp
      exact ⟨(hf i hi).1, (hf i hi).2.1⟩
set_option maxRecDepth 100000 in
theorem open_nums {fuel : Nat} {cs : List Value} {x : DataW H × List MemPlace} (h : DataW.trod enc Tryd.prog w base spare held fuel 47 cs = some x) :
    ∃ (a : Option Addr) (len cap : Nat) (l : List Int), cs = [.slice a len cap] ∧ l.length = len ∧ SlI w (.slice a len cap) l := by
  rcases open_ints Tryd.underlying47 Tryd.underlying3 (by kernel_rfl) h with ⟨rfl, _⟩ | ⟨a, len, cap, zs, rfl, _, hlc, hcm, hzl, _, hcell, _⟩
  · exact ⟨none, 0, 0, [], rfl, rfl, ⟨none, 0, rfl, fun i p hi => by simp at hi⟩⟩
  · have hz : len ≤ zs.length := by split at hzl <;> omega
    refine ⟨some a, len, cap, zs.take len, rfl, by rw [List.length_take]; omega, ⟨some a, cap, by rw [List.length_take, Nat.min_eq_left hz], fun i p hi => ?_⟩⟩
    rw [List.getElem?_take] at hi
    split at hi
    case isFalse => simp at hi
    rename_i hlt
    have hi' : i < zs.length := by omega
    have h0 := hcell 0 (by omega)
    have h1 := hcell i hi'
    have hsp : a.spot = none := by
      have := World.cell?_spot h0
      rw [add_z] at this; exact this
    obtain ⟨b, off, s⟩ := a
    dsimp only at hsp
    subst hsp
    refine ⟨b, off, rfl, ?_⟩
    rw [add_n rfl] at h1
    refine h1.trans ?_
    rw [List.getD_eq_getElem?_getD, hi]
    rfl
set_option maxRecDepth 100000 in
theorem open_slR {W : World} {r : Reach} {b : Nat} {v : Value} (h : Value.okWide Tryd.prog W r b 45 v) : ∃ a n c, v = .slice a n c := by
  simp only [Value.okWide, Cell.okWide, Tryd.underlying45] at h
  cases v <;> simp_all [Cell.ok]
set_option maxRecDepth 100000 in
theorem open_slI {W : World} {r : Reach} {b : Nat} {v : Value} (h : Value.okWide Tryd.prog W r b 47 v) : ∃ a n c, v = .slice a n c := by
  simp only [Value.okWide, Cell.okWide, Tryd.underlying47] at h
  cases v <;> simp_all [Cell.ok]
set_option maxRecDepth 100000 in
theorem open_stp {W : World} {r : Reach} {b : Nat} {v : Value} (h : Value.okWide Tryd.prog W r b 68 v) :
    ∃ (x y : ByteArray) (g : Int) (q : Bool), v = .agg #[.string x, .string y, .int .i64 g, .bool q] ∧ x.size ≤ 9223372036854775807 ∧ y.size ≤ 9223372036854775807 := by
  obtain ⟨cs, rfl, hsz, hc⟩ := row_cellsF (ts := [9, 9, 3, 4]) Tryd.underlying68 (by kernel_rfl) (by kernel_rfl) h
  obtain ⟨l⟩ := cs
  match l, hsz with
  | [c0, c1, c2, c3], _ =>
    obtain ⟨x, rfl, hx⟩ := cell_strP Tryd.underlying9 (hc 0 (by decide) c0 rfl)
    obtain ⟨y, rfl, hy⟩ := cell_strP Tryd.underlying9 (hc 1 (by decide) c1 rfl)
    obtain ⟨g, rfl, _⟩ := cell_intP Tryd.underlying3 (hc 2 (by decide) c2 rfl)
    obtain ⟨q, rfl⟩ := cell_boolP Tryd.underlying4 (hc 3 (by decide) c3 rfl)
    exact ⟨x, y, g, q, rfl, hx, hy⟩
end
end Go.Proofs.YtkkkppbcjmeapaaDoor
