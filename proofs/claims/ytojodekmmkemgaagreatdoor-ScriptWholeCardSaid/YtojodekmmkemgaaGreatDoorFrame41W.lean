/- Bytes given as an argument, as memory holds them; their number and their room. No condition. -/
import Derived.Test.YtojodekmmkemgaaGreatDoorFrame41
import Derived.ChangeSlices
namespace Go.Proofs.YtojodekmmkemgaaGreatDoor
open Go.ChangeShapes Go.WideShapes Go.ChangeAt Go.RowKit Go.Deep

theorem u8_wf2 {n : Int} (h : (Lit.int .u8 n).wf = true) : 0 ≤ n ∧ n ≤ 255 := by
  simpa [Lit.wf, IntKind.has, IntKind.min, IntKind.max, IntKind.signed, IntKind.bits] using h
set_option maxRecDepth 100000 in
theorem open_bytesC {H : Type} {enc : TypeId × Value → H} {W : World} {r : Reach} {base : Nat} {v : Value} {x : DataW H × List MemPlace} {k : Nat} (ht : DataW.trod enc Tryz.prog W 0 (fun _ => true) true k 23 v.cells.toList = some x)
    (o : Value.okWide Tryz.prog W r base 23 v) : ∃ A n c l, v = .slice A n c ∧ SlB W A n l ∧ n ≤ c ∧ n ≤ 9223372036854775807 := by
  obtain ⟨sa, sl, sc, rfl⟩ : ∃ sa sl sc, v = Value.slice sa sl sc := by
    simp only [Value.okWide, Cell.okWide, Tryz.underlying23] at o
    cases v <;> simp_all [Cell.ok]
  rcases open_ints Tryz.underlying23 Tryz.underlying5 (by kernel_rfl) ht with ⟨hcs, _⟩ | ⟨a, len, cap, zs, hcs, _, hlc, hcm, hzl, _, hcell, hwf⟩
  · simp [Value.cells] at hcs
    obtain ⟨rfl, rfl, rfl⟩ := hcs
    exact ⟨none, 0, 0, [], rfl, ⟨rfl, fun i c h => by simp at h⟩, Nat.le_refl _, by omega⟩
  · simp [Value.cells] at hcs
    obtain ⟨rfl, rfl, rfl⟩ := hcs
    simp only [if_true] at hzl
    unfold maxLen at hcm
    refine ⟨some a, sl, sc, (zs.take sl).map (fun z => z.toNat.toUInt8), rfl, ⟨by rw [List.length_map, List.length_take]; omega, fun i c hi => ?_⟩, by omega, by omega⟩
    rw [List.getElem?_map, List.getElem?_take] at hi
    split at hi
    case isFalse => simp at hi
    rename_i hlt
    have hi' : i < zs.length := by omega
    rw [List.getElem?_eq_getElem hi'] at hi
    simp only [Option.map_some, Option.some.injEq] at hi
    have hb := u8_wf2 (hwf _ (List.getElem_mem hi'))
    have h0 := hcell 0 (by omega)
    have h1 := hcell i hi'
    have hsp : a.spot = none := by
      have := World.cell?_spot h0
      rw [add_z] at this; exact this
    obtain ⟨b, off, s⟩ := a
    dsimp only at hsp
    subst hsp
    refine ⟨b, off, rfl, ?_⟩
    rw [add_n rfl] at h1
    refine h1.trans ?_
    unfold u8V
    rw [← hi, u8_lt (by omega), Int.toNat_of_nonneg hb.1, List.getD_eq_getElem?_getD, List.getElem?_eq_getElem hi']
    rfl
end Go.Proofs.YtojodekmmkemgaaGreatDoor
