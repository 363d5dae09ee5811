/- The frame of statements on commands that numbers make: the table of kinds out of the listed variables; the numbers as an argument. No condition. -/
import Derived.Test.YtgjnmfmbheejoaaGreatDoorFrame33T
import Derived.Test.YtgjnmfmbheejoaaGreatDoorCmTxS
import Derived.Test.YtgjnmfmbheejoaaGreatDoorCmNam
import Derived.ChangeSlices
namespace Go.Proofs.YtgjnmfmbheejoaaGreatDoor
open Go.ChangeShapes Go.WideShapes Go.ChangeAt Go.RowKit Go.Deep

theorem lits_inj {k : IntKind} : ∀ {zs ys : List Int}, (lits k zs : List (DataW Unit)) = lits k ys → zs = ys
  | [], [], _ => rfl
  | [], y :: ys, h => by simp [lits] at h
  | z :: zs, [], h => by simp [lits] at h
  | z :: zs, y :: ys, h => by
    unfold lits at h
    rw [List.map_cons, List.map_cons] at h
    injection h with h1 h2
    have e1 : z = y := by
      injection h1 with h3
      injection h3
    rw [e1, lits_inj (k := k) (zs := zs) (ys := ys) h2]
theorem gKnd : Tryz.prog.globalNamed "skald/skaldlaw33.kinds" = some 0 := by kernel_rfl
theorem knd_gen {W : World} {laid : List (String × DataW Unit)} (hpl : laidMetH Tryz.prog laid W = laidMet Tryz.prog laid W) (hm : ("skald/skaldlaw33.kinds", Rows.laid_skald_skaldlaw33_kinds) ∈ laid) (h : laidMetH Tryz.prog laid W) : KndE W := by
  rw [hpl] at h
  obtain ⟨g, t, cs, fuel, p, hg, ht, hv, hd⟩ := Lib.laidMet.reads h (n := "skald/skaldlaw33.kinds") (d := Rows.laid_skald_skaldlaw33_kinds) hm
  obtain rfl := Option.some.inj (gKnd.symm.trans hg)
  have ht' : (Tryz.prog.globals[0]?).map (·.type) = some 66 := by kernel_rfl
  obtain rfl := Option.some.inj (ht'.symm.trans ht)
  rcases open_ints Tryz.underlying66 Tryz.underlying3 (by kernel_rfl) hd with ⟨_, hx⟩ | ⟨a, len, cap, zs, hcs, _, hlc, _, hzl, hx, hcell, _⟩
  · cases hx
  · have h1 := (Prod.mk.inj hx).1
    unfold Rows.laid_skald_skaldlaw33_kinds at h1
    injection h1 with h2 h3
    have h4 : zs.drop len = [] := by
      cases hl : zs.drop len with
      | nil => rfl
      | cons z l => rw [hl] at h3; simp [lits] at h3
    have h5 : zs.take len = kindsL := by
      have : lits IntKind.i64 (zs.take len) = lits IntKind.i64 kindsL := h2.symm
      exact lits_inj this
    have h6 : zs = kindsL := by rw [← List.take_append_drop len zs, h4, List.append_nil, h5]
    have hlen : len = 10 := by
      have e1 := congrArg List.length h4
      have e2 := congrArg List.length h5
      rw [List.length_drop] at e1
      rw [List.length_take] at e2
      rw [h6] at e1 e2
      have hk : kindsL.length = 10 := rfl
      rw [h6, hk] at hzl
      rw [hk] at e1 e2
      have hge : len ≤ 10 := by
        split at hzl <;> omega
      have hn : ([] : List Int).length = 0 := rfl
      rw [hn] at e1
      omega
    subst h6
    subst hlen
    have h0 := hcell 0 (by decide)
    have hsp : a.spot = none := by
      have := World.cell?_spot h0
      rw [add_z] at this; exact this
    obtain ⟨b, o, s⟩ := a
    dsimp only at hsp
    subst hsp
    refine ⟨b, o, cap, ?_, fun i hi => ?_⟩
    · have hc := World.var?_cell hg hv 0
      rw [hc]
      have : cs[0]? = cs.toList[0]? := by simp
      rw [this, hcs]
      rfl
    · have hc := hcell i hi
      rw [add_n rfl] at hc
      rw [hc, List.getD_eq_getElem?_getD]
theorem knd_of {W : World} (h : laidMetH Tryz.prog laidL W) : KndE W := knd_gen (laid_plain W) (List.Mem.tail _ (List.Mem.tail _ (List.Mem.tail _ (List.Mem.tail _ (List.Mem.tail _ (List.Mem.tail _ (List.Mem.head _))))))) h
set_option maxRecDepth 100000 in
theorem tx_gen {W : World} {laid : List (String × DataW Unit)} (hpl : laidMetH Tryz.prog laid W = laidMet Tryz.prog laid W) (hm : ("strings.asciiSpace", Rows.laid_strings_asciiSpace) ∈ laid) (h : laidMetH Tryz.prog laid W) : TxE W := by
  rw [hpl] at h
  obtain ⟨g, t, cs, fuel, p, hg, ht, hv, hd⟩ := Lib.laidMet.reads h (n := "strings.asciiSpace") (d := Rows.laid_strings_asciiSpace) hm
  obtain rfl := Option.some.inj (gSpc.symm.trans hg)
  have ht' : (Tryz.prog.globals[1]?).map (·.type) = some 142 := by kernel_rfl
  obtain rfl := Option.some.inj (ht'.symm.trans ht)
  have hcs := Lib.cells_of_tab (n := 256) (e := 5) (k := .u8) (zs := Lib.asciiSpaceTab) Tryz.underlying142 Tryz.underlying5 (by kernel_rfl) (by kernel_rfl) hd
  refine ⟨?_, ?_⟩
  · unfold Lib.TabIs
    rw [hv, ← hcs]
  · have h0 : W.cell? ⟨1, 0, none⟩ = some (.int .u8 0) := by
      have := World.var?_cell hg hv 0
      rw [this]
      have : cs[0]? = cs.toList[0]? := by simp
      rw [this, hcs]
      rfl
    exact Lib.lt_of_cell h0
theorem tx_of {W : World} (h : laidMetH Tryz.prog laidL W) : TxE W := tx_gen (laid_plain W) (List.Mem.tail _ (List.Mem.tail _ (List.Mem.tail _ (List.Mem.tail _ (List.Mem.tail _ (List.Mem.head _)))))) h
theorem cell_hasP {P : Program} {W : World} {r : Reach} {b : Nat} {t : TypeId} {v : Value} {k : IntKind} (ht : P.underlying t = some (.int k)) (h : Cell.okWide P W r b t v) : ∃ n : Int, v = .int k n ∧ IntKind.min k ≤ n ∧ n ≤ IntKind.max k := by
  simp only [Cell.okWide, ht] at h
  have hv : ∃ n : Int, v = .int k n ∧ IntKind.has k n := by cases v <;> simp_all [Cell.ok]
  obtain ⟨n, rfl, h1⟩ := hv
  exact ⟨n, rfl, h1⟩
set_option maxRecDepth 100000 in
/-- The numbers of an argument. -/
theorem open_nums {W : World} {r : Reach} {b : Nat} {v : Value} (h : Value.okWide Tryz.prog W r b 62 v) : ∃ x : Nv, v = .agg (nA x) ∧ NvZ x := by
  obtain ⟨cs, rfl, hsz, hc⟩ := row_cells (ts := [5, 5, 5, 5, 59, 59, 60, 2]) Tryz.underlying62 (by kernel_rfl) (by kernel_rfl) h
  obtain ⟨l⟩ := cs
  match l, hsz with
  | [c0, c1, c2, c3, c4, c5, c6, c7], _ =>
    obtain ⟨n0, rfl, a0, b0⟩ := cell_hasP Tryz.underlying5 (hc 0 (by decide) c0 rfl)
    obtain ⟨n1, rfl, a1, b1⟩ := cell_hasP Tryz.underlying5 (hc 1 (by decide) c1 rfl)
    obtain ⟨n2, rfl, a2, b2⟩ := cell_hasP Tryz.underlying5 (hc 2 (by decide) c2 rfl)
    obtain ⟨n3, rfl, a3, b3⟩ := cell_hasP Tryz.underlying5 (hc 3 (by decide) c3 rfl)
    obtain ⟨n4, rfl, a4, b4⟩ := cell_hasP Tryz.underlying59 (hc 4 (by decide) c4 rfl)
    obtain ⟨n5, rfl, a5, b5⟩ := cell_hasP Tryz.underlying59 (hc 5 (by decide) c5 rfl)
    obtain ⟨n6, rfl, a6, b6⟩ := cell_hasP Tryz.underlying60 (hc 6 (by decide) c6 rfl)
    obtain ⟨n7, rfl, a7, b7⟩ := cell_hasP Tryz.underlying2 (hc 7 (by decide) c7 rfl)
    rw [show IntKind.u8.min = 0 by decide] at a0 a1 a2 a3
    rw [show IntKind.u8.max = 255 by decide] at b0 b1 b2 b3
    rw [show IntKind.u16.min = 0 by decide] at a4 a5
    rw [show IntKind.u16.max = 65535 by decide] at b4 b5
    rw [show IntKind.u32.min = 0 by decide] at a6
    rw [show IntKind.u32.max = 4294967295 by decide] at b6
    rw [show IntKind.i64.min = -9223372036854775808 by decide] at a7
    rw [show IntKind.i64.max = 9223372036854775807 by decide] at b7
    obtain ⟨m0, rfl⟩ := Int.eq_ofNat_of_zero_le a0
    obtain ⟨m1, rfl⟩ := Int.eq_ofNat_of_zero_le a1
    obtain ⟨m2, rfl⟩ := Int.eq_ofNat_of_zero_le a2
    obtain ⟨m3, rfl⟩ := Int.eq_ofNat_of_zero_le a3
    obtain ⟨m4, rfl⟩ := Int.eq_ofNat_of_zero_le a4
    obtain ⟨m5, rfl⟩ := Int.eq_ofNat_of_zero_le a5
    obtain ⟨m6, rfl⟩ := Int.eq_ofNat_of_zero_le a6
    exact ⟨⟨m0, m1, m2, m3, m4, m5, m6, n7⟩, rfl, ⟨by dsimp only; omega, by dsimp only; omega, by dsimp only; omega, by dsimp only; omega, by dsimp only; omega, by dsimp only; omega, by dsimp only; omega, ⟨a7, b7⟩⟩⟩
end Go.Proofs.YtgjnmfmbheejoaaGreatDoor
