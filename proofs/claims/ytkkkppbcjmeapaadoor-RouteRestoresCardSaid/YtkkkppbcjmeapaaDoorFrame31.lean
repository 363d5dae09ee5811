/- The frame of the statements on maps of ranges: a world for the witness; what a law that returns true and keeps memory answers. No condition. -/
import Derived.Test.YtkkkppbcjmeapaaDoorCards
import Derived.Test.YtkkkppbcjmeapaaDoorTie
import Derived.Test.YtkkkppbcjmeapaaDoorProg
import Derived.WalkKit
import Derived.ProofKit
import Derived.OpenShut
import Derived.ReadAgain
import Derived.Deep.DeepHandedRow
import Derived.Deep.DeepWitnessRowRef
import Derived.Lib.SmallJoins
import Derived.Lay
import Derived.MakeChecks
import Derived.Lib.AtoiErrMem
namespace Go.Proofs.YtkkkppbcjmeapaaDoor
open Go.ChangeShapes Go.WideShapes Go.ChangeAt Go.RowKit

abbrev laidL : List (String × DataW Unit) := Rows.routeNilRow.laid

theorem own : ownKnob Tryd.prog.godebug = none := by kernel_rfl

/-- A world for the witness. -/
noncomputable def laidWorld (os : Os) : World := World.laidAll Tryd.prog os laidL
theorem laid_met (os : Os) (args : Array Value) : laidMetH Tryd.prog laidL ((laidWorld os).forCall (fun _ _ => 0) ⟨#[], args, []⟩).memory := by
  rw [MakeChecks.laidMetH_plain _ _ _ (by kernel_rfl)]
  exact laidMet_laidAll args (by kernel_rfl) (by kernel_rfl)

theorem kids : Kids Tryd.prog (· < Tryd.prog.types.size) := kids_rows (by kernel_rfl) (by kernel_rfl)
theorem full : ∀ t e, t < Tryd.prog.types.size → Tryd.prog.underlying t = some (.slice e) → 0 < Tryd.prog.cellsOf e := slices_full_of _ (by kernel_rfl)

theorem carryAll {H : Type} {enc : TypeId × Value → H} {P : Program} {W W' : World} {b : Nat} {sp : Nat → Bool} {hd : Bool} : ∀ {ts : List TypeId} {vs : List Value} {ds : List (DataW H)} {ps : List MemPlace},
    DataW.TrodAll enc P W b sp hd ts vs ds ps → (∀ p ∈ ps, W.sameAt W' p) → DataW.TrodAll enc P W' b sp hd ts vs ds ps
  | [], [], [], _, h, _ => h
  | _ :: _, _ :: _, _ :: _, _, ⟨p, q, ⟨n, h1⟩, h2, e⟩, hs =>
    ⟨p, q, ⟨n, DataW.trod_carry n _ _ _ h1 (fun x hx => hs x (by rw [e]; exact List.mem_append_left _ hx))⟩, carryAll h2 (fun x hx => hs x (by rw [e]; exact List.mem_append_right _ hx)), e⟩

theorem cell_intP {P : Program} {W : World} {r : Reach} {b : Nat} {t : TypeId} {v : Value} (ht : P.underlying t = some (.int .i64)) (h : Cell.okWide P W r b t v) : ∃ n : Int, v = .int .i64 n ∧ -9223372036854775808 ≤ n ∧ n ≤ 9223372036854775807 := by
  simp only [Cell.okWide, ht] at h
  have hv : ∃ n : Int, v = .int .i64 n ∧ IntKind.i64.has n := by cases v <;> simp_all [Cell.ok]
  obtain ⟨n, rfl, h1⟩ := hv
  have e1 : IntKind.i64.min = -9223372036854775808 := by decide
  have e2 : IntKind.i64.max = 9223372036854775807 := by decide
  unfold IntKind.has at h1
  rw [e1, e2] at h1
  exact ⟨n, rfl, h1⟩
theorem cell_boolP {P : Program} {W : World} {r : Reach} {b : Nat} {t : TypeId} {v : Value} (ht : P.underlying t = some .bool) (h : Cell.okWide P W r b t v) : ∃ n : Bool, v = .bool n := by
  simp only [Cell.okWide, ht] at h
  cases v <;> simp_all [Cell.ok]
set_option maxRecDepth 100000 in
theorem row_cellsF {W : World} {r : Reach} {b : Nat} {t : TypeId} {v : Value} {fs : Array Field} {ts : List TypeId} (ht : Tryd.prog.underlying t = some (.struct fs)) (hts : Tryd.prog.cellTypes Tryd.prog.depth t = some ts) (hC : Tryd.prog.cellsOf t = ts.length)
    (h : Value.okWide Tryd.prog W r b t v) : ∃ cs : Array Value, v = .agg cs ∧ cs.size = ts.length ∧ ∀ i (hi : i < ts.length) w, cs[i]? = some w → Cell.okWide Tryd.prog W r b ts[i] w := by
  simp only [Value.okWide, ht] at h
  obtain ⟨cs, rfl, hsz, ts', h1, _, h3⟩ := h
  obtain rfl := Option.some.inj (hts.symm.trans h1)
  refine ⟨cs, rfl, hsz.trans hC, fun i hi w hw => ?_⟩
  obtain ⟨u, hu, hk⟩ := h3 i w hw
  rw [Nat.mod_eq_of_lt hi, List.getElem?_eq_getElem hi] at hu
  obtain rfl := Option.some.inj hu
  exact hk

/-- WHAT A LAW ANSWERS that returned true and kept what lay. -/
theorem post_law {H : Type} {enc : TypeId × Value → H} {f : Func} {s : ChangeSpec} {W W' : World} {args : Array Value} {ds gs : List (DataW H)} {before : List MemPlace}
    (hv : s.vars = []) (hrt : f.resultTypes = #[4]) (hts : ∀ t ∈ f.params.toList, t < Tryd.prog.types.size)
    (hW : DataW.Whole enc Tryd.prog f.params.toList s.vars false W args.toList ds gs before)
    (hfn : s.fn H ds = { results := [.lit (.bool true)], args := ds }) (hb : Below W.heap.size W W') :
    s.post enc Tryd.prog f false true false false W args (.bool true) W' := by
  have hW' := hW
  have hlt := hW.lt
  obtain ⟨p, q, hA, hV, rfl, hfz, hnd⟩ := hW
  rw [hv] at hV
  obtain ⟨rfl, rfl⟩ := trodVars_none hV
  refine ⟨ds, [], p ++ [], [], p, [], hW', ?_, ?_, ?_, hb.frame _, fun h => by cases h⟩
  · rw [List.append_nil, hfn, hrt]
    exact trodAll_mk1 (shut_bool Tryd.underlying4 _)
  · rw [List.append_nil, hfn]
    have h1 : DataW.TrodAll enc Tryd.prog W 0 (fun b => decide (b < W.heap.size)) true f.params.toList args.toList ds p :=
      DataW.TrodAll.respare kids full hts hA (fun x hx => by simpa using hlt x (by simpa using hx))
    exact carryAll h1 (fun x hx => hb.same (hlt x (by simpa using hx)))
  · rw [hv, List.append_nil, hfn]
    rfl

theorem cell_strP {P : Program} {W : World} {r : Reach} {b : Nat} {t : TypeId} {v : Value} (ht : P.underlying t = some .string) (h : Cell.okWide P W r b t v) : ∃ s : ByteArray, v = .string s ∧ s.size ≤ 9223372036854775807 := by
  simp only [Cell.okWide, ht] at h
  have hv : ∃ s : ByteArray, v = .string s ∧ (s.size : Int) ≤ IntKind.i64.max := by cases v <;> simp_all [Cell.ok]
  obtain ⟨s, rfl, h1⟩ := hv
  rw [show IntKind.i64.max = 9223372036854775807 by decide] at h1
  exact ⟨s, rfl, by omega⟩
set_option maxRecDepth 100000 in
theorem open_rng {W : World} {r : Reach} {b : Nat} {v : Value} (h : Value.okWide Tryd.prog W r b 30 v) :
    ∃ x y : ByteArray, v = .agg #[.string x, .string y] ∧ x.size ≤ 9223372036854775807 ∧ y.size ≤ 9223372036854775807 := by
  obtain ⟨cs, rfl, hsz, hc⟩ := row_cellsF (ts := [9, 9]) Tryd.underlying30 (by kernel_rfl) (by kernel_rfl) h
  obtain ⟨l⟩ := cs
  match l, hsz with
  | [c0, c1], _ =>
    obtain ⟨x, rfl, hx⟩ := cell_strP Tryd.underlying9 (hc 0 (by decide) c0 rfl)
    obtain ⟨y, rfl, hy⟩ := cell_strP Tryd.underlying9 (hc 1 (by decide) c1 rfl)
    exact ⟨x, y, rfl, hx, hy⟩
theorem open_has {P : Program} {W : World} {r : Reach} {b : Nat} {t : TypeId} {v : Value} {k : IntKind} (ht : P.underlying t = some (.int k)) (h : Value.okWide P W r b t v) : ∃ n : Int, v = .int k n ∧ IntKind.min k ≤ n ∧ n ≤ IntKind.max k := by
  simp only [Value.okWide, Cell.okWide, ht] at h
  have hv : ∃ n : Int, v = .int k n ∧ IntKind.has k n := by cases v <;> simp_all [Cell.ok]
  obtain ⟨n, rfl, h1⟩ := hv
  exact ⟨n, rfl, h1⟩
theorem open_u32 {P : Program} {W : World} {r : Reach} {b : Nat} {t : TypeId} {v : Value} (ht : P.underlying t = some (.int .u32)) (h : Value.okWide P W r b t v) : ∃ n : Int, v = .int .u32 n ∧ 0 ≤ n ∧ n ≤ 4294967295 := by
  obtain ⟨n, h0, h1, h2⟩ := open_has ht h
  rw [show IntKind.u32.min = 0 by decide] at h1
  rw [show IntKind.u32.max = 4294967295 by decide] at h2
  exact ⟨n, h0, h1, h2⟩
theorem open_u16 {P : Program} {W : World} {r : Reach} {b : Nat} {t : TypeId} {v : Value} (ht : P.underlying t = some (.int .u16)) (h : Value.okWide P W r b t v) : ∃ n : Int, v = .int .u16 n ∧ 0 ≤ n ∧ n ≤ 65535 := by
  obtain ⟨n, h0, h1, h2⟩ := open_has ht h
  rw [show IntKind.u16.min = 0 by decide] at h1
  rw [show IntKind.u16.max = 65535 by decide] at h2
  exact ⟨n, h0, h1, h2⟩
theorem open_u8 {P : Program} {W : World} {r : Reach} {b : Nat} {t : TypeId} {v : Value} (ht : P.underlying t = some (.int .u8)) (h : Value.okWide P W r b t v) : ∃ n : Int, v = .int .u8 n ∧ 0 ≤ n ∧ n ≤ 255 := by
  obtain ⟨n, h0, h1, h2⟩ := open_has ht h
  rw [show IntKind.u8.min = 0 by decide] at h1
  rw [show IntKind.u8.max = 255 by decide] at h2
  exact ⟨n, h0, h1, h2⟩
theorem open_i64 {P : Program} {W : World} {r : Reach} {b : Nat} {t : TypeId} {v : Value} (ht : P.underlying t = some (.int .i64)) (h : Value.okWide P W r b t v) : ∃ n : Int, v = .int .i64 n ∧ -9223372036854775808 ≤ n ∧ n ≤ 9223372036854775807 := by
  obtain ⟨n, h0, h1, h2⟩ := open_has ht h
  rw [show IntKind.i64.min = -9223372036854775808 by decide] at h1
  rw [show IntKind.i64.max = 9223372036854775807 by decide] at h2
  exact ⟨n, h0, h1, h2⟩
theorem open_str {P : Program} {W : World} {r : Reach} {b : Nat} {t : TypeId} {v : Value} (ht : P.underlying t = some .string) (h : Value.okWide P W r b t v) : ∃ s : ByteArray, v = .string s ∧ s.size ≤ 9223372036854775807 := by
  simp only [Value.okWide, Cell.okWide, ht] at h
  have hv : ∃ s : ByteArray, v = .string s ∧ (s.size : Int) ≤ IntKind.i64.max := by cases v <;> simp_all [Cell.ok]
  obtain ⟨s, rfl, h1⟩ := hv
  rw [show IntKind.i64.max = 9223372036854775807 by decide] at h1
  exact ⟨s, rfl, by omega⟩
end Go.Proofs.YtkkkppbcjmeapaaDoor
