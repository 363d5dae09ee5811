/- The frame of this seat's statements: the listed table in a world; a world for the witness; what a law that returns true and keeps memory answers. No condition. -/
import Derived.Test.YtmbnhbocablgeaaDoorCards
import Derived.Test.YtmbnhbocablgeaaDoorTie
import Derived.Test.YtmbnhbocablgeaaDoorText
import Derived.WalkKit
import Derived.ProofKit
import Derived.OpenShut
import Derived.ReadAgain
import Derived.Deep.DeepHandedRow
import Derived.Deep.DeepWitnessRowRef
import Derived.Lib.LaidTab
import Derived.Lib.LaidU8
import Derived.Lib.SmallJoins
import Derived.Lay
import Derived.MakeChecks
import Derived.Lib.AtoiErrMem
namespace Go.Proofs.YtmbnhbocablgeaaDoor
open Go.ChangeShapes Go.WideShapes Go.ChangeAt Go.RowKit

abbrev laidL : List (String × DataW Unit) := Rows.identNumbersRow.laid

theorem own : ownKnob Tryd.prog.godebug = none := by kernel_rfl

theorem pow_of {W : World} (h : laidMetH Tryd.prog laidL W) : Pow W := by
  rw [MakeChecks.laidMetH_plain _ _ _ (by kernel_rfl)] at h
  obtain ⟨g, t, cs, fuel, p, hg, ht, hv, hd⟩ := Lib.laidMet.reads h (n := "internal/strconv.uint64pow10") (d := Rows.laid_internal_strconv_uint64pow10) (List.Mem.tail _ (List.Mem.tail _ (List.Mem.head _)))
  obtain rfl := Option.some.inj (gPow.symm.trans hg)
  have ht' : (Tryd.prog.globals[1]?).map (·.type) = some 136 := by kernel_rfl
  obtain rfl := Option.some.inj (ht'.symm.trans ht)
  have hcs := Lib.cells_of_tab (n := 20) (e := 107) (k := .u64) (zs := Lib.pow10Tab) Tryd.underlying136 Tryd.underlying107 (by kernel_rfl) (by kernel_rfl) hd
  refine ⟨?_, ?_⟩
  · unfold Lib.TabIs
    rw [hv, ← hcs]
  · have h0 : W.cell? ⟨1, 0, none⟩ = some (.int .u64 1) := by
      have := World.var?_cell hg hv 0
      rw [this]
      have : cs[0]? = cs.toList[0]? := by simp
      rw [this, hcs]
      rfl
    exact Lib.lt_of_cell h0

/-- A world for the witness. -/
noncomputable def laidWorld (os : Os) : World := World.laidAll Tryd.prog os laidL
theorem laid_met (os : Os) (args : Array Value) : laidMetH Tryd.prog laidL ((laidWorld os).forCall (fun _ _ => 0) ⟨#[], args, []⟩).memory := by
  rw [MakeChecks.laidMetH_plain _ _ _ (by kernel_rfl)]
  exact laidMet_laidAll args (by kernel_rfl) (by kernel_rfl)

theorem kids : Kids Tryd.prog (· < Tryd.prog.types.size) := kids_rows (by kernel_rfl) (by kernel_rfl)
theorem full : ∀ t e, t < Tryd.prog.types.size → Tryd.prog.underlying t = some (.slice e) → 0 < Tryd.prog.cellsOf e := slices_full_of _ (by kernel_rfl)

theorem carryAll {H : Type} {enc : TypeId × Value → H} {P : Program} {W W' : World} {b : Nat} {sp : Nat → Bool} {hd : Bool} : ∀ {ts : List TypeId} {vs : List Value} {ds : List (DataW H)} {ps : List MemPlace},
    DataW.TrodAll enc P W b sp hd ts vs ds ps → (∀ p ∈ ps, W.sameAt W' p) → DataW.TrodAll enc P W' b sp hd ts vs ds ps
  | [], [], [], _, h, _ => h
  | _ :: _, _ :: _, _ :: _, _, ⟨p, q, ⟨n, h1⟩, h2, e⟩, hs =>
    ⟨p, q, ⟨n, DataW.trod_carry n _ _ _ h1 (fun x hx => hs x (by rw [e]; exact List.mem_append_left _ hx))⟩, carryAll h2 (fun x hx => hs x (by rw [e]; exact List.mem_append_right _ hx)), e⟩

theorem cell_intP {P : Program} {W : World} {r : Reach} {b : Nat} {t : TypeId} {v : Value} (ht : P.underlying t = some (.int .i64)) (h : Cell.okWide P W r b t v) : ∃ n : Int, v = .int .i64 n ∧ -9223372036854775808 ≤ n ∧ n ≤ 9223372036854775807 := by
  simp only [Cell.okWide, ht] at h
  have hv : ∃ n : Int, v = .int .i64 n ∧ IntKind.i64.has n := by cases v <;> simp_all [Cell.ok]
  obtain ⟨n, rfl, h1⟩ := hv
  have e1 : IntKind.i64.min = -9223372036854775808 := by decide
  have e2 : IntKind.i64.max = 9223372036854775807 := by decide
  unfold IntKind.has at h1
  rw [e1, e2] at h1
  exact ⟨n, rfl, h1⟩
theorem cell_boolP {P : Program} {W : World} {r : Reach} {b : Nat} {t : TypeId} {v : Value} (ht : P.underlying t = some .bool) (h : Cell.okWide P W r b t v) : ∃ n : Bool, v = .bool n := by
  simp only [Cell.okWide, ht] at h
  cases v <;> simp_all [Cell.ok]
set_option maxRecDepth 100000 in
theorem cell_int {W : World} {r : Reach} {b : Nat} {v : Value} (h : Cell.okWide Tryd.prog W r b 3 v) : ∃ n : Int, v = .int .i64 n ∧ -9223372036854775808 ≤ n ∧ n ≤ 9223372036854775807 := cell_intP Tryd.underlying3 h
set_option maxRecDepth 100000 in
theorem cell_bool {W : World} {r : Reach} {b : Nat} {v : Value} (h : Cell.okWide Tryd.prog W r b 4 v) : ∃ n : Bool, v = .bool n := cell_boolP Tryd.underlying4 h
set_option maxRecDepth 100000 in
theorem row_cells {W : World} {r : Reach} {b : Nat} {t : TypeId} {v : Value} {fs : Array Field} {ts : List TypeId} (ht : Tryd.prog.underlying t = some (.struct fs)) (hts : Tryd.prog.cellTypes Tryd.prog.depth t = some ts) (hC : Tryd.prog.cellsOf t = ts.length)
    (h : Value.okWide Tryd.prog W r b t v) : ∃ cs : Array Value, v = .agg cs ∧ cs.size = ts.length ∧ ∀ i (hi : i < ts.length) w, cs[i]? = some w → Cell.okWide Tryd.prog W r b ts[i] w := by
  simp only [Value.okWide, ht] at h
  obtain ⟨cs, rfl, hsz, ts', h1, _, h3⟩ := h
  obtain rfl := Option.some.inj (hts.symm.trans h1)
  refine ⟨cs, rfl, hsz.trans hC, fun i hi w hw => ?_⟩
  obtain ⟨u, hu, hk⟩ := h3 i w hw
  rw [Nat.mod_eq_of_lt hi, List.getElem?_eq_getElem hi] at hu
  obtain rfl := Option.some.inj hu
  exact hk

/-- WHAT A LAW ANSWERS that returned true and kept what lay. -/
theorem post_law {H : Type} {enc : TypeId × Value → H} {f : Func} {s : ChangeSpec} {W W' : World} {args : Array Value} {ds gs : List (DataW H)} {before : List MemPlace}
    (hv : s.vars = []) (hrt : f.resultTypes = #[4]) (hts : ∀ t ∈ f.params.toList, t < Tryd.prog.types.size)
    (hW : DataW.Whole enc Tryd.prog f.params.toList s.vars false W args.toList ds gs before)
    (hfn : s.fn H ds = { results := [.lit (.bool true)], args := ds }) (hb : Below W.heap.size W W') :
    s.post enc Tryd.prog f false true false false W args (.bool true) W' := by
  have hW' := hW
  have hlt := hW.lt
  obtain ⟨p, q, hA, hV, rfl, hfz, hnd⟩ := hW
  rw [hv] at hV
  obtain ⟨rfl, rfl⟩ := trodVars_none hV
  refine ⟨ds, [], p ++ [], [], p, [], hW', ?_, ?_, ?_, hb.frame _, fun h => by cases h⟩
  · rw [List.append_nil, hfn, hrt]
    exact trodAll_mk1 (shut_bool Tryd.underlying4 _)
  · rw [List.append_nil, hfn]
    have h1 : DataW.TrodAll enc Tryd.prog W 0 (fun b => decide (b < W.heap.size)) true f.params.toList args.toList ds p :=
      DataW.TrodAll.respare kids full hts hA (fun x hx => by simpa using hlt x (by simpa using hx))
    exact carryAll h1 (fun x hx => hb.same (hlt x (by simpa using hx)))
  · rw [hv, List.append_nil, hfn]
    rfl

structure I64 (n : Int) : Prop where
  lo : -9223372036854775808 ≤ n
  hi : n ≤ 9223372036854775807

set_option maxRecDepth 100000 in
theorem open_eff {W : World} {r : Reach} {b : Nat} {v : Value} (h : Value.okWide Tryd.prog W r b 23 v) :
    ∃ x y z : Int, v = .agg #[.int .i64 x, .int .i64 y, .int .i64 z] ∧ I64 x ∧ I64 y ∧ I64 z := by
  obtain ⟨cs, rfl, hsz, hc⟩ := row_cells (ts := [3, 3, 3]) Tryd.underlying23 (by kernel_rfl) (by kernel_rfl) h
  obtain ⟨l⟩ := cs
  match l, hsz with
  | [c0, c1, c2], _ =>
    obtain ⟨x, rfl, x1, x2⟩ := cell_int (hc 0 (by decide) c0 rfl)
    obtain ⟨y, rfl, y1, y2⟩ := cell_int (hc 1 (by decide) c1 rfl)
    obtain ⟨z, rfl, z1, z2⟩ := cell_int (hc 2 (by decide) c2 rfl)
    exact ⟨x, y, z, rfl, ⟨x1, x2⟩, ⟨y1, y2⟩, ⟨z1, z2⟩⟩
set_option maxRecDepth 100000 in
theorem open_item {W : World} {r : Reach} {b : Nat} {v : Value} (h : Value.okWide Tryd.prog W r b 33 v) :
    ∃ (x y z m : Int) (i : Bool) (g : Int), v = .agg #[.int .i64 x, .int .i64 y, .int .i64 z, .int .i64 m, .bool i, .int .i64 g] ∧ I64 x ∧ I64 y ∧ I64 z ∧ I64 m ∧ I64 g := by
  obtain ⟨cs, rfl, hsz, hc⟩ := row_cells (ts := [3, 3, 3, 3, 4, 3]) Tryd.underlying33 (by kernel_rfl) (by kernel_rfl) h
  obtain ⟨l⟩ := cs
  match l, hsz with
  | [c0, c1, c2, c3, c4, c5], _ =>
    obtain ⟨x, rfl, x1, x2⟩ := cell_int (hc 0 (by decide) c0 rfl)
    obtain ⟨y, rfl, y1, y2⟩ := cell_int (hc 1 (by decide) c1 rfl)
    obtain ⟨z, rfl, z1, z2⟩ := cell_int (hc 2 (by decide) c2 rfl)
    obtain ⟨m, rfl, m1, m2⟩ := cell_int (hc 3 (by decide) c3 rfl)
    obtain ⟨i, rfl⟩ := cell_bool (hc 4 (by decide) c4 rfl)
    obtain ⟨g, rfl, g1, g2⟩ := cell_int (hc 5 (by decide) c5 rfl)
    exact ⟨x, y, z, m, i, g, rfl, ⟨x1, x2⟩, ⟨y1, y2⟩, ⟨z1, z2⟩, ⟨m1, m2⟩, ⟨g1, g2⟩⟩
end Go.Proofs.YtmbnhbocablgeaaDoor
