/- The frame of the statements on scripts: the listed variables in a world; a world for the witness; what a law that returns true and keeps memory answers. No condition. -/
import Derived.Test.YtojodekmmkemgaaGreatDoorCards
import Derived.Test.YtojodekmmkemgaaGreatDoorTie
import Derived.Test.YtojodekmmkemgaaGreatDoorDfS
import Derived.Lib.LaidTab
import Derived.Lib.LaidU8
import Derived.LaidLaws
import Derived.WalkKit
import Derived.ProofKit
import Derived.OpenShut
import Derived.ReadAgain
import Derived.Deep.DeepHandedRow
import Derived.Deep.DeepWitnessRowRef
import Derived.Lib.SmallJoins
import Derived.Lay
import Derived.MakeChecks
import Derived.Lib.AtoiErrMem
namespace Go.Proofs.YtojodekmmkemgaaGreatDoor
open Go.ChangeShapes Go.WideShapes Go.ChangeAt Go.RowKit

abbrev laidL : List (String × DataW Unit) := Rows.scriptBackRow.laid

theorem own : ownKnob Tryz.prog.godebug = none := by kernel_rfl

theorem err_of {W : World} {n : String} {g : Nat} {nm : String} {d : DataW Unit} (hg : Tryz.prog.globalNamed n = some g) (ht : (Tryz.prog.globals[g]?).map (·.type) = some 77) (h : Lib.VarReads Tryz.prog W n (.iface nm d)) :
    (∃ tp p, W.var? Tryz.prog n = some #[.iface tp p]) ∧ g < W.heap.size := by
  obtain ⟨g', t, cs, fuel, p, hg', ht', hv, hd⟩ := h
  obtain rfl := Option.some.inj (hg.symm.trans hg')
  obtain rfl := Option.some.inj (ht.symm.trans ht')
  obtain ⟨_, u, v, hcs, _, _⟩ := iface_of_trod Tryz.underlying77 hd
  have hc : cs = #[.iface u v] := by
    apply Array.ext'
    rw [hcs]
  subst hc
  refine ⟨⟨u, v, hv⟩, ?_⟩
  have := World.var?_cell hg hv 0
  exact Lib.lt_of_cell (a := ⟨g, 0, none⟩) (v := .iface u v) (by rw [this]; rfl)
theorem env_of {W : World} (h : laidMetH Tryz.prog laidL W) (hs : W.ShapedOpen Tryz.prog) : DfE W := by
  rw [MakeChecks.laidMetH_plain _ _ _ (by kernel_rfl)] at h
  have h1 := err_of gSyn (by kernel_rfl) (Lib.laidMet.reads h (n := "strconv.ErrSyntax") (d := Rows.laid_strconv_ErrSyntax) (List.Mem.tail _ (List.Mem.tail _ (List.Mem.tail _ (List.Mem.tail _ (List.Mem.tail _ (List.Mem.head _)))))))
  have h2 := err_of gRng (by kernel_rfl) (Lib.laidMet.reads h (n := "strconv.ErrRange") (d := Rows.laid_strconv_ErrRange) (List.Mem.tail _ (List.Mem.tail _ (List.Mem.tail _ (List.Mem.tail _ (List.Mem.head _))))))
  obtain ⟨g, t, cs, fuel, p, hg, ht, hv, hd⟩ := Lib.laidMet.reads h (n := "internal/strconv.uint64pow10") (d := Rows.laid_internal_strconv_uint64pow10) (List.Mem.tail _ (List.Mem.tail _ (List.Mem.head _)))
  obtain rfl := Option.some.inj (gPow.symm.trans hg)
  have ht' : (Tryz.prog.globals[3]?).map (·.type) = some 183 := by kernel_rfl
  obtain rfl := Option.some.inj (ht'.symm.trans ht)
  have hcs := Lib.cells_of_tab (n := 20) (e := 131) (k := .u64) (zs := Lib.pow10Tab) Tryz.underlying183 Tryz.underlying131 (by kernel_rfl) (by kernel_rfl) hd
  refine ⟨?_, ?_, h1.1, h1.2, h2.1, h2.2, hs⟩
  · unfold Lib.TabIs
    rw [hv, ← hcs]
  · have h0 : W.cell? ⟨3, 0, none⟩ = some (.int .u64 1) := by
      have := World.var?_cell hg hv 0
      rw [this]
      have : cs[0]? = cs.toList[0]? := by simp
      rw [this, hcs]
      rfl
    exact Lib.lt_of_cell h0

/-- A world for the witness. -/
noncomputable def laidWorld (os : Os) : World := World.laidAll Tryz.prog os laidL
theorem laid_met (os : Os) (args : Array Value) : laidMetH Tryz.prog laidL ((laidWorld os).forCall (fun _ _ => 0) ⟨#[], args, []⟩).memory := by
  rw [MakeChecks.laidMetH_plain _ _ _ (by kernel_rfl)]
  exact laidMet_laidAll args (by kernel_rfl) (by kernel_rfl)

theorem kids : Kids Tryz.prog (· < Tryz.prog.types.size) := kids_rows (by kernel_rfl) (by kernel_rfl)
theorem full : ∀ t e, t < Tryz.prog.types.size → Tryz.prog.underlying t = some (.slice e) → 0 < Tryz.prog.cellsOf e := slices_full_of _ (by kernel_rfl)

theorem carryAll {H : Type} {enc : TypeId × Value → H} {P : Program} {W W' : World} {b : Nat} {sp : Nat → Bool} {hd : Bool} : ∀ {ts : List TypeId} {vs : List Value} {ds : List (DataW H)} {ps : List MemPlace},
    DataW.TrodAll enc P W b sp hd ts vs ds ps → (∀ p ∈ ps, W.sameAt W' p) → DataW.TrodAll enc P W' b sp hd ts vs ds ps
  | [], [], [], _, h, _ => h
  | _ :: _, _ :: _, _ :: _, _, ⟨p, q, ⟨n, h1⟩, h2, e⟩, hs =>
    ⟨p, q, ⟨n, DataW.trod_carry n _ _ _ h1 (fun x hx => hs x (by rw [e]; exact List.mem_append_left _ hx))⟩, carryAll h2 (fun x hx => hs x (by rw [e]; exact List.mem_append_right _ hx)), e⟩

theorem cell_intP {P : Program} {W : World} {r : Reach} {b : Nat} {t : TypeId} {v : Value} (ht : P.underlying t = some (.int .i64)) (h : Cell.okWide P W r b t v) : ∃ n : Int, v = .int .i64 n ∧ -9223372036854775808 ≤ n ∧ n ≤ 9223372036854775807 := by
  simp only [Cell.okWide, ht] at h
  have hv : ∃ n : Int, v = .int .i64 n ∧ IntKind.i64.has n := by cases v <;> simp_all [Cell.ok]
  obtain ⟨n, rfl, h1⟩ := hv
  have e1 : IntKind.i64.min = -9223372036854775808 := by decide
  have e2 : IntKind.i64.max = 9223372036854775807 := by decide
  unfold IntKind.has at h1
  rw [e1, e2] at h1
  exact ⟨n, rfl, h1⟩
theorem cell_boolP {P : Program} {W : World} {r : Reach} {b : Nat} {t : TypeId} {v : Value} (ht : P.underlying t = some .bool) (h : Cell.okWide P W r b t v) : ∃ n : Bool, v = .bool n := by
  simp only [Cell.okWide, ht] at h
  cases v <;> simp_all [Cell.ok]
set_option maxRecDepth 100000 in
theorem row_cells {W : World} {r : Reach} {b : Nat} {t : TypeId} {v : Value} {fs : Array Field} {ts : List TypeId} (ht : Tryz.prog.underlying t = some (.struct fs)) (hts : Tryz.prog.cellTypes Tryz.prog.depth t = some ts) (hC : Tryz.prog.cellsOf t = ts.length)
    (h : Value.okWide Tryz.prog W r b t v) : ∃ cs : Array Value, v = .agg cs ∧ cs.size = ts.length ∧ ∀ i (hi : i < ts.length) w, cs[i]? = some w → Cell.okWide Tryz.prog W r b ts[i] w := by
  simp only [Value.okWide, ht] at h
  obtain ⟨cs, rfl, hsz, ts', h1, _, h3⟩ := h
  obtain rfl := Option.some.inj (hts.symm.trans h1)
  refine ⟨cs, rfl, hsz.trans hC, fun i hi w hw => ?_⟩
  obtain ⟨u, hu, hk⟩ := h3 i w hw
  rw [Nat.mod_eq_of_lt hi, List.getElem?_eq_getElem hi] at hu
  obtain rfl := Option.some.inj hu
  exact hk

/-- WHAT A LAW ANSWERS that returned true and kept what lay. -/
theorem post_law {H : Type} {enc : TypeId × Value → H} {f : Func} {s : ChangeSpec} {W W' : World} {args : Array Value} {ds gs : List (DataW H)} {before : List MemPlace}
    (hv : s.vars = []) (hrt : f.resultTypes = #[4]) (hts : ∀ t ∈ f.params.toList, t < Tryz.prog.types.size)
    (hW : DataW.Whole enc Tryz.prog f.params.toList s.vars false W args.toList ds gs before)
    (hfn : s.fn H ds = { results := [.lit (.bool true)], args := ds }) (hb : Below W.heap.size W W') :
    s.post enc Tryz.prog f false true false false W args (.bool true) W' := by
  have hW' := hW
  have hlt := hW.lt
  obtain ⟨p, q, hA, hV, rfl, hfz, hnd⟩ := hW
  rw [hv] at hV
  obtain ⟨rfl, rfl⟩ := trodVars_none hV
  refine ⟨ds, [], p ++ [], [], p, [], hW', ?_, ?_, ?_, hb.frame _, fun h => by cases h⟩
  · rw [List.append_nil, hfn, hrt]
    exact trodAll_mk1 (shut_bool Tryz.underlying4 _)
  · rw [List.append_nil, hfn]
    have h1 : DataW.TrodAll enc Tryz.prog W 0 (fun b => decide (b < W.heap.size)) true f.params.toList args.toList ds p :=
      DataW.TrodAll.respare kids full hts hA (fun x hx => by simpa using hlt x (by simpa using hx))
    exact carryAll h1 (fun x hx => hb.same (hlt x (by simpa using hx)))
  · rw [hv, List.append_nil, hfn]
    rfl

theorem cell_strP {P : Program} {W : World} {r : Reach} {b : Nat} {t : TypeId} {v : Value} (ht : P.underlying t = some .string) (h : Cell.okWide P W r b t v) : ∃ s : ByteArray, v = .string s ∧ s.size ≤ 9223372036854775807 := by
  simp only [Cell.okWide, ht] at h
  have hv : ∃ s : ByteArray, v = .string s ∧ (s.size : Int) ≤ IntKind.i64.max := by cases v <;> simp_all [Cell.ok]
  obtain ⟨s, rfl, h1⟩ := hv
  rw [show IntKind.i64.max = 9223372036854775807 by decide] at h1
  exact ⟨s, rfl, by omega⟩
theorem open_has {P : Program} {W : World} {r : Reach} {b : Nat} {t : TypeId} {v : Value} {k : IntKind} (ht : P.underlying t = some (.int k)) (h : Value.okWide P W r b t v) : ∃ n : Int, v = .int k n ∧ IntKind.min k ≤ n ∧ n ≤ IntKind.max k := by
  simp only [Value.okWide, Cell.okWide, ht] at h
  have hv : ∃ n : Int, v = .int k n ∧ IntKind.has k n := by cases v <;> simp_all [Cell.ok]
  obtain ⟨n, rfl, h1⟩ := hv
  exact ⟨n, rfl, h1⟩
theorem open_u32 {P : Program} {W : World} {r : Reach} {b : Nat} {t : TypeId} {v : Value} (ht : P.underlying t = some (.int .u32)) (h : Value.okWide P W r b t v) : ∃ n : Int, v = .int .u32 n ∧ 0 ≤ n ∧ n ≤ 4294967295 := by
  obtain ⟨n, h0, h1, h2⟩ := open_has ht h
  rw [show IntKind.u32.min = 0 by decide] at h1
  rw [show IntKind.u32.max = 4294967295 by decide] at h2
  exact ⟨n, h0, h1, h2⟩
theorem open_u16 {P : Program} {W : World} {r : Reach} {b : Nat} {t : TypeId} {v : Value} (ht : P.underlying t = some (.int .u16)) (h : Value.okWide P W r b t v) : ∃ n : Int, v = .int .u16 n ∧ 0 ≤ n ∧ n ≤ 65535 := by
  obtain ⟨n, h0, h1, h2⟩ := open_has ht h
  rw [show IntKind.u16.min = 0 by decide] at h1
  rw [show IntKind.u16.max = 65535 by decide] at h2
  exact ⟨n, h0, h1, h2⟩
theorem open_u8 {P : Program} {W : World} {r : Reach} {b : Nat} {t : TypeId} {v : Value} (ht : P.underlying t = some (.int .u8)) (h : Value.okWide P W r b t v) : ∃ n : Int, v = .int .u8 n ∧ 0 ≤ n ∧ n ≤ 255 := by
  obtain ⟨n, h0, h1, h2⟩ := open_has ht h
  rw [show IntKind.u8.min = 0 by decide] at h1
  rw [show IntKind.u8.max = 255 by decide] at h2
  exact ⟨n, h0, h1, h2⟩
theorem open_i64 {P : Program} {W : World} {r : Reach} {b : Nat} {t : TypeId} {v : Value} (ht : P.underlying t = some (.int .i64)) (h : Value.okWide P W r b t v) : ∃ n : Int, v = .int .i64 n ∧ -9223372036854775808 ≤ n ∧ n ≤ 9223372036854775807 := by
  obtain ⟨n, h0, h1, h2⟩ := open_has ht h
  rw [show IntKind.i64.min = -9223372036854775808 by decide] at h1
  rw [show IntKind.i64.max = 9223372036854775807 by decide] at h2
  exact ⟨n, h0, h1, h2⟩
theorem open_str {P : Program} {W : World} {r : Reach} {b : Nat} {t : TypeId} {v : Value} (ht : P.underlying t = some .string) (h : Value.okWide P W r b t v) : ∃ s : ByteArray, v = .string s ∧ s.size ≤ 9223372036854775807 := by
  simp only [Value.okWide, Cell.okWide, ht] at h
  have hv : ∃ s : ByteArray, v = .string s ∧ (s.size : Int) ≤ IntKind.i64.max := by cases v <;> simp_all [Cell.ok]
  obtain ⟨s, rfl, h1⟩ := hv
  rw [show IntKind.i64.max = 9223372036854775807 by decide] at h1
  exact ⟨s, rfl, by omega⟩
end Go.Proofs.YtojodekmmkemgaaGreatDoor
