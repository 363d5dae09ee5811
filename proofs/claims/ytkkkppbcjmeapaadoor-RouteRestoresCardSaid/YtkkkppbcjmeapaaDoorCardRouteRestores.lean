/- The statement Rows.RouteRestoresCardSaid: RouteRestores returns true at every input and its arguments read as they did. Conditions: none beyond the given statement's own. -/
import Derived.Test.YtkkkppbcjmeapaaDoorRRst
import Derived.Test.YtkkkppbcjmeapaaDoorFrame31R
namespace Go.Proofs.YtkkkppbcjmeapaaDoor.RouteRestores
open Go.ChangeShapes Go.WideShapes Go.ChangeAt Go.RowKit

set_option maxRecDepth 100000 in
theorem contract (H : Type) (enc : TypeId × Value → H) (W : World) (base : Nat) (args : Array Value) (ds gs : List (DataW H)) (before : List MemPlace)
    (hval : ∀ (j : Nat) t v, Tryd.f10.params[j]? = some t → args[j]? = some v → Value.okWide Tryd.prog W .any base t v)
    (hW : DataW.Whole enc Tryd.prog Tryd.f10.params.toList Rows.routeRestoresSpec.vars false W args.toList ds gs before) (_hL : laidMetH Tryd.prog laidL W) :
    Calls Tryd.prog 10 args W fun e W' => ∃ v, e = .returned v ∧ Rows.routeRestoresSpec.post enc Tryd.prog Tryd.f10 false true false false W args v W' := by
  have hW' := hW
  obtain ⟨p, q, hA0, hV, rfl, hfz, hnd⟩ := hW
  have hA : DataW.TrodAll enc Tryd.prog W 0 (fun _ => true) true Tryd.f10.params.toList args.toList ds p := hA0
  rw [Tryd.params10] at hA hval
  obtain ⟨v0, vs0, d0, ds0, p0, q0, hargs, rfl, rfl, h0, r0⟩ := trodAll_cons hA
  obtain ⟨v1, vs1, d1, ds1, p1, q1, rfl, rfl, rfl, h1, r1⟩ := trodAll_cons r0
  obtain ⟨v2, vs2, d2, ds2, p2, q2, rfl, rfl, rfl, h2, r2⟩ := trodAll_cons r1
  obtain ⟨v3, vs3, d3, ds3, p3, q3, rfl, rfl, rfl, h3, r3⟩ := trodAll_cons r2
  obtain ⟨rfl, rfl, rfl⟩ := trodAll_nil r3
  obtain rfl : args = #[v0, v1, v2, v3] := by cases args; simp_all
  have o0 := hval 0 45 v0 rfl rfl
  have o1 := hval 1 47 v1 rfl rfl
  have o2 := hval 2 47 v2 rfl rfl
  have o3 := hval 3 68 v3 rfl rfl
  clear hA0 hval hfz hnd hV
  have walk : Calls Tryd.prog 10 #[v0, v1, v2, v3] W fun e w' => e = .returned (.bool true) ∧ Below W.heap.size W w' := by
    clear hW'
    obtain ⟨n0, ht0⟩ := h0
    obtain ⟨n1, ht1⟩ := h1
    obtain ⟨n2, ht2⟩ := h2
    obtain ⟨sa, sl, sc, rfl⟩ := open_slR o0
    obtain ⟨ta, tl, tc, rfl⟩ := open_slI o1
    obtain ⟨ua, ul, uc, rfl⟩ := open_slI o2
    obtain ⟨_, _, _, R, hcs0, hn, hR, hRz⟩ := open_rngs ht0
    obtain ⟨_, _, _, G, hcs1, hm, hG⟩ := open_nums ht1
    obtain ⟨_, _, _, E, hcs2, hk, hE⟩ := open_nums ht2
    simp only [Value.cells, List.cons.injEq, Value.slice.injEq, and_true] at hcs0 hcs1 hcs2
    obtain ⟨rfl, rfl, rfl⟩ := hcs0
    obtain ⟨rfl, rfl, rfl⟩ := hcs1
    obtain ⟨rfl, rfl, rfl⟩ := hcs2
    obtain ⟨x, y, gg, q, rfl, hx, hy⟩ := open_stp o3
    exact routeRestores_any _ _ _ _ _ _ _ _ _ R G E x y gg q W hR hG hE hn hm hk hRz hx hy
  refine walk.mono fun e W' ⟨he, hg⟩ => ?_
  subst he
  exact ⟨_, rfl, post_law rfl rfl (by rw [Tryd.params10]; decide +kernel) hW' rfl hg⟩

theorem reads (os : Os) {H : Type} (enc : TypeId × Value → H) : ∃ places, DataW.whole enc Tryd.prog ((laidWorld os).forCall (fun _ _ => 0) ⟨#[], #[.slice none 0 0, .slice none 0 0, .slice none 0 0, .agg #[.string ⟨#[]⟩, .string ⟨#[]⟩, .int .i64 0, .bool false]], []⟩).memory Tryd.f10.params.toList Rows.routeRestoresSpec.vars false (#[.slice none 0 0, .slice none 0 0, .slice none 0 0, .agg #[.string ⟨#[]⟩, .string ⟨#[]⟩, .int .i64 0, .bool false]] : Array Value).toList 8 = some ([.nil, .nil, .nil, .agg [.agg [.lit (.string []), .lit (.string [])], .lit (.int .i64 0), .lit (.bool false)]], [], places) :=
  ⟨[], by kernel_rfl⟩

set_option maxRecDepth 100000 in
theorem lifted (os : Os) (started : os.Started) (H : Type) (enc : TypeId × Value → H) (F : Stop.Interp) :
    ReturnsInHanded {} Tryd.checked os 10 .any ((OpenSpec.ofChange Rows.routeRestoresSpec).preRow enc Tryd.prog Tryd.f10 Rows.routeRestoresRow.domain false Rows.routeRestoresRow.laid) (((OpenSpec.ofChange Rows.routeRestoresSpec).at F).post enc Tryd.prog Tryd.f10 false true false false) := by
  obtain ⟨places, hx⟩ := reads os enc
  refine returnsInHanded_of_row (C := Tryd.checked) (s := (OpenSpec.ofChange Rows.routeRestoresSpec)) own started (by kernel_rfl) Tryd.func10
    (witness_row_atRef (enc := enc) (C := Tryd.checked) false (laidWorld os) #[.slice none 0 0, .slice none 0 0, .slice none 0 0, .agg #[.string ⟨#[]⟩, .string ⟨#[]⟩, .int .i64 0, .bool false]] (World.laidAll_os _ _ _) (by kernel_rfl) (by kernel_rfl) (by kernel_rfl)
      (OpenSpec.preRow_of_cond 8 hx (by kernel_rfl) (fun k hk => by cases hk) (by kernel_rfl) (laid_met os _))) ?_
  intro W base args ds gs before hval hW _ _ _ hL _ _
  exact contract H enc W base args ds gs before hval hW hL

theorem said : Rows.RouteRestoresSaid :=
  OpenClaim.holds_of_cond 10 Tryd.f10 rfl rfl rfl rfl rfl rfl rfl ⟨rfl, rfl, rfl, rfl, rfl⟩ rfl rfl rfl rfl rfl (by kernel_rfl) Tryd.func10 (by kernel_rfl)
    (of_decide_eq_true (by kernel_rfl)) (by unfold Func.isWrapper; first | (rw [if_pos (by decide +kernel)]; kernel_rfl) | (rw [if_neg (by decide +kernel)]; exact ⟨rfl, rfl⟩))
    (fun os started H enc _ F => by rw [OpenClaim.pre_eq_preRow]; exact lifted os started H enc F)

theorem plain (f : FuncId) (fn : Func) (hf : Tryd.pinned.checked.prog.funcNamed "skald/skaldlaw31.RouteRestores" = some f) (hfn : Tryd.pinned.checked.prog.funcs[f]? = some fn) :
    false = Tryd.pinned.checked.prog.looks [] ∧ ∀ (j : Nat) t, fn.params[j]? = some t → Tryd.pinned.checked.prog.wantsStandIn t = false := by
  obtain rfl : f = 10 := Option.some.inj ((show Tryd.prog.funcNamed "skald/skaldlaw31.RouteRestores" = some 10 by kernel_rfl).symm.trans hf) |>.symm
  obtain rfl : fn = Tryd.f10 := (Option.some.inj (Tryd.func10.symm.trans hfn)).symm
  refine ⟨by kernel_rfl, fun j t ht => ?_⟩
  rw [Tryd.params10] at ht
  have hm : t ∈ [45, 47, 47, 68] := by simpa using Array.mem_of_getElem? ht
  have hall : ([45, 47, 47, 68].all fun u => !Tryd.prog.wantsStandIn u) = true := by kernel_rfl
  have := List.all_eq_true.1 hall t hm
  have h2 : Tryd.prog.wantsStandIn t = false := by simpa using this
  exact h2
end Go.Proofs.YtkkkppbcjmeapaaDoor.RouteRestores
namespace Go.Proofs.YtkkkppbcjmeapaaDoor
/-- THE CARD. -/
theorem routeRestoresProved : Rows.RouteRestoresCardSaid :=
  Claim7.holds_tied_plain_at .later [] _ _ _ _ RouteRestores.said (fun _ h => by cases h) (by kernel_rfl) (fun _ h => by cases h) routeRestores_row_tie rfl ⟨rfl, rfl⟩ (by kernel_rfl) rfl RouteRestores.plain (by kernel_rfl)
end Go.Proofs.YtkkkppbcjmeapaaDoor
