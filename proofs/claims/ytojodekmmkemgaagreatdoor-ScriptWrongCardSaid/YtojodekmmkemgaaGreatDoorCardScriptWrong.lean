/- The statement Rows.ScriptWrongCardSaid: ScriptWrong returns true at every input and its arguments read as they did. Conditions: none beyond the given statement's own. -/
import Derived.Test.YtojodekmmkemgaaGreatDoorLScWrg
import Derived.Test.YtojodekmmkemgaaGreatDoorFrame41
namespace Go.Proofs.YtojodekmmkemgaaGreatDoor.ScriptWrong
open Go.ChangeShapes Go.WideShapes Go.ChangeAt Go.RowKit

set_option maxRecDepth 100000 in
theorem contract (H : Type) (enc : TypeId × Value → H) (W : World) (base : Nat) (args : Array Value) (ds gs : List (DataW H)) (before : List MemPlace)
    (hval : ∀ (j : Nat) t v, Tryz.f7.params[j]? = some t → args[j]? = some v → Value.okWide Tryz.prog W .any base t v)
    (hW : DataW.Whole enc Tryz.prog Tryz.f7.params.toList Rows.scriptWrongSpec.vars false W args.toList ds gs before) (hL : laidMetH Tryz.prog laidL W) (hsh : W.ShapedOpen Tryz.prog) :
    Calls Tryz.prog 7 args W fun e W' => ∃ v, e = .returned v ∧ Rows.scriptWrongSpec.post enc Tryz.prog Tryz.f7 false true false false W args v W' := by
  have hW' := hW
  obtain ⟨p, q, hA0, hV, rfl, hfz, hnd⟩ := hW
  have hA : DataW.TrodAll enc Tryz.prog W 0 (fun _ => true) true Tryz.f7.params.toList args.toList ds p := hA0
  rw [Tryz.params7] at hA hval
  obtain ⟨v0, vs0, d0, ds0, p0, q0, hargs, rfl, rfl, h0, r0⟩ := trodAll_cons hA
  obtain ⟨v1, vs1, d1, ds1, p1, q1, rfl, rfl, rfl, h1, r1⟩ := trodAll_cons r0
  obtain ⟨v2, vs2, d2, ds2, p2, q2, rfl, rfl, rfl, h2, r2⟩ := trodAll_cons r1
  obtain ⟨v3, vs3, d3, ds3, p3, q3, rfl, rfl, rfl, h3, r3⟩ := trodAll_cons r2
  obtain ⟨rfl, rfl, rfl⟩ := trodAll_nil r3
  obtain rfl : args = #[v0, v1, v2, v3] := by cases args; simp_all
  have o0 := hval 0 22 v0 rfl rfl
  have o1 := hval 1 5 v1 rfl rfl
  have o2 := hval 2 5 v2 rfl rfl
  have o3 := hval 3 9 v3 rfl rfl
  clear hA0 hval hfz hnd hV
  have hp := (fun h => env_of h hsh) hL
  have walk : Calls Tryz.prog 7 #[v0, v1, v2, v3] W fun e w' => e = .returned (.bool true) ∧ Below W.heap.size W w' := by
    clear hW'
    obtain ⟨m0, ht0⟩ := h0
    obtain ⟨sa, sl, sc, rfl⟩ := open_sl3 (by exact Tryz.underlying22) o0
    obtain ⟨A, n, c, l, hcs, hnc, hn63, hl, hs⟩ := open_numsL ht0
    obtain ⟨rfl, rfl, rfl⟩ := cells_sl hcs
    obtain ⟨p, rfl, a0, a1⟩ := open_u8 Tryz.underlying5 o1
    obtain ⟨q, rfl, b0, b1⟩ := open_u8 Tryz.underlying5 o2
    obtain ⟨p, rfl⟩ := Int.eq_ofNat_of_zero_le a0
    obtain ⟨q, rfl⟩ := Int.eq_ofNat_of_zero_le b0
    obtain ⟨s, rfl, hsz⟩ := open_str Tryz.underlying9 o3
    exact scriptWrong_any A n c l p q s W hp hs hl hnc hn63 (by omega) (by omega) hsz
  refine walk.mono fun e W' ⟨he, hg⟩ => ?_
  subst he
  exact ⟨_, rfl, post_law rfl rfl (by rw [Tryz.params7]; decide +kernel) hW' rfl hg⟩

theorem reads (os : Os) {H : Type} (enc : TypeId × Value → H) : ∃ places, DataW.whole enc Tryz.prog ((laidWorld os).forCall (fun _ _ => 0) ⟨#[], #[.slice none 0 0, .int .u8 0, .int .u8 0, .string ⟨#[]⟩], []⟩).memory Tryz.f7.params.toList Rows.scriptWrongSpec.vars false (#[.slice none 0 0, .int .u8 0, .int .u8 0, .string ⟨#[]⟩] : Array Value).toList 8 = some ([.nil, .lit (.int .u8 0), .lit (.int .u8 0), .lit (.string [])], [], places) :=
  ⟨[], by kernel_rfl⟩

set_option maxRecDepth 100000 in
theorem lifted (os : Os) (started : os.Started) (H : Type) (enc : TypeId × Value → H) (F : Stop.Interp) :
    ReturnsInHanded {} Tryz.checked os 7 .any ((OpenSpec.ofChange Rows.scriptWrongSpec).preRow enc Tryz.prog Tryz.f7 Rows.scriptWrongRow.domain false Rows.scriptWrongRow.laid) (((OpenSpec.ofChange Rows.scriptWrongSpec).at F).post enc Tryz.prog Tryz.f7 false true false false) := by
  obtain ⟨places, hx⟩ := reads os enc
  refine returnsInHanded_of_row (C := Tryz.checked) (s := (OpenSpec.ofChange Rows.scriptWrongSpec)) own started (by kernel_rfl) Tryz.func7
    (witness_row_atRef (enc := enc) (C := Tryz.checked) false (laidWorld os) #[.slice none 0 0, .int .u8 0, .int .u8 0, .string ⟨#[]⟩] (World.laidAll_os _ _ _) (by kernel_rfl) (by kernel_rfl) (by kernel_rfl)
      (OpenSpec.preRow_of_cond 8 hx (by kernel_rfl) (fun k hk => by cases hk) (by kernel_rfl) (laid_met os _))) ?_
  intro W base args ds gs before hval hW _ _ _ hL hsh _
  exact contract H enc W base args ds gs before hval hW hL hsh

theorem said : Rows.ScriptWrongSaid :=
  OpenClaim.holds_of_cond 7 Tryz.f7 rfl rfl rfl rfl rfl rfl rfl ⟨rfl, rfl, rfl, rfl, rfl⟩ rfl rfl rfl rfl rfl (by kernel_rfl) Tryz.func7 (by kernel_rfl)
    (of_decide_eq_true (by kernel_rfl)) (by unfold Func.isWrapper; first | (rw [if_pos (by decide +kernel)]; kernel_rfl) | (rw [if_neg (by decide +kernel)]; exact ⟨rfl, rfl⟩))
    (fun os started H enc _ F => by rw [OpenClaim.pre_eq_preRow]; exact lifted os started H enc F)

theorem plain (f : FuncId) (fn : Func) (hf : Tryz.pinned.checked.prog.funcNamed "skald/skaldlaw41.ScriptWrong" = some f) (hfn : Tryz.pinned.checked.prog.funcs[f]? = some fn) :
    true = Tryz.pinned.checked.prog.looks [] ∧ ∀ (j : Nat) t, fn.params[j]? = some t → Tryz.pinned.checked.prog.wantsStandIn t = false := by
  obtain rfl : f = 7 := Option.some.inj ((show Tryz.prog.funcNamed "skald/skaldlaw41.ScriptWrong" = some 7 by kernel_rfl).symm.trans hf) |>.symm
  obtain rfl : fn = Tryz.f7 := (Option.some.inj (Tryz.func7.symm.trans hfn)).symm
  refine ⟨by kernel_rfl, fun j t ht => ?_⟩
  rw [Tryz.params7] at ht
  have hm : t ∈ [22, 5, 5, 9] := by simpa using Array.mem_of_getElem? ht
  have hall : ([22, 5, 5, 9].all fun u => !Tryz.prog.wantsStandIn u) = true := by kernel_rfl
  have := List.all_eq_true.1 hall t hm
  have h2 : Tryz.prog.wantsStandIn t = false := by simpa using this
  exact h2
end Go.Proofs.YtojodekmmkemgaaGreatDoor.ScriptWrong
namespace Go.Proofs.YtojodekmmkemgaaGreatDoor
/-- THE CARD. -/
theorem scriptWrongProved : Rows.ScriptWrongCardSaid :=
  Claim7.holds_tied_plain_at .later [] _ _ _ _ ScriptWrong.said (fun _ h => by cases h) (by kernel_rfl) (fun _ h => by cases h) scriptWrong_row_tie rfl ⟨rfl, rfl⟩ (by kernel_rfl) rfl ScriptWrong.plain (by kernel_rfl)
end Go.Proofs.YtojodekmmkemgaaGreatDoor
