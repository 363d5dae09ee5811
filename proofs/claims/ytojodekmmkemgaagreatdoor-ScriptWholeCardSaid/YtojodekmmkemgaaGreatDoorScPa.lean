/- Parse of an operation: what op panics with is caught. Conditions: the text is short; the program's own variables lie as its start lays them. -/
import Derived.Test.YtojodekmmkemgaaGreatDoorScOp
import Derived.Defers
import Derived.Recover
namespace Go.Proofs.YtojodekmmkemgaaGreatDoor
open Go.RowKit Go.Shelf

theorem results_cells {P : Program} {fn : Func} {p q : Tmp} {ty ty2 : TypeId} (h : fn.results = #[.cell p ty, .cell q ty2]) (tmps : Array Value) (w : World) (g : Nat) (t : TypeId) (cs : Array Value) (fr : Nat × Nat) (d : TypeDesc)
    (hp : tmps.getD p undef = .pointer (some ⟨g, 0, none⟩)) (hg : w.heap[g]? = some (.cells cs t fr))
    (hu : P.underlying ty = some d) (hd : (match d with | .struct _ | .array _ _ => true | _ => false) = true) (hi : (P.info? ty).map (·.size) = some cs.size) (a : Addr) (v : Value) (hv : tmps.getD q undef = .pointer (some a)) (hl : (loadVar ty2 a).run P w = .ok v w) :
    (results fn tmps).run P w = .ok (.tuple #[.agg cs, v]) w := by
  have hp' : tmps[p]?.getD undef = .pointer (some ⟨g, 0, none⟩) := by simpa using hp
  have hv' : tmps[q]?.getD undef = .pointer (some a) := by simpa using hv
  simp [results, h, hp', hv', asAddr, run_loadVar_row w g t ty cs fr d hg hu hd hi, hl]
def pvD : PanicEntry := { v := .iface 101 (.agg #[]), recovered := true }
set_option maxRecDepth 100000 in
set_option maxHeartbeats 1000000 in
theorem catch_bad (V : Nat) (older : List PanicEntry) (w : World) (hV : Whole w V 34 (oA (zeroO 0 0) none 0 0)) (hE : Whole w (V + 1) 36 #[.int .i64 0]) :
    CallsD Tryz.prog 66 #[.pointer (some ⟨V, 0, none⟩), .pointer (some ⟨V + 1, 0, none⟩)] (.panicking (pvM :: older)) w fun e u' w' =>
      e = .returned (.tuple #[]) ∧ u' = .panicking (pvD :: older) ∧ Whole w' V 34 (oA (zeroO 0 0) none 0 0) ∧ Whole w' (V + 1) 36 #[.int .i64 10] ∧ Below V w w' := by
  have hnn : ∀ (W : World), (binOp .neq 20 (.iface 101 (.agg #[])) .nilIface).run Tryz.prog W = .ok (.bool true) W := fun W => by kernel_rfl
  have has : ∀ (W : World), (Instr.typeAssert (.iface 101 (.agg #[])) 20 101 true).run Tryz.prog W = .ok (.tuple #[.agg #[], .bool true]) W := fun W => by kernel_rfl
  have h1 : Whole (w.alloc (.cells #[] 101)) V 34 (oA (zeroO 0 0) none 0 0) := hV.alloc _
  have h2 : Whole (w.alloc (.cells #[] 101)) (V + 1) 36 #[.int .i64 0] := hE.alloc _
  have h3 : Whole ((w.alloc (.cells #[] 101)).setRow V (oA (zeroO 0 0) none 0 0)) V 34 (oA (zeroO 0 0) none 0 0) := setRow_heap _ _ _ _ _ _ h1
  have h4 : Whole ((w.alloc (.cells #[] 101)).setRow V (oA (zeroO 0 0) none 0 0)) (V + 1) 36 #[.int .i64 0] := h2.grown (setRow_grown _ V _) (fun e => by have := Option.some.inj e; omega)
  have hb : Below V w ((w.alloc (.cells #[] 101)).setRow V (oA (zeroO 0 0) none 0 0)) := ((Below.refl V w).alloc (Nat.le_of_lt hV.lt) _).grown (setRow_grown _ V _) (by have := hV.lt; simp only [World.size_alloc]; omega) (fun k e => by cases e; exact Nat.le_refl _)
  have H1 := Lib.hid h1
  have c1 : ((w.alloc (.cells #[] 101)).setRow V (oA (zeroO 0 0) none 0 0)).cell? ⟨V + 1, 0, none⟩ = some (.int .i64 0) := h4.cell 0
  have f1 : ((w.alloc (.cells #[] 101)).setRow V (oA (zeroO 0 0) none 0 0)).frozen? ⟨V + 1, 0, none⟩ = false := h4.fr 0
  have HP := Lib.hid (And.intro h3 (And.intro h4 hb))
  clear h1 h2 h3 h4 hb hV hE
  refine callsD_of_wpS Tryz.func66 rfl fun c₀ cs hu => ?_
  simp only [Tryz.ntmps66, List.size_toArray, List.length_cons, List.length_nil, Nat.reduceAdd, Nat.reduceSub, Array.replicate_succ, Array.replicate_zero, List.push_toArray, List.append_toArray, List.nil_append, List.cons_append]
  apply wpS_seq
  apply wpS_region
  simp [wpOpsS, go_sem, recoverD, hu, Exit.thenS, pvM]
  refine wpS_of_wp ?_
  go_wp2_with (refine wpList_store_row rfl 34 (.tmp 0) (.tmp 16) rfl V (oA (zeroO 0 0) none 0 0) rfl rfl 34 (oA (zeroO 0 0) none 0 0) H1.out (info10 _ _ _ _) rfl (all10 _ _ _ _) ?_)
  refine ⟨rfl, _, rfl, .tuple #[], by simp [results, (show Tryz.func66.results = #[] from rfl)], rfl, rfl, ?_, ?_, ?_⟩
  · exact HP.out.1.far (by show V ≠ V + 1; omega) _
  · exact HP.out.2.1.put 0 _
  · exact HP.out.2.2.setCell (Nat.le_succ V) _
theorem catch_idle (V : Nat) (w : World) :
    CallsD Tryz.prog 66 #[.pointer (some ⟨V, 0, none⟩), .pointer (some ⟨V + 1, 0, none⟩)] .returning w fun e u' w' => e = .returned (.tuple #[]) ∧ u' = .returning ∧ w' = w := by
  have hnn : ∀ w, (binOp .neq 20 .nilIface .nilIface).run Tryz.prog w = .ok (.bool false) w := fun w => by kernel_rfl
  refine callsD_of_wpS Tryz.func66 rfl fun c₀ cs hu => ?_
  simp only [Tryz.ntmps66, List.size_toArray, List.length_cons, List.length_nil, Nat.reduceAdd, Nat.reduceSub, Array.replicate_succ, Array.replicate_zero, List.push_toArray, List.append_toArray, List.nil_append, List.cons_append]
  apply wpS_seq
  apply wpS_region
  simp [wpOpsS, go_sem, recoverD, hu, Exit.thenS]
  refine wpS_of_wp ?_
  go_wp2_with fail
  cases c₀
  simp_all [bodyPostS, results, (show Tryz.func66.results = #[] from rfl)]
/-- What Parse answers. -/
def OParR (s : List UInt8) (w : World) (e : Ending) (w' : World) : Prop := ∃ o er A n m, e = .returned (.tuple #[.agg (oA o A n m), .int .i64 er]) ∧ ParO s o er ∧ OpIn w' o A n m ∧ Below w.heap.size w w' ∧ ∀ a : Addr, A = some a → w.heap.size ≤ a.block
theorem opin_zero (W : World) : OpIn W (zeroO 0 0) none 0 0 := ⟨defAt_zeroO W, opok_z (Nat.zero_le _) (Nat.zero_le _)⟩
theorem sl_not_int {W : World} {B : Nat} {v : Int} {A : Option Addr} {s : List Sp} (hs : SlD W A s) (hB : Whole W B 36 #[.int .i64 v]) : ∀ a : Addr, A = some a → s ≠ [] → a.block ≠ B := by
  rintro a rfl hne e
  obtain ⟨p, hp⟩ : ∃ p, s[0]? = some p := by cases hq : s with | nil => exact absurd hq hne | cons p s => exact ⟨p, rfl⟩
  obtain ⟨g, o, he, c0, c1⟩ := hs 0 p hp
  cases he
  subst e
  rw [Nat.zero_mul, Nat.add_zero, hB.cell] at c0
  match o with
  | 0 => cases c0
  | o + 1 => simp at c0
theorem pa_keep {W : World} {V : Nat} {o : Ov} {A : Option Addr} {n m : Nat} (hi : OpIn W o A n m) (ho : opOk o) (hV : Whole W V 34 (oA (zeroO 0 0) none 0 0)) (hE : Whole W (V + 1) 36 #[.int .i64 0]) (cs : Array Value) (v : Value) : OpIn ((W.setRow V cs).setCell ⟨V + 1, 0, none⟩ v) o A n m := by
  have hd : o.d.s ≠ [] → defOk o.d := fun hs => by
    by_cases h8 : o.k = 8
    · exact (alone_def ho).1 h8
    · exact absurd (by rw [(alone_def ho).2 h8]; rfl) hs
  have h1 : DefAt (W.setRow V cs) A n m o.d := hi.d.grown (setRow_grown W V cs) (fun a ha hs e => sl_not_op hi.d.s (hd hs) hV rfl a ha hs (Option.some.inj e))
  refine ⟨h1.grown (grown_set (World.grownBy.refl _ (some (V + 1))) 0 v) (fun a ha hs e => ?_), hi.z⟩
  exact sl_not_int hi.d.s hE a ha hs (Option.some.inj e)
theorem load_int {W : World} {B : Nat} {v : Int} (h : Whole W B 36 #[.int .i64 v]) : (loadVar 36 ⟨B, 0, none⟩).run Tryz.prog W = .ok (.int .i64 v) W := by
  have c : W.cell? ⟨B, 0, none⟩ = some (.int .i64 v) := h.cell 0
  simp [go_sem, c]
set_option maxRecDepth 100000 in
set_option maxHeartbeats 4000000 in
theorem oparse_any (s : ByteArray) (w : World) (hE : DfE w) (hl : s.size ≤ 100000) :
    Calls Tryz.prog 28 #[.string s] w fun e w' => OParR s.data.toList w e w' := by
  have hmf : ∀ (fn : Fn) (first cap : Array Value) (w : World), (Instr.makeFunc fn first cap).run Tryz.prog w = .ok (.func fn first cap) w := fun _ _ _ _ => rfl
  obtain ⟨w3, hw3⟩ : ∃ w3, w3 = (((w.alloc (.cells (oA (zeroO 0 0) none 0 0) 34)).alloc (.cells #[.int .i64 0] 36)).alloc (.cells #[.string s, .bool false] 105)) := ⟨_, rfl⟩
  have B3 : Below w.heap.size w w3 := by
    rw [hw3]
    exact (((Below.refl w.heap.size w).alloc (Nat.le_refl _) _).alloc (by simp only [World.size_alloc]; omega) _).alloc (by simp only [World.size_alloc]; omega) _
  have V3 : Whole w3 w.heap.size 34 (oA (zeroO 0 0) none 0 0) := by
    rw [hw3]
    exact ((Whole.new w _ _).alloc _).alloc _
  have E3 : Whole w3 (w.heap.size + 1) 36 #[.int .i64 0] := by
    rw [hw3]
    have := (Whole.new (w.alloc (.cells (oA (zeroO 0 0) none 0 0) 34)) 36 #[.int .i64 0]).alloc (.cells #[.string s, .bool false] 105)
    simpa only [World.size_alloc] using this
  have R3 : RdO w3 (w.heap.size + 1 + 1) (some s.data.toList) := by
    rw [hw3]
    show Whole _ _ _ _
    rw [← ba_eta s]
    have := Whole.new ((w.alloc (.cells (oA (zeroO 0 0) none 0 0) 34)).alloc (.cells #[.int .i64 0] 36)) 105 #[.string s, .bool false]
    simpa only [World.size_alloc, ba_eta] using this
  have OP := Lib.hid (op_any s.data.toList (w.heap.size + 1 + 1) w3 (Lib.hid (fun W hg => hE.keep (gr_to hg B3 (by omega) B3.size))) hl R3)
  have HB := Lib.hid (And.intro B3 (And.intro V3 E3))
  clear B3 V3 E3 R3
  by_cases hg : goodW s.data.toList
  · have OQ : Hid (Calls Tryz.prog 67 #[.pointer (some ⟨w.heap.size + 1 + 1, 0, none⟩)] w3 fun e w' => ∃ A n m, e = .returned (.agg (oA (opW s.data.toList).1 A n m)) ∧ OpIn w' (opW s.data.toList).1 A n m ∧ GR (w.heap.size + 1 + 1) w3 w' ∧ ∀ a : Addr, A = some a → w3.heap.size ≤ a.block) := Lib.hid (OP.out.mono (fun e w' h => by
      rcases h with ⟨_, h⟩ | ⟨h, _⟩
      · exact h
      · exact absurd hg h))
    have HG := Lib.hid (parO_good hg)
    clear OP hg
    generalize (opW s.data.toList).1 = o at OQ HG
    go_enter_defers Tryz.func28, Tryz.ntmps28
    go_upto_region 3 with fail
    rw [← zero10 0 0, ← hw3]
    clear hw3
    go_wp2_with (first
      | (go_at_call 67; refine OQ.out.mono ?_; rintro e w4 ⟨A, n, m, rfl, hi, hg, hfa⟩; have HFA := Lib.hid (fun (a : Addr) (ha : A = some a) => Nat.le_trans HB.out.1.size (hfa a ha)); clear hfa; have V4 := Lib.hid (HB.out.2.1.grown hg (fun e => by have := Option.some.inj e; omega)); have V5 := Lib.hid (setRow_heap w4 w.heap.size _ (oA o A n m) _ _ V4.out); have E5 := Lib.hid ((HB.out.2.2.grown hg (fun e => by have := Option.some.inj e; omega)).grown (setRow_grown w4 w.heap.size (oA o A n m)) (fun e => by have := Option.some.inj e; omega)); have HX := Lib.hid (HB.out.2.2.grown hg (fun e => by have := Option.some.inj e; omega)); have B4 := Lib.hid (gr_to hg HB.out.1 (by omega) HB.out.1.size); have e5 : (w4.setRow w.heap.size (oA o A n m)).cell? ⟨w.heap.size + 1, 0, none⟩ = some (.int .i64 0) := E5.out.cell 0; have f5 : (w4.setRow w.heap.size (oA o A n m)).frozen? ⟨w.heap.size + 1, 0, none⟩ = false := E5.out.fr 0; have HI := Lib.hid hi; clear hi hg)
      | (refine wpList_store_row rfl 34 (.tmp 2) (.tmp 10) rfl w.heap.size (oA o A n m) rfl rfl 34 (oA (zeroO 0 0) none 0 0) V4.out (info10 _ _ _ _) rfl (all10 _ _ _ _) ?_))
    refine leaves_cons (f := 66) (args := #[.pointer (some ⟨w.heap.size, 0, none⟩), .pointer (some ⟨w.heap.size + 1, 0, none⟩)]) (by simp) (by simp [go_sem]) ?_
    refine (catch_idle w.heap.size _).mono ?_
    rintro e u' w6 ⟨rfl, rfl, rfl⟩
    have HO : opOk o := by
      rcases HG.out with ⟨_, h, _⟩ | ⟨h, _⟩
      · exact h
      · exact absurd h (by decide)
    refine ⟨_, results_cells rfl _ _ w.heap.size 34 (oA o A n m) (0, 0) _ rfl (Whole.far V5.out (by show w.heap.size ≠ w.heap.size + 1; omega) _) Tryz.underlying34 rfl (info10 _ _ _ _) ⟨w.heap.size + 1, 0, none⟩ (.int .i64 0) rfl (load_int (E5.out.put 0 (.int .i64 0))), ?_⟩
    refine ⟨o, 0, A, n, m, rfl, HG.out, pa_keep HI.out HO V4.out ?_ _ _, (below_row B4.out (Nat.le_refl _) _).setCell (Nat.le_succ _) _, HFA.out⟩
    exact HX.out
  · have OQ : Hid (Calls Tryz.prog 67 #[.pointer (some ⟨w.heap.size + 1 + 1, 0, none⟩)] w3 fun e w' => e = .panicked [pvM] ∧ GR (w.heap.size + 1 + 1) w3 w') := Lib.hid (OP.out.mono (fun e w' h => by
      rcases h with ⟨h, _⟩ | ⟨_, h⟩
      · exact absurd h hg
      · exact h))
    have HG := Lib.hid (parO_bad hg)
    clear OP hg
    go_enter_defers Tryz.func28, Tryz.ntmps28
    go_upto_region 3 with fail
    rw [← zero10 0 0, ← hw3]
    clear hw3
    go_wp2_with (go_at_call 67; refine OQ.out.mono ?_; rintro e w4 ⟨rfl, hg⟩; have V4 := Lib.hid (HB.out.2.1.grown hg (fun e => by have := Option.some.inj e; omega)); have E4 := Lib.hid (HB.out.2.2.grown hg (fun e => by have := Option.some.inj e; omega)); have B4 := Lib.hid (gr_to hg HB.out.1 (by omega) HB.out.1.size); clear hg)
    refine leaves_cons (f := 66) (args := #[.pointer (some ⟨w.heap.size, 0, none⟩), .pointer (some ⟨w.heap.size + 1, 0, none⟩)]) (by simp) (by simp [go_sem]) ?_
    refine (catch_bad w.heap.size [] _ V4.out E4.out).mono ?_
    rintro e u' w6 ⟨rfl, rfl, hv, he, hb⟩
    refine ⟨_, results_cells rfl _ _ w.heap.size 34 (oA (zeroO 0 0) none 0 0) (0, 0) _ rfl hv Tryz.underlying34 rfl (info10 _ _ _ _) ⟨w.heap.size + 1, 0, none⟩ (.int .i64 10) rfl (load_int he), ?_⟩
    exact ⟨zeroO 0 0, 10, none, 0, 0, rfl, HG.out, opin_zero _, B4.out.trans hb, fun a ha => by cases ha⟩
end Go.Proofs.YtojodekmmkemgaaGreatDoor
