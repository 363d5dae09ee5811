/- The program's writers of bytes. Condition: what is written is no longer than a machine's integer can say. -/
import Derived.RangeFuncNested
import Derived.RangeFuncBound
import Derived.RangeFuncCalls
import Derived.RangeFuncLeaves
import Derived.Shelf.Abstract
import Derived.Shelf.RegionOpen
import Derived.WalkKit
import Derived.OwnWalkIn
import Derived.TacticsInMore
import Derived.LoopNIn
import Derived.LoopIn
import Derived.BigRegionIn
import Derived.Test.YtgeljnjcpkmlmaaGreatDoorZig
import Derived.Test.YtgeljnjcpkmlmaaGreatDoorSeqM
import Derived.Test.YtgeljnjcpkmlmaaGreatDoorPlA
import Derived.Outline
import Derived.Lib.AppendStr
namespace Go.Proofs.YtgeljnjcpkmlmaaGreatDoor
open Go.RowKit Go.Shelf
attribute [local go_sem] Oper.semAt_some

/-- A step of the iterator: its number turns. -/
def DigM (B1 : Nat) (A B : World) : Prop := ∃ v0 v, Boxed A B1 62 v0 ∧ B = A.setCell ⟨B1, 0, none⟩ v
def DigK (B1 : Nat) (W W' : World) : Prop := W'.heap[B1]? = W.heap[B1]?
theorem dig_byte {m : Nat} : u8V (m % 128 + 128).toUInt8 = .int .u8 (bits .or .u8 ((m : Int) % 256) 128) := by
  have e1 : (m : Int) % 256 = ((m % 256 : Nat) : Int) := by omega
  have e2 : (m % 256) ||| 128 = m % 128 + 128 := by
    have h := u8_all (fun c => decide (c.toNat ||| 128 = c.toNat % 128 + 128)) (by decide +kernel) (m % 256).toUInt8
    rw [decide_eq_true_eq, u8_lt (by omega)] at h
    rw [h]; omega
  have e3 := u8_or_nat (m % 256) 128 (by omega) (by decide)
  rw [e2] at e3
  rw [e1]
  unfold u8V
  rw [u8_lt (by omega)]
  congr 1
  exact e3.symm
theorem dig_last {m : Nat} (h : m < 128) : u8V m.toUInt8 = .int .u8 (m : Int) := by
  unfold u8V; rw [u8_lt (by omega)]
set_option maxRecDepth 100000 in
set_option maxHeartbeats 4000000 in
theorem digits1_in (n : Nat) (hn : 1 ≤ n) (B1 v : Nat) (hv : v < 18446744073709551616) (w : World) (hb : Boxed w B1 62 (.int .u64 (v : Int))) :
    SeqM Fence.wide n Tryz.prog 112 #[.pointer (some ⟨B1, 0, none⟩)] (fun c : UInt8 => #[u8V c]) (DigM B1) (DigK B1) (fun xs => xs = uvB v) (fun _ => True) (uvB v).length w := by
  intro l J Jx W hW hJ hJx hJM hJxM hY h0
  have HJM := Lib.hid hJM
  have HY := Lib.hid hY
  have hbW : Boxed W B1 62 (.int .u64 (v : Int)) := hb.kept (gbelow hW) (by simp)
  clear hJ hJx hJM hJxM hY hW hb
  refine callsIn_of_wp Tryz.func112 rfl trivial ?_ rfl
  simp only [Tryz.ntmps112, List.size_toArray, List.length_cons, List.length_nil, Nat.reduceAdd, Nat.reduceSub, Array.replicate_succ, Array.replicate_zero, List.push_toArray, List.append_toArray, List.nil_append, List.cons_append]
  gi_wp2
  gi_loopw [3] (fun _ wr => ∃ (m : Nat) (pre : List UInt8), m < 18446744073709551616 ∧ Hid (uvB v = pre ++ uvB m) ∧ J pre wr ∧ Boxed wr B1 62 (.int .u64 (m : Int))) (fun _ wr => match wr.cell? ⟨B1, 0, none⟩ with | some (.int _ k) => k.toNat | _ => 0)
  case atStart => exact ⟨v, [], hv, Lib.hid rfl, h0, hbW⟩
  case round =>
    clear h0 hbW
    obtain ⟨m, pre, hm, HU, hJ, hB⟩ := hrel
    have c1 := hB.cell
    have f1 := hB.frozen
    have HB := Lib.hid hB
    have HJ := Lib.hid hJ
    have HC1 := Lib.hid c1
    by_cases hge : 128 ≤ m
    · have hlen : pre.length < (uvB v).length := by rw [HU.out, List.length_append]; have := uvB_pos m; omega
      have hYQ := HY.out pre (m % 128 + 128).toUInt8 wr hJ hlen
      rw [dig_byte] at hYQ
      obtain ⟨fn, tmps, assign, body, hyy, hR⟩ := hYQ
      have HR := Lib.hid hR
      clear hR hB hJ hlen
      gi_wp2
      refine HR.out.mono ?_
      rintro e W3 (⟨rfl, hJ3, hk3⟩ | ⟨rfl, hJx3⟩)
      · have hB3 : Boxed W3 B1 62 (.int .u64 (m : Int)) := (show W3.heap[B1]? = _ from hk3).trans HB.out
        have c3 := hB3.cell
        have f3 := hB3.frozen
        have HJ3 := Lib.hid (HJM.out _ _ _ hJ3 ⟨_, .int .u64 ((m : Int) / 128), hB3, rfl⟩)
        have HB3 := Lib.hid (hB3.set (.int .u64 ((m : Int) / 128)))
        have HU3 : Hid (uvB v = (pre ++ [(m % 128 + 128).toUInt8]) ++ uvB (m / 128)) := Lib.hid (by rw [HU.out, uvB_ge hge]; simp)
        have hc3 : (W3.setCell ⟨B1, 0, none⟩ (.int .u64 ((m : Int) / 128))).cell? ⟨B1, 0, none⟩ = some (.int .u64 ((m : Int) / 128)) := HB3.out.cell
        have HC3 := Lib.hid hc3
        clear hB3 hJ3 hk3 hc3
        gi_wp2
        go_roundw
        case rel => exact ⟨m / 128, _, by omega, HU3, HJ3.out, HB3.out⟩
        case measure => rw [HC3.out, HC1.out]; show (m / 128 : Int).toNat < (m : Int).toNat; omega
      · gi_wp2
        refine bodyPost_ret (results_none rfl _ _ _) rfl ?_
        exact ⟨⟨_, rfl⟩, .inr ⟨_, trivial, hJx3⟩⟩
    · have hlt : m < 128 := by omega
      have hlen : pre.length < (uvB v).length := by rw [HU.out, List.length_append]; have := uvB_pos m; omega
      have hYQ := HY.out pre m.toUInt8 wr hJ hlen
      rw [dig_last hlt] at hYQ
      have HE : Hid (pre ++ [m.toUInt8] = uvB v) := Lib.hid (by rw [HU.out, uvB_lt hlt])
      obtain ⟨fn, tmps, assign, body, hyy, hR⟩ := hYQ
      have HR := Lib.hid hR
      clear hR hB hJ hlen hlt
      gi_wp2
      refine HR.out.mono ?_
      rintro e W3 (⟨rfl, hJ3, hk3⟩ | ⟨rfl, hJx3⟩)
      · gi_wp2
        go_end0
        exact ⟨⟨_, rfl⟩, .inl ⟨_, HE.out, hJ3⟩⟩
      · gi_wp2
        go_end0
        exact ⟨⟨_, rfl⟩, .inr ⟨_, trivial, hJx3⟩⟩

/-- A writer of the program in memory with these bytes; its row lies at or above base. -/
def WrP (W : World) (base C : Nat) (l : List UInt8) : Prop := base ≤ C ∧ ∃ v, Whole W C 101 #[.bool true, v] ∧ W.ownsRow base 5 1 v l.length (bV l)
/-- What a writer's call leaves: what lay below base, and blocks that are neither bytes nor the writer's. -/
def WrK (W W' : World) (base C : Nat) : Prop := Below base W W' ∧ ∀ (b : Nat) (t : TypeId) cs, W.heap[b]? = some (.cells cs t (0, 0)) → t ≠ 5 → b ≠ C → W'.heap[b]? = W.heap[b]?
theorem WrP.lt {W : World} {base C : Nat} {l : List UInt8} (h : WrP W base C l) : C < W.heap.size := by obtain ⟨_, v, h1, _⟩ := h; exact h1.lt
theorem WrK.refl (W : World) (base C : Nat) : WrK W W base C := ⟨Below.refl _ _, fun _ _ _ _ _ _ => rfl⟩
theorem WrK.trans {A B D : World} {base C : Nat} (h : WrK A B base C) (k : WrK B D base C) : WrK A D base C :=
  ⟨h.1.trans k.1, fun b t cs hb ht hC => (k.2 b t cs ((h.2 b t cs hb ht hC).trans hb) ht hC).trans (h.2 b t cs hb ht hC)⟩
theorem WrK.of_below {A B : World} {base C : Nat} (h : Below A.heap.size A B) (hb : base ≤ A.heap.size) : WrK A B base C := ⟨h.mono hb, fun b _ _ hx _ _ => h.block b (Array.getElem?_eq_some_iff.1 hx).1⟩
theorem WrK.whole {A B : World} {base C b : Nat} {t : TypeId} {cs : Array Value} (h : WrK A B base C) (hw : Whole A b t cs) (ht : t ≠ 5) (hC : b ≠ C) : Whole B b t cs := (h.2 b t cs hw ht hC).trans hw
theorem WrP.keep {W W' : World} {base C : Nat} {l : List UInt8} (h : WrP W base C l) (hb : Below W.heap.size W W') : WrP W' base C l := by
  obtain ⟨h0, v, h1, h2⟩ := h
  exact ⟨h0, v, h1.keep hb, h2.kept (gbelow hb) (Classical.em _)⟩
theorem infoB : (Tryz.prog.info? 5).map (fun i => (i.zero, i.size, i.bytes)) = some (some (.int .u8 0), 1, 1) := by kernel_rfl
theorem run_app_u8 (w : World) (base : Nat) (v : Value) (n : Nat) (xs : List Value) (hown : w.ownsRow base 5 1 v n xs) (a : Addr) (m c : Nat) (news : List Value) (hm : news.length = m) (hc : ∀ j u, news[j]? = some u → w.cell? (a.add j) = some u) (h1 : ∀ u ∈ news, u.oneCell' = true) (hn : n + m ≤ 1099511627776) (hbase : base ≤ w.heap.size) :
    ∃ v' w', (Builtin.append_ #[38, 38] 38 #[v, .slice (some a) m c]).run Tryz.prog w = .ok v' w' ∧ w'.ownsRow base 5 1 v' (n + m) (xs ++ news) ∧ w.grownBy w' v.ownBlock := by
  obtain ⟨i, hi, hz0, hz1, hz2⟩ := info_parts infoB
  obtain ⟨v', w', hrun, h4, h5, _, _⟩ := run_append_own_at (P := Tryz.prog) w base 38 38 5 i (.int .u8 0) 1 1 Tryz.underlying38 hi hz0 hz1 hz2 rfl (by decide) v n xs hown a m c news (by omega) hc h1 (by unfold maxLen; omega) (by omega) hbase
  exact ⟨v', w', hrun, h4, h5⟩
theorem strCells_bV (s : ByteArray) : Lib.strCells s = bV s.data.toList := rfl
theorem run_app_str (w : World) (base : Nat) (v : Value) (n : Nat) (xs : List Value) (hown : w.ownsRow base 5 1 v n xs) (s : ByteArray) (hn : n + s.size ≤ 1099511627776) (hbase : base ≤ w.heap.size) :
    ∃ v' w', (Builtin.append_ #[38, 9] 38 #[v, .string s]).run Tryz.prog w = .ok v' w' ∧ w'.ownsRow base 5 1 v' (n + s.size) (xs ++ bV s.data.toList) ∧ w.grownBy w' v.ownBlock := by
  obtain ⟨i, hi, hz0, hz1, hz2⟩ := info_parts infoB
  obtain ⟨v', w', hrun, h4, h5, _⟩ := Lib.run_append_own_string (P := Tryz.prog) w base 38 9 38 5 i Tryz.underlying38 Tryz.underlying9 hi hz0 hz1 hz2 v n xs hown s (by unfold maxLen; omega) (by omega) hbase
  exact ⟨v', w', hrun, by rw [← strCells_bV]; exact h4, h5⟩
theorem own_not {W : World} {base n : Nat} {v : Value} {xs : List Value} {b : Nat} {t : TypeId} {cs : Array Value} (h : W.ownsRow base 5 1 v n xs) (hb : W.heap[b]? = some (.cells cs t (0, 0))) (ht : t ≠ 5) : some b ≠ v.ownBlock := own_ne h (show Whole W b t cs from hb) ht
/-- A longer row is laid into the writer. -/
theorem WrP.store {W w' : World} {base C : Nat} {l m : List UInt8} {v v' : Value} (hb : base ≤ C) (hC : Whole W C 101 #[.bool true, v]) (hown : W.ownsRow base 5 1 v l.length (bV l)) (hg : W.grownBy w' v.ownBlock)
    (hown' : w'.ownsRow base 5 1 v' (l.length + m.length) (bV l ++ bV m)) : WrP (w'.setCell ⟨C, 1, none⟩ v') base C (l ++ m) ∧ WrK W (w'.setCell ⟨C, 1, none⟩ v') base C ∧ KeepsOthers W (w'.setCell ⟨C, 1, none⟩ v') ∧ Whole w' C 101 #[.bool true, v] := by
  have hC' := hC.grown hg (own_ne hown hC (by decide))
  refine ⟨⟨hb, v', ?_, ?_⟩, ⟨?_, fun b t cs hx ht hne => ?_⟩, ?_, hC'⟩
  · have := hC'.put 1 v'
    simpa using this
  · rw [List.length_append, bV_app]
    exact hown'.kept (grown_set (World.grownBy.refl w' (some C)) 1 v') (.inr (own_ne hown' hC' (by decide)).symm)
  · refine ((Below.refl base W).grown hg (by have := hC.lt; omega) (fun k e => ?_)).setCell (p := ⟨C, 1, none⟩) hb v'
    exact (hown.lt k e).1
  · exact (Below.heap_setCell w' ⟨C, 1, none⟩ v' b hne).trans (hg.block b (Array.getElem?_eq_some_iff.1 hx).1 (own_not hown hx ht))
  · refine (KeepsOthers.of_grownBy hg fun j o ej hj => ?_).trans (KeepsOthers.setCell _ _ _)
    rcases hown.2 with ⟨rfl, _⟩ | ⟨g, cap, cur, rfl, _, hgb, _⟩
    · simp [Value.ownBlock] at ej
    · obtain rfl : g = j := by simpa [Value.ownBlock] using ej
      rw [hgb] at hj; cases hj; rfl

theorem own_nc {A B : World} {row : Option Nat} {base n size : Nat} {e : TypeId} {v : Value} {xs : List Value} (h : A.ownsRow base e size v n xs) (hg : A.grownBy B row) (hr : ∀ r, row = some r → ∃ o : Obj, A.heap[r]? = some o ∧ o.isCells = false) : B.ownsRow base e size v n xs := by
  refine h.kept hg ?_
  rcases h.2 with ⟨rfl, _⟩ | ⟨g, cap, cur, rfl, _, hgb, _⟩
  · exact .inl rfl
  · refine .inr fun e' => ?_
    obtain ⟨o, ho, hc⟩ := hr g (by simpa [Value.ownBlock] using e'.symm)
    rw [hgb] at ho; cases ho; cases hc
theorem WrP.nc {A B : World} {row : Option Nat} {base C : Nat} {l : List UInt8} (h : WrP A base C l) (hg : A.grownBy B row) (hr : ∀ r, row = some r → ∃ o : Obj, A.heap[r]? = some o ∧ o.isCells = false) : WrP B base C l := by
  obtain ⟨h0, v, h1, h2⟩ := h
  exact ⟨h0, v, (cells_same hg hr h1).trans h1, own_nc h2 hg hr⟩
theorem WrK.nc {w A B : World} {row : Option Nat} {base C : Nat} (h : WrK w A base C) (hb : base ≤ w.heap.size) (hg : A.grownBy B row) (hr : ∀ r, row = some r → w.heap.size ≤ r) : WrK w B base C :=
  ⟨h.1.grown hg (Nat.le_trans hb h.1.size) (fun k e => Nat.le_trans hb (hr k e)), fun b t cs hx ht hC => (hg.block b (Nat.lt_of_lt_of_le (Array.getElem?_eq_some_iff.1 hx).1 h.1.size) (fun e => by have := hr b e.symm; have := (Array.getElem?_eq_some_iff.1 hx).1; omega)).trans (h.2 b t cs hx ht hC)⟩
theorem WrP.far {A : World} {base C b : Nat} {t : TypeId} {u : Value} {l : List UInt8} (h : WrP A base C l) (hb : Boxed A b t u) (ht : t ≠ 5) (hC : C ≠ b) (x : Value) : WrP (A.setCell ⟨b, 0, none⟩ x) base C l := by
  obtain ⟨h0, v, h1, h2⟩ := h
  exact ⟨h0, v, h1.far (p := ⟨b, 0, none⟩) hC x, h2.kept (grown_set (World.grownBy.refl A (some b)) 0 x) (.inr (own_ne h2 (show Whole A b t #[u] from hb) ht).symm)⟩
theorem WrK.set {w A : World} {base C b : Nat} (h : WrK w A base C) (hb : base ≤ w.heap.size) (hw : w.heap.size ≤ b) (x : Value) : WrK w (A.setCell ⟨b, 0, none⟩ x) base C :=
  ⟨h.1.setCell (p := ⟨b, 0, none⟩) (Nat.le_trans hb hw) x, fun k t cs hx ht hC => (Below.heap_setCell A ⟨b, 0, none⟩ x k (by have := (Array.getElem?_eq_some_iff.1 hx).1; rintro rfl; omega)).trans (h.2 k t cs hx ht hC)⟩
theorem digits_in (k : Nat) (n : Int) (w : World) :
    CallsIn Fence.wide k Tryz.prog 76 #[.int .u64 n] w fun e w' => e = .returned (.func (.func 112) #[] #[.pointer (some ⟨w.heap.size, 0, none⟩)]) ∧ w' = w.alloc (.cells #[.int .u64 n] 62) := by
  refine callsIn_of_wp Tryz.func76 rfl trivial ?_ rfl
  simp only [Tryz.ntmps76, List.size_toArray, List.length_cons, List.length_nil, Nat.reduceAdd, Nat.reduceSub, Array.replicate_succ, Array.replicate_zero, List.push_toArray, List.append_toArray, List.nil_append, List.cons_append]
  gi_wp2
  go_ret
  exact ⟨rfl, rfl⟩

set_option maxRecDepth 100000 in
set_option maxHeartbeats 4000000 in
theorem uint_any (C base n : Nat) (l : List UInt8) (w : World) (h : WrP w base C l) (hn : n < 18446744073709551616) (hl : l.length ≤ 1000000000000) :
    Calls Tryz.prog 38 #[.pointer (some ⟨C, 0, none⟩), .int .u64 (n : Int)] w fun e w' => e = .returned (.tuple #[]) ∧ WrP w' base C (l ++ uvB n) ∧ WrK w w' base C := by
  have mixed : Tryz.prog.follows Departure.mixedOrders = true := by kernel_rfl
  have hCl := h.lt
  have hbs : base ≤ w.heap.size := by have := h.1; omega
  obtain ⟨hb, v, hC, hown⟩ := id h
  have d1 := (hC.alloc (.cells #[.pointer (some ⟨C, 0, none⟩)] 57)).cell 0
  simp only [List.getElem?_toArray, List.getElem?_cons_zero] at d1
  have Hh := Lib.hid h
  clear hC hown h
  refine (callsIn_wide (n := 8)).1 ?_
  refine callsIn_of_wp_marks Tryz.func38 rfl trivial ?_ rfl
  simp only [Tryz.ntmps38, List.size_toArray, List.length_cons, List.length_nil, Nat.reduceAdd, Nat.reduceSub, Array.replicate_succ, Array.replicate_zero, List.push_toArray, List.append_toArray, List.nil_append, List.cons_append]
  gi_wp2_with (refine ⟨trivial, ?_⟩; gi_at_call 76; refine (digits_in _ _ _).mono ?_; rintro e w2 ⟨rfl, rfl⟩)
  have P0 := (Hh.out.keep ((Below.refl _ _).alloc (Nat.le_refl _) (.cells #[.pointer (some ⟨C, 0, none⟩)] 57))).keep ((Below.refl _ _).alloc (Nat.le_refl _) (.cells #[.int .u64 (n : Int)] 62))
  have X0 := (Boxed.new w 57 (.pointer (some ⟨C, 0, none⟩))).alloc (.cells #[.int .u64 (n : Int)] 62)
  have X1 := Boxed.new (w.alloc (.cells #[.pointer (some ⟨C, 0, none⟩)] 57)) 62 (.int .u64 (n : Int))
  have K0 : WrK w ((w.alloc (.cells #[.pointer (some ⟨C, 0, none⟩)] 57)).alloc (.cells #[.int .u64 (n : Int)] 62)) base C := WrK.of_below (((Below.refl _ _).alloc (Nat.le_refl _) _).alloc (by simp) _) hbs
  rw [World.size_alloc] at X1
  have hsz : ((w.alloc (.cells #[.pointer (some ⟨C, 0, none⟩)] 57)).alloc (.cells #[.int .u64 (n : Int)] 62)).heap.size = w.heap.size + 2 := by simp
  obtain ⟨W0, hW0⟩ : ∃ W0, (w.alloc (.cells #[.pointer (some ⟨C, 0, none⟩)] 57)).alloc (.cells #[.int .u64 (n : Int)] 62) = W0 := ⟨_, rfl⟩
  rw [hW0] at P0 X0 X1 K0 hsz ⊢
  clear hW0
  refine rangeM rfl (by decide) (gf := 112) (lb := #[.pointer (some ⟨w.heap.size + 1, 0, none⟩)]) rfl trivial (enters_of Tryz.func112 (by kernel_rfl) rfl)
    (digits1_in (8 - 1) (by decide) (w.heap.size + 1) n hn W0 X1) (fun A B i o hm hi ho => ?mv) (fun h k => k.trans h) (fun W q o o' hq ho h1 h2 => World.putObj_heap_other (by omega)) (Below.refl _ _) (fun _ => rfl)
    (fun pre X => (Boxed X w.heap.size 57 (.pointer (some ⟨C, 0, none⟩)) ∧ WrP X base C (l ++ pre)) ∧ WrK w X base C ∧ ∃ u, Boxed X (w.heap.size + 1) 62 u) (fun _ _ _ => False)
    (fun s A B row hs hg hr => ⟨⟨(cells_same hg (fun r e => (hr r e).2) hs.1.1).trans hs.1.1, hs.1.2.nc hg (fun r e => (hr r e).2)⟩, hs.2.1.nc hbs hg (fun r e => by have := (hr r e).1; omega), hs.2.2.imp fun u hu => (cells_same hg (fun r e => (hr r e).2) hu).trans hu⟩)
    (fun _ _ _ _ _ h _ _ => h) (fun s A B hs hm => ?im) (fun _ _ _ _ h _ => h) ⟨⟨X0, by simpa using P0⟩, K0, _, X1⟩ ?act ?assign ?body ?done ?stop
  case mv =>
    obtain ⟨v0, v1, hb1, rfl⟩ := hm
    refine (Below.heap_setCell A ⟨w.heap.size + 1, 0, none⟩ v1 i (fun e => ?_)).trans hi
    subst e
    rw [show A.heap[w.heap.size + 1]? = _ from hb1] at hi
    cases hi; cases ho
  case im =>
    obtain ⟨v0, v1, hb1, rfl⟩ := hm
    exact ⟨⟨hs.1.1.other (by omega) _, hs.1.2.far hb1 (by decide) (by omega) _⟩, hs.2.1.set hbs (by omega) _, _, hb1.set _⟩
  case assign =>
    intro L x W K hK
    gi_wp2
    exact hK
  case body =>
    rintro L pre c X ⟨⟨hbw, hP⟩, hK, u0, hu0⟩ hlen
    unfold u8V
    obtain ⟨c8, hc8⟩ : ∃ c8 : Value, c8 = .int .u8 (c.toNat : Int) := ⟨_, rfl⟩
    have hpl : pre.length ≤ 10 := by have := uvB_len10 (n := n) (by omega); omega
    obtain ⟨_, v, hC, hown⟩ := id hP
    have hC1 := hC.cell 1
    simp only [List.getElem?_toArray, List.getElem?_cons_succ, List.getElem?_cons_zero] at hC1
    have hB1 := hbw.cell
    have Y0 : Below X.heap.size X (X.drew.alloc (.cells #[c8] 5)) := (Below.refl _ X).drew.alloc (by simp) _
    have hown2 : (X.drew.alloc (.cells #[c8] 5)).ownsRow base 5 1 v (l ++ pre).length (bV (l ++ pre)) := hown.kept (gbelow Y0) (Classical.em _)
    obtain ⟨v', w', hrun, hown', hgrow⟩ := run_app_u8 (X.drew.alloc (.cells #[c8] 5)) base v (l ++ pre).length (bV (l ++ pre)) hown2 ⟨X.heap.size, 0, none⟩ 1 1 [c8] rfl (news_at X.drew 5 [c8] X.heap.size rfl) (by intro u hu; simp at hu; rw [hu, hc8]; rfl) (by rw [List.length_append]; omega) (by have := hP.lt; have := Y0.size; omega)
    obtain ⟨s1, s2, s3, s4⟩ := WrP.store (m := [c]) hb (hC.keep Y0) hown2 hgrow (by rw [hc8] at hown'; exact hown')
    obtain ⟨g, cap, rfl⟩ := ownsRow_succ hown'
    have hbw2 : Boxed w' w.heap.size 57 (.pointer (some ⟨C, 0, none⟩)) := (hbw.kept (gbelow Y0) (by simp)).kept hgrow (own_ne hown2 (show Whole _ _ _ _ from hbw.kept (gbelow Y0) (by simp)) (by decide))
    have e1 := s4.cell 1
    have e2 := s4.fr 1
    simp only [List.getElem?_toArray, List.getElem?_cons_succ, List.getElem?_cons_zero] at e1
    have d0 := acell (w := X) (.cells #[c8] 5) hC1
    have HR := Lib.hid hrun
    have SA := Lib.hid hB1
    have SB : Hid ((X.drew.alloc (.cells #[c8] 5)).cell? ⟨w.heap.size, 0, none⟩ = some (.pointer (some ⟨C, 0, none⟩))) := Lib.hid (bcell hB1 Y0)
    have SC : Hid (w'.cell? ⟨w.heap.size, 0, none⟩ = some (.pointer (some ⟨C, 0, none⟩))) := Lib.hid hbw2.cell
    have SD : Hid ((w'.setCell ⟨C, 1, none⟩ (.slice (some ⟨g, 0, none⟩) ((l ++ pre).length + 1) cap)).cell? ⟨w.heap.size, 0, none⟩ = some (.pointer (some ⟨C, 0, none⟩))) := Lib.hid ((World.cell?_setCell_other w' ⟨C, 1, none⟩ ⟨w.heap.size, 0, none⟩ _ (by simp)).trans hbw2.cell)
    have FIN : Hid (KeepsOthers X (w'.setCell ⟨C, 1, none⟩ (.slice (some ⟨g, 0, none⟩) ((l ++ pre).length + 1) cap)) ∧ DigK (w.heap.size + 1) X (w'.setCell ⟨C, 1, none⟩ (.slice (some ⟨g, 0, none⟩) ((l ++ pre).length + 1) cap)) ∧ (Boxed (w'.setCell ⟨C, 1, none⟩ (.slice (some ⟨g, 0, none⟩) ((l ++ pre).length + 1) cap)) w.heap.size 57 (.pointer (some ⟨C, 0, none⟩)) ∧ WrP (w'.setCell ⟨C, 1, none⟩ (.slice (some ⟨g, 0, none⟩) ((l ++ pre).length + 1) cap)) base C (l ++ (pre ++ [c]))) ∧ WrK w (w'.setCell ⟨C, 1, none⟩ (.slice (some ⟨g, 0, none⟩) ((l ++ pre).length + 1) cap)) base C ∧ ∃ u, Boxed (w'.setCell ⟨C, 1, none⟩ (.slice (some ⟨g, 0, none⟩) ((l ++ pre).length + 1) cap)) (w.heap.size + 1) 62 u) := by
      have hu1 := hu0.kept (gbelow Y0) (by simp)
      have hu2 := s2.whole (show Whole _ _ _ _ from hu1) (by decide) (by omega)
      refine Lib.hid ⟨((KeepsOthers.drew X).trans (KeepsOthers.alloc _ _)).trans s3, ?_, ⟨hbw2.kept (grown_set (World.grownBy.refl w' (some C)) 1 _) (by simp; omega), by rw [← List.append_assoc]; exact s1⟩, hK.trans ((WrK.of_below Y0 (by have := hP.lt; omega)).trans s2), u0, hu2⟩
      exact (show _ = _ from hu2).trans (show _ = _ from hu0).symm
    subst hc8
    generalize (l ++ pre).length = N at HR SD FIN
    clear hrun hown' hgrow hown2 Y0 hown s1 s2 s3 s4 hbw2 hP hK hbw hC
    gi_wp2
    refine region_held_in L _ mixed (by kernel_rfl) (by rintro ⟨a, w, h⟩; exact h) (S := fun wx => wx.cell? ⟨w.heap.size, 0, none⟩ = some (.pointer (some ⟨C, 0, none⟩))) SA.out (fun hHeld => ?_)
    refine wpAnyH_take (i := 0) (v := ?_) rfl (by kernel_rfl) (by kernel_rfl) (by kernel_rfl) (fun _ _ _ h => h) (Or.inl ⟨by rfl, ?_⟩) (by assumption) ?_
    rotate_left
    · intro w hSw
      go_simp
      try with_reducible rfl
    simp only [Act.put, List.getElem_toArray, List.getElem_cons_zero, List.setIfInBounds_toArray, List.set_cons_zero, List.set_cons_succ]
    refine wpAnyH_take (i := 1) (v := ?_) rfl (by kernel_rfl) (by kernel_rfl) (by kernel_rfl) (fun _ _ _ h => h) (Or.inl ⟨by rfl, ?_⟩) (by assumption) ?_
    rotate_left
    · intro w hSw
      go_simp
      try with_reducible rfl
    simp only [Act.put, List.getElem_toArray, List.getElem_cons_succ, List.getElem_cons_zero, List.setIfInBounds_toArray, List.set_cons_zero, List.set_cons_succ]
    refine wpAnyH_take (i := 2) (v := ?_) rfl (by kernel_rfl) (by kernel_rfl) (by kernel_rfl) (fun _ _ _ h => h) (Or.inl ⟨by rfl, ?_⟩) (by assumption) ?_
    rotate_left
    · intro w hSw
      go_simp
      try with_reducible rfl
    simp only [Act.put, List.getElem_toArray, List.getElem_cons_succ, List.getElem_cons_zero, List.setIfInBounds_toArray, List.set_cons_zero, List.set_cons_succ]
    refine wpAnyH_take (i := 3) (v := ?_) rfl (by kernel_rfl) (by kernel_rfl) (by kernel_rfl) (fun _ _ _ h => h) (Or.inl ⟨by rfl, ?_⟩) (by assumption) ?_
    rotate_left
    · intro w hSw
      go_simp
      try with_reducible rfl
    simp only [Act.put, List.getElem_toArray, List.getElem_cons_succ, List.getElem_cons_zero, List.setIfInBounds_toArray, List.set_cons_zero, List.set_cons_succ]
    refine wpAnyH_take (i := 5) (v := ?_) rfl (by kernel_rfl) (by kernel_rfl) (by kernel_rfl) (fun _ _ _ h => h) (Or.inl ⟨by rfl, ?_⟩) (by assumption) ?_
    rotate_left
    · intro w hSw
      go_simp
      try with_reducible rfl
    simp only [Act.put, List.getElem_toArray, List.getElem_cons_succ, List.getElem_cons_zero, List.setIfInBounds_toArray, List.set_cons_zero, List.set_cons_succ]
    refine wpAnyH_ready (rs := [4, 6]) (by kernel_rfl) (by simp) ?_
    refine AllReadyH.cons rfl (fun K hK => ?_) (AllReadyH.cons rfl (fun K hK => ?_) AllReadyH.nil)
    · go_simp
      refine hK.out _ _ ?_ (fun hHeld' => ?_)
      · exact SA.out
      clear hK K hHeld
      have hHeld := hHeld'
      clear hHeld'
      try simp only [Act.put, List.getElem_toArray, List.getElem_cons_succ, List.getElem_cons_zero, List.setIfInBounds_toArray, List.set_cons_zero, List.set_cons_succ]
      refine wpAnyH_ready (rs := [6]) (by kernel_rfl) (by simp) ?_
      refine AllReadyH.cons rfl (fun K hK => ?_) AllReadyH.nil
      go_simp
      refine hK.out _ _ ?_ (fun hHeld' => ?_)
      · exact SB.out
      clear hK K hHeld
      have hHeld := hHeld'
      clear hHeld'
      try simp only [Act.put, List.getElem_toArray, List.getElem_cons_succ, List.getElem_cons_zero, List.setIfInBounds_toArray, List.set_cons_zero, List.set_cons_succ]
      refine wpAnyH_ready (rs := [7]) (by kernel_rfl) (by simp) ?_
      refine AllReadyH.cons rfl (fun K hK => ?_) AllReadyH.nil
      refine step_append_run (by rfl) (.tmp 21) (.tmp 23) 38 38 (by rfl) (by rfl) (by rfl) HR.out ?_
      refine hK.out _ _ ?_ (fun hHeld' => ?_)
      · exact SC.out
      clear hK K hHeld
      have hHeld := hHeld'
      clear hHeld'
      try simp only [Act.put, List.getElem_toArray, List.getElem_cons_succ, List.getElem_cons_zero, List.setIfInBounds_toArray, List.set_cons_zero, List.set_cons_succ]
      refine wpAnyH_take (i := 8) (v := ?_) rfl (by kernel_rfl) (by kernel_rfl) (by kernel_rfl) (fun _ _ _ h => h) (Or.inl ⟨by rfl, ?_⟩) (by assumption) ?_
      rotate_left
      · intro w hSw
        go_simp
        try with_reducible rfl
      simp only [Act.put, List.getElem_toArray, List.getElem_cons_succ, List.getElem_cons_zero, List.setIfInBounds_toArray, List.set_cons_zero, List.set_cons_succ]
      refine wpAnyH_take (i := 9) (v := ?_) rfl (by kernel_rfl) (by kernel_rfl) (by kernel_rfl) (fun _ _ _ h => h) (Or.inl ⟨by rfl, ?_⟩) (by assumption) ?_
      rotate_left
      · intro w hSw
        go_simp
        try with_reducible rfl
      simp only [Act.put, List.getElem_toArray, List.getElem_cons_succ, List.getElem_cons_zero, List.setIfInBounds_toArray, List.set_cons_zero, List.set_cons_succ]
      refine wpAnyH_ready (rs := [10]) (by kernel_rfl) (by simp) ?_
      refine AllReadyH.cons rfl (fun K hK => ?_) AllReadyH.nil
      go_simp
      refine hK.out _ _ ?_ (fun hHeld' => ?_)
      · exact SD.out
      clear hK K hHeld
      have hHeld := hHeld'
      clear hHeld'
      try simp only [Act.put, List.getElem_toArray, List.getElem_cons_succ, List.getElem_cons_zero, List.setIfInBounds_toArray, List.set_cons_zero, List.set_cons_succ]
      refine wpAnyH_done (by kernel_rfl) ?_ _
      exact FIN.out
    · go_simp
      refine hK.out _ _ ?_ (fun hHeld' => ?_)
      · exact SB.out
      clear hK K hHeld
      have hHeld := hHeld'
      clear hHeld'
      try simp only [Act.put, List.getElem_toArray, List.getElem_cons_succ, List.getElem_cons_zero, List.setIfInBounds_toArray, List.set_cons_zero, List.set_cons_succ]
      refine wpAnyH_ready (rs := [4]) (by kernel_rfl) (by simp) ?_
      refine AllReadyH.cons rfl (fun K hK => ?_) AllReadyH.nil
      go_simp
      refine hK.out _ _ ?_ (fun hHeld' => ?_)
      · exact SB.out
      clear hK K hHeld
      have hHeld := hHeld'
      clear hHeld'
      try simp only [Act.put, List.getElem_toArray, List.getElem_cons_succ, List.getElem_cons_zero, List.setIfInBounds_toArray, List.set_cons_zero, List.set_cons_succ]
      refine wpAnyH_ready (rs := [7]) (by kernel_rfl) (by simp) ?_
      refine AllReadyH.cons rfl (fun K hK => ?_) AllReadyH.nil
      refine step_append_run (by rfl) (.tmp 21) (.tmp 23) 38 38 (by rfl) (by rfl) (by rfl) HR.out ?_
      refine hK.out _ _ ?_ (fun hHeld' => ?_)
      · exact SC.out
      clear hK K hHeld
      have hHeld := hHeld'
      clear hHeld'
      try simp only [Act.put, List.getElem_toArray, List.getElem_cons_succ, List.getElem_cons_zero, List.setIfInBounds_toArray, List.set_cons_zero, List.set_cons_succ]
      refine wpAnyH_take (i := 8) (v := ?_) rfl (by kernel_rfl) (by kernel_rfl) (by kernel_rfl) (fun _ _ _ h => h) (Or.inl ⟨by rfl, ?_⟩) (by assumption) ?_
      rotate_left
      · intro w hSw
        go_simp
        try with_reducible rfl
      simp only [Act.put, List.getElem_toArray, List.getElem_cons_succ, List.getElem_cons_zero, List.setIfInBounds_toArray, List.set_cons_zero, List.set_cons_succ]
      refine wpAnyH_take (i := 9) (v := ?_) rfl (by kernel_rfl) (by kernel_rfl) (by kernel_rfl) (fun _ _ _ h => h) (Or.inl ⟨by rfl, ?_⟩) (by assumption) ?_
      rotate_left
      · intro w hSw
        go_simp
        try with_reducible rfl
      simp only [Act.put, List.getElem_toArray, List.getElem_cons_succ, List.getElem_cons_zero, List.setIfInBounds_toArray, List.set_cons_zero, List.set_cons_succ]
      refine wpAnyH_ready (rs := [10]) (by kernel_rfl) (by simp) ?_
      refine AllReadyH.cons rfl (fun K hK => ?_) AllReadyH.nil
      go_simp
      refine hK.out _ _ ?_ (fun hHeld' => ?_)
      · exact SD.out
      clear hK K hHeld
      have hHeld := hHeld'
      clear hHeld'
      try simp only [Act.put, List.getElem_toArray, List.getElem_cons_succ, List.getElem_cons_zero, List.setIfInBounds_toArray, List.set_cons_zero, List.set_cons_succ]
      refine wpAnyH_done (by kernel_rfl) ?_ _
      exact FIN.out
  case done =>
    rintro D xs W hD rfl ⟨⟨hbw, hP⟩, hK, _⟩ hD2
    gi_wp2
    refine ⟨by simp, .inl ⟨_, _, rfl, run_takeDeferred hD2, ?_⟩⟩
    exact ⟨_, results_none rfl _ _ _, rfl, hP.nc (grownBy_putObj' _ D _) (fun r e => by cases e; exact ⟨_, hD2, rfl⟩), hK.nc hbs (grownBy_putObj' _ D _) (fun r e => by cases e; omega)⟩
  case stop =>
    rintro D c pre W hD _ h _
    exact h.elim
end Go.Proofs.YtgeljnjcpkmlmaaGreatDoor
