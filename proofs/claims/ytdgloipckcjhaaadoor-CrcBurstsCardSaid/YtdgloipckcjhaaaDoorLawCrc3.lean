/- CrcParts returns true; memory that lay stays. Conditions: the listed tables; the bytes lie in memory. -/
import Derived.Test.YtdgloipckcjhaaaDoorLawCrc2
import Derived.OwnWalk
import Derived.Laws.AppendOwn
import Derived.Maps.AppendAt
namespace Go.Proofs.YtdgloipckcjhaaaDoor
open Go.RowKit

theorem info8 : (Tryd.prog.info? 5).map (fun i => (i.zero, i.size, i.bytes)) = some (some (.int .u8 0), 1, 1) := by kernel_rfl
/-- Bytes as values. -/
def encB (l : List Nat) : List Value := l.map fun (c : Nat) => Value.int .u8 (c : Int)
theorem encB_one (l : List Nat) : ∀ u ∈ encB l, u.oneCell' = true := by
  intro u hu
  obtain ⟨c, _, rfl⟩ := List.mem_map.1 hu
  rfl
theorem own_nil_run (w : World) (base : Nat) (v : Value) (n : Nat) (xs : List Value) (hown : w.ownsRow base 5 1 v n xs) (c : Nat) : (Builtin.append_ #[33, 33] 33 #[v, .slice none 0 c]).run Tryd.prog w = .ok v w := by
  obtain ⟨i, hi, hz0, hz1, hz2⟩ := info_parts info8
  rcases hown.2 with ⟨rfl, rfl⟩ | ⟨g, cap, cur, rfl, _, _, hnc, _⟩
  · simp [Builtin.append_, run_underlying Tryd.underlying33, sizeOf, typeInfo, hi, Builtin.lenOf, Builtin.firstCells]
  · simp [Builtin.append_, run_underlying Tryd.underlying33, sizeOf, typeInfo, hi, Builtin.lenOf, Builtin.firstCells, hnc, storeCells]
/-- append of bytes to a row of the call's own: the run's equation. -/
theorem run_append_bytes (w : World) (base : Nat) (v : Value) (n : Nat) (xs : List Value) (hown : w.ownsRow base 5 1 v n xs) (x : Value) (l : List Nat) (hx : BytesAt w x l) (hn : n + l.length ≤ 100000) (hbase : base ≤ w.heap.size) :
    ∃ v' w', (Builtin.append_ #[33, 33] 33 #[v, x]).run Tryd.prog w = .ok v' w' ∧ w'.ownsRow base 5 1 v' (n + l.length) (xs ++ encB l) ∧ w.grownBy w' v.ownBlock := by
  rcases hx.form with ⟨cap, rfl, rfl⟩ | ⟨a, cap, rfl, h1, h2, h3⟩
  · exact ⟨v, w, own_nil_run w base v n xs hown cap, by simpa [encB] using hown, World.grownBy.refl w _⟩
  · obtain ⟨i, hi, hz0, hz1, hz2⟩ := info_parts info8
    have hcells : ∀ j u, (encB l)[j]? = some u → w.cell? (a.add j) = some u := by
      intro j u hu
      unfold encB at hu
      rw [List.getElem?_map] at hu
      by_cases hj : j < l.length
      · rw [List.getElem?_eq_getElem hj] at hu
        rw [h3 j hj, List.getD_eq_getElem?_getD, List.getElem?_eq_getElem hj]
        exact hu
      · rw [List.getElem?_eq_none (by omega)] at hu
        cases hu
    obtain ⟨v', w', hrun, h4, h5, _, _⟩ := run_append_own_at (P := Tryd.prog) w base 33 33 5 i (.int .u8 0) 1 1 Tryd.underlying33 hi hz0 hz1 hz2 rfl (by decide) v n xs hown a l.length cap (encB l) (by unfold encB; simp) hcells (encB_one l) (by unfold maxLen; omega) (by omega) hbase
    exact ⟨v', w', hrun, h4, h5⟩
/-- An append whose run is known, at the walk's list. -/
theorem wpList_append_run {P : Program} {ops : Array Oper} {rest : List Oper} {o : Oper} {a : Act} {w : World} {Q : Exit → Act → World → Prop} (hgd : o.guard = none) (s x : Operand) (t : TypeId)
    (ho : o.op = .call { callee := .builtin .append, args := #[s, x], argTypes := #[t, t] }) {v xv v' : Value} {w' : World} (hs : a.eval s = v) (hx : a.eval x = xv) (hrun : (Builtin.append_ #[t, t] o.type #[v, xv]).run P w = .ok v' w')
    (h : wpList P ops Q rest (a.put o.dst v') w') : wpList P ops Q (o :: rest) a w :=
  wpList_plain hgd fun _ hK => by
    unfold Oper.wp execOp
    simp only [ho, resolve, invoke, builtin, Sem.run_bind, Sem.run_pure, Result.andThen_ok, List.map_toArray, List.map_cons, List.map_nil, hs, hx, hrun]
    exact hK _ _ h
/-- A row of the call's own reads as its bytes. -/
theorem bytes_own {w : World} {base : Nat} {v : Value} {l : List Nat} {n : Nat} (h : w.ownsRow base 5 1 v n (encB l)) (hn : n = l.length) (hb : ∀ c ∈ l, c < 256) (hl : l.length ≤ 100000) : BytesAt w v l := by
  subst hn
  refine ⟨?_, hb⟩
  have hc := fun {g : Nat} (hg : v.ownBlock = some g) => h.cells hg
  rcases h.2 with ⟨rfl, h0⟩ | ⟨g, cap, cur, rfl, _, _, hcap, hmax, _, _⟩
  · have : l = [] := List.eq_nil_of_length_eq_zero h0
    subst this
    exact .inl ⟨0, rfl, rfl⟩
  · unfold maxLen at hmax
    refine .inr ⟨⟨g, 0, none⟩, cap, rfl, hcap, hmax, fun i hi => hc (g := g) rfl i _ ?_⟩
    unfold encB
    rw [List.getElem?_map, List.getElem?_eq_getElem hi, List.getD_eq_getElem?_getD, List.getElem?_eq_getElem hi]
    rfl

theorem more_is (s : Nat) (v : Value) (l : List Nat) (w : World) (hs : s < 4294967296) (hv : BytesAt w v l) (h : Crcs w) {y : Nat} (hy : Crc.more s l = y) :
    Calls Tryd.prog 23 #[.int .u32 (s : Int), v] w fun e w' => e = .returned (.int .u32 (y : Int)) ∧ w = w' := by
  rw [← hy]; exact more_any s v l w hs hv h
theorem sum_is (v : Value) (l : List Nat) (w : World) (hv : BytesAt w v l) (h : Crcs w) {y : Nat} (hy : Crc.sum l = y) :
    Calls Tryd.prog 22 #[v] w fun e w' => e = .returned (.int .u32 (y : Int)) ∧ w = w' := by
  rw [← hy]; exact sum_any v l w hv h
theorem sum_lt (l : List Nat) (h : ∀ c ∈ l, c < 256) : Crc.sum l < 4294967296 :=
  max_xor (Crc.many_lt (max_xor (by decide)) h)
theorem BytesAt.slice {w : World} {v : Value} {l : List Nat} (h : BytesAt w v l) : ∃ p c, v = .slice p l.length c := by
  rcases h.form with ⟨cap, rfl, rfl⟩ | ⟨a, cap, rfl, _⟩
  · exact ⟨_, _, rfl⟩
  · exact ⟨_, _, rfl⟩

set_option maxRecDepth 100000 in
set_option maxHeartbeats 2000000 in
theorem parts_walk (v : Value) (l : List Nat) (x : Value) (m : List Nat) (w : World) (hv : BytesAt w v l) (hx : BytesAt w x m) (hT : Tabs w) :
    Calls Tryd.prog 5 #[v, x] w fun e w' => e = .returned (.bool true) ∧ Below w.heap.size w w' := by
  have HT := Lib.hid hT
  obtain ⟨p, c, hve⟩ := hv.slice
  obtain ⟨q, d, hxe⟩ := hx.slice
  by_cases h1 : l.length ≤ 2000
  · by_cases h2 : m.length ≤ 2000
    · -- the rows that the two appends make
      have hb0 : Below w.heap.size w (w.alloc (.cells #[] 5)) := (Below.refl _ _).alloc (Nat.le_refl _) _
      have own0 : (w.alloc (.cells #[] 5)).ownsRow w.heap.size 5 1 (.slice (some ⟨w.heap.size, 0, none⟩) 0 0) 0 [] := World.ownsRow_lit w #[] 0 (Nat.le_refl _) (by unfold maxLen; omega) rfl
      obtain ⟨v1, w1, r1, own1, g1⟩ := run_append_bytes _ _ _ _ _ own0 v l (hv.keep hb0) (by omega) (by simp)
      have hb1 : Below w.heap.size w w1 := hb0.grown g1 hb0.size (fun k hk => by cases hk; exact Nat.le_refl _)
      obtain ⟨v2, w2, r2, own2, g2⟩ := run_append_bytes _ _ _ _ _ own1 x m (hx.keep hb1) (by omega) hb1.size
      have hb2 : Below w.heap.size w w2 := hb1.grown g2 hb1.size (fun k hk => (own1.lt k hk).1)
      have hall : BytesAt w2 v2 (l ++ m) := bytes_own (by simpa [encB] using own2) (by simp) (fun c hc => (List.mem_append.1 hc).elim (hv.byte c) (hx.byte c)) (by simp; omega)
      have T2 := hT.below hb2
      obtain ⟨e1, e2⟩ := Crc.parts l m
      have H1 := Lib.hid (sum_is v2 (l ++ m) w2 hall T2.crc rfl)
      have H2 := Lib.hid (sum_is v l w2 (hv.keep hb2) T2.crc rfl)
      have H3 := Lib.hid (sum_is x m w2 (hx.keep hb2) T2.crc rfl)
      have H4 := Lib.hid (fun (W : World) => join_eq (Crc.sum l) (Crc.sum m) m.length W (sum_lt l hv.byte) (sum_lt m hx.byte) (by omega) e2)
      have H5 := Lib.hid (fun (W : World) (hb : Below w2.heap.size w2 W) => sum_is v l W ((hv.keep hb2).keep hb) (T2.below hb).crc rfl)
      have H6 := Lib.hid (fun (W : World) (hb : Below w2.heap.size w2 W) => more_is (Crc.sum l) x m W (sum_lt l hv.byte) ((hx.keep hb2).keep hb) (T2.below hb).crc e1)
      have TT := Lib.hid T2
      have BB := Lib.hid hb2
      generalize Crc.sum (l ++ m) = y at *
      generalize Crc.sum l = y1 at *
      generalize Crc.sum m = y2 at *
      have hme : (x = .slice q m.length d) := hxe
      subst hve hxe
      have h1' : (l.length : Int) ≤ 2000 := by omega
      have h2' : (m.length : Int) ≤ 2000 := by omega
      clear e1 e2 hb0 own0 own1 own2 g1 g2 hb1 hb2 hall T2 hT hv hx hme
      have R1 := Lib.hid r1
      have R2 := Lib.hid r2
      clear r1 r2
      go_enter Tryd.func5, Tryd.ntmps5
      go_wp2_with (first
        | (at_builtin; refine wpList_append_run rfl (.tmp 17) (.tmp 18) 33 rfl rfl rfl R1.out ?_)
        | (at_builtin; refine wpList_append_run rfl (.tmp 19) (.tmp 20) 33 rfl rfl rfl R2.out ?_))
      refine H1.out.mono ?_
      rintro e w3 ⟨rfl, rfl⟩
      go_wp2_with fail
      refine H2.out.mono ?_
      rintro e w3 ⟨rfl, rfl⟩
      go_wp2_with fail
      refine H3.out.mono ?_
      rintro e w3 ⟨rfl, rfl⟩
      go_wp2_with fail
      refine (H4.out _).mono ?_
      rintro e w3 ⟨rfl, hb3⟩
      have B3 := Lib.hid hb3
      have T3 := Lib.hid (TT.out.below hb3)
      clear hb3
      go_wp2_with fail
      refine (H5.out _ B3.out).mono ?_
      rintro e w4 ⟨rfl, rfl⟩
      go_wp2_with fail
      refine (H6.out _ B3.out).mono ?_
      rintro e w4 ⟨rfl, rfl⟩
      go_wp2_with fail
      refine (works_any _ T3.out).mono ?_
      rintro e w5 ⟨rfl, hb5⟩
      go_wp2
      go_ret
      exact ⟨rfl, BB.out.trans ((B3.out.trans (hb5.mono B3.out.size)).mono BB.out.size)⟩
    · subst hve hxe
      have h1' : (l.length : Int) ≤ 2000 := by omega
      have h2' : ¬ (m.length : Int) ≤ 2000 := by omega
      clear hv hx hT
      go_enter Tryd.func5, Tryd.ntmps5
      go_wp2_with (go_at_call 15; refine (works_any _ HT.out).mono ?_; rintro e w1 ⟨rfl, hb1⟩)
      go_ret
      exact ⟨rfl, hb1⟩
  · subst hve hxe
    have h1' : ¬ (l.length : Int) ≤ 2000 := by omega
    clear hv hx hT
    go_enter Tryd.func5, Tryd.ntmps5
    go_wp2_with (go_at_call 15; refine (works_any _ HT.out).mono ?_; rintro e w1 ⟨rfl, hb1⟩)
    go_ret
    exact ⟨rfl, hb1⟩
end Go.Proofs.YtdgloipckcjhaaaDoor
