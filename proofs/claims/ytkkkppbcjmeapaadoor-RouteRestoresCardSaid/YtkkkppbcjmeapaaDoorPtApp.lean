/- Appends of ranges, numbers and parts as equations of runs. No condition. -/
import Derived.Test.YtkkkppbcjmeapaaDoorPtMem
import Derived.Maps.AppendAt
import Derived.Deep.RegionHeld3
namespace Go.Proofs.YtkkkppbcjmeapaaDoor
open Go.RowKit

theorem infoI : (Tryd.prog.info? 3).map (fun i => (i.zero, i.size, i.bytes)) = some (some (.int .i64 0), 1, 8) := by kernel_rfl
theorem run_app_rng (w : World) (base : Nat) (v : Value) (n : Nat) (xs : List Value) (hown : w.ownsRow base 30 2 v n xs) (a : Addr) (m c : Nat) (news : List Value) (hm : news.length = m * 2) (hc : ∀ j u, news[j]? = some u → w.cell? (a.add j) = some u) (h1 : ∀ u ∈ news, u.oneCell' = true) (hn : n + m ≤ 1000) (hbase : base ≤ w.heap.size) :
    ∃ v' w', (Builtin.append_ #[45, 45] 45 #[v, .slice (some a) m c]).run Tryd.prog w = .ok v' w' ∧ w'.ownsRow base 30 2 v' (n + m) (xs ++ news) ∧ w.grownBy w' v.ownBlock := by
  obtain ⟨i, hi, hz0, hz1, hz2⟩ := info_parts infoR
  obtain ⟨v', w', hrun, h4, h5, _, _⟩ := run_append_own_at (P := Tryd.prog) w base 45 45 30 i (.agg #[.string ⟨#[]⟩, .string ⟨#[]⟩]) 2 32 Tryd.underlying45 hi hz0 hz1 hz2 rfl (by decide) v n xs hown a m c news (by rw [hm]) hc h1 (by unfold maxLen; omega) (by omega) hbase
  exact ⟨v', w', hrun, h4, h5⟩
theorem run_app_int (w : World) (base : Nat) (v : Value) (n : Nat) (xs : List Value) (hown : w.ownsRow base 3 1 v n xs) (a : Addr) (m c : Nat) (news : List Value) (hm : news.length = m * 1) (hc : ∀ j u, news[j]? = some u → w.cell? (a.add j) = some u) (h1 : ∀ u ∈ news, u.oneCell' = true) (hn : n + m ≤ 1000) (hbase : base ≤ w.heap.size) :
    ∃ v' w', (Builtin.append_ #[47, 47] 47 #[v, .slice (some a) m c]).run Tryd.prog w = .ok v' w' ∧ w'.ownsRow base 3 1 v' (n + m) (xs ++ news) ∧ w.grownBy w' v.ownBlock := by
  obtain ⟨i, hi, hz0, hz1, hz2⟩ := info_parts infoI
  obtain ⟨v', w', hrun, h4, h5, _, _⟩ := run_append_own_at (P := Tryd.prog) w base 47 47 3 i (.int .i64 0) 1 8 Tryd.underlying47 hi hz0 hz1 hz2 rfl (by decide) v n xs hown a m c news (by rw [hm]) hc h1 (by unfold maxLen; omega) (by omega) hbase
  exact ⟨v', w', hrun, h4, h5⟩
theorem run_app_pt (w : World) (base : Nat) (v : Value) (n : Nat) (xs : List Value) (hown : w.ownsRow base 89 4 v n xs) (a : Addr) (m c : Nat) (news : List Value) (hm : news.length = m * 4) (hc : ∀ j u, news[j]? = some u → w.cell? (a.add j) = some u) (h1 : ∀ u ∈ news, u.oneCell' = true) (hn : n + m ≤ 1000) (hbase : base ≤ w.heap.size) :
    ∃ v' w', (Builtin.append_ #[72, 72] 72 #[v, .slice (some a) m c]).run Tryd.prog w = .ok v' w' ∧ w'.ownsRow base 89 4 v' (n + m) (xs ++ news) ∧ w.grownBy w' v.ownBlock := by
  obtain ⟨i, hi, hz0, hz1, hz2⟩ := info_parts infoPt
  obtain ⟨v', w', hrun, h4, h5, _, _⟩ := run_append_own_at (P := Tryd.prog) w base 72 72 89 i (.agg #[.string ⟨#[]⟩, .string ⟨#[]⟩, .int .i64 0, .int .i64 0]) 4 48 Tryd.underlying72 hi hz0 hz1 hz2 rfl (by decide) v n xs hown a m c news (by rw [hm]) hc h1 (by unfold maxLen; omega) (by omega) hbase
  exact ⟨v', w', hrun, h4, h5⟩
/-- An append whose run is known, at the walk's list. -/
theorem wpList_append_run {P : Program} {ops : Array Oper} {rest : List Oper} {o : Oper} {a : Act} {w : World} {Q : Exit → Act → World → Prop} (hgd : o.guard = none) (s x : Operand) (t : TypeId)
    (ho : o.op = .call { callee := .builtin .append, args := #[s, x], argTypes := #[t, t] }) {v xv v' : Value} {w' : World} (hs : a.eval s = v) (hx : a.eval x = xv) (hrun : (Builtin.append_ #[t, t] o.type #[v, xv]).run P w = .ok v' w')
    (h : wpList P ops Q rest (a.put o.dst v') w') : wpList P ops Q (o :: rest) a w :=
  wpList_plain hgd fun _ hK => by
    unfold Oper.wp execOp
    simp only [ho, resolve, invoke, builtin, Sem.run_bind, Sem.run_pure, Result.andThen_ok, List.map_toArray, List.map_cons, List.map_nil, hs, hx, hrun]
    exact hK _ _ h
theorem step_append_run {P : Program} {ops : Array Oper} {o : Oper} {a : Act} {w : World} {K : Act → World → Prop} {Q : Exit → Act → World → Prop} {E : Prop} (hgd : o.guard = none) (s x : Operand) (t : TypeId)
    (ho : o.op = .call { callee := .builtin .append, args := #[s, x], argTypes := #[t, t] }) {v xv v' : Value} {w' : World} (hs : a.eval s = v) (hx : a.eval x = xv) (hrun : (Builtin.append_ #[t, t] o.type #[v, xv]).run P w = .ok v' w')
    (h : K (a.put o.dst v') w') : if Region.wanted o (yielded ops a.tmps) = true then Oper.wp P o a w K Q else E := by
  have hw : Region.wanted o (yielded ops a.tmps) = true := by simp [Region.wanted, hgd]
  rw [if_pos hw]
  unfold Oper.wp execOp
  simp only [ho, resolve, invoke, builtin, Sem.run_bind, Sem.run_pure, Result.andThen_ok, List.map_toArray, List.map_cons, List.map_nil, hs, hx, hrun]
  exact h
/-- The cells of a new block, in order. -/
theorem news_at (w : World) (T : TypeId) (cs : List Value) (b : Nat) (hb : b = w.heap.size) : ∀ j u, cs[j]? = some u → (w.alloc (.cells cs.toArray T)).cell? ((⟨b, 0, none⟩ : Addr).add j) = some u := fun j u hj => by
  subst hb
  have h := (Whole.new w T cs.toArray).cell j
  rw [show (⟨w.heap.size, 0, none⟩ : Addr).add j = ⟨w.heap.size, j, none⟩ by unfold Addr.add; split <;> simp_all]
  rw [h]
  simpa using hj

def flatR2 (d : List Pt) : List Value := d.flatMap fun p => [.string p.f, .string p.t]
def flatG (d : List Pt) : List Value := d.map fun p => .int .i64 p.g
def flatE (d : List Pt) : List Value := d.map fun p => .int .i64 p.e
theorem flatR2_snoc (d : List Pt) (k : Nat) (p : Pt) (h : d[k]? = some p) : flatR2 (d.take k) ++ [.string p.f, .string p.t] = flatR2 (d.take (k + 1)) := by
  rw [List.take_add_one, h]; simp [flatR2]
theorem flatG_snoc (d : List Pt) (k : Nat) (p : Pt) (h : d[k]? = some p) : flatG (d.take k) ++ [.int .i64 p.g] = flatG (d.take (k + 1)) := by
  rw [List.take_add_one, h]; simp [flatG]
theorem flatE_snoc (d : List Pt) (k : Nat) (p : Pt) (h : d[k]? = some p) : flatE (d.take k) ++ [.int .i64 p.e] = flatE (d.take (k + 1)) := by
  rw [List.take_add_one, h]; simp [flatE]
def ofL (g : Int) (d : List Pt) : List Pt := d.filter fun p => p.g == g
theorem ofL_yes (g : Int) (d : List Pt) (k : Nat) (p : Pt) (h : d[k]? = some p) (hg : p.g = g) : flatR2 (ofL g (d.take k)) ++ [.string p.f, .string p.t] = flatR2 (ofL g (d.take (k + 1))) ∧ (ofL g (d.take k)).length + 1 = (ofL g (d.take (k + 1))).length := by
  rw [List.take_add_one, h]; simp [flatR2, ofL, hg]
theorem ofL_no (g : Int) (d : List Pt) (k : Nat) (p : Pt) (h : d[k]? = some p) (hg : p.g ≠ g) : ofL g (d.take (k + 1)) = ofL g (d.take k) := by
  rw [List.take_add_one, h]; simp [ofL, hg]
theorem ofL_len (g : Int) (d : List Pt) (k : Nat) : (ofL g (d.take k)).length ≤ d.length := Nat.le_trans (List.length_filter_le _ _) (by rw [List.length_take]; omega)

set_option maxHeartbeats 1000000 in
theorem ranges_nil (w : World) :
    Calls Tryd.prog 19 #[.pointer none] w fun e w' => e = .returned (.slice none 0 0) ∧ w = w' := by
  go_enter Tryd.func19, Tryd.ntmps19
  go_wp2_with (go_at_call 45; refine (made_nil _).mono ?_; rintro e w1 ⟨rfl, rfl⟩)
  go_ret
  exact ⟨rfl, rfl⟩
set_option maxRecDepth 100000 in
set_option maxHeartbeats 4000000 in
theorem ranges_any (B : Nat) (d : List Pt) (w : World) (h : MapAt w B d) (hd : d.length ≤ 900) :
    Calls Tryd.prog 19 #[.pointer (some ⟨B, 0, none⟩)] w fun e w' => ∃ v, e = .returned v ∧ w'.ownsRow w.heap.size 30 2 v d.length (flatR2 d) ∧ Below w.heap.size w w' := by
  have C := fun W (H : MapAt W B d) => made_any B d W H
  by_cases h0 : d = []
  · subst h0
    have M := Lib.hid (made_any B [] w h)
    simp only [List.length_nil, Nat.lt_irrefl, decide_false] at M
    clear h C hd
    go_enter Tryd.func19, Tryd.ntmps19
    go_wp2_with (go_at_call 45; refine M.out.mono ?_; rintro e w1 ⟨rfl, rfl⟩)
    go_ret
    exact ⟨_, rfl, own_nil _ _ _ _, Below.refl _ _⟩
  · have hpos : 0 < d.length := by cases d with | nil => exact absurd rfl h0 | cons p ps => simp
    have M := Lib.hid (made_any B d w h)
    rw [decide_eq_true hpos] at M
    obtain ⟨v, h1, h2⟩ := h
    have c := h1.cell
    rcases h2 with ⟨h3, _⟩ | ⟨g, o, cap, rfl, hc, _⟩
    · exact absurd h3 h0
    have HC := Lib.hid hc
    clear C h1 hc h0 hpos
    generalize hn : d.length = n at c hd ⊢
    have HN := Lib.hid hn
    clear hn
    go_enter Tryd.func19, Tryd.ntmps19
    go_wp2_with (go_at_call 45; refine M.out.mono ?_; rintro e w1 ⟨rfl, rfl⟩)
    go_loopw [14, 3] (fun i v wr => Below w.heap.size w wr ∧ ∃ k : Nat, k ≤ n ∧ i = .int .i64 k ∧ wr.ownsRow w.heap.size 30 2 v k (flatR2 (d.take k))) (fun i _ _ => n - (intOf i).toNat)
    case atStart => exact ⟨Below.refl _ _, 0, Nat.zero_le _, rfl, own_nil _ _ _ _⟩
    case round =>
      rename_i v0 wr
      obtain ⟨b2, k, hk, rfl, hown⟩ := hrel
      by_cases hlt : k < n
      · have hg : d[k]? = some (d[k]'(by rw [HN.out]; exact hlt)) := List.getElem?_eq_getElem _
        have H4 := HC.out k _ hg
        have HS := Lib.hid (flatR2_snoc d k _ hg)
        generalize d[k]'(by rw [HN.out]; exact hlt) = p at H4 HS
        obtain ⟨c0, c1, c2, c3⟩ := H4
        have d0 := (b2.cell (lt_of_cellR c0)).trans c0
        have d1 := (b2.cell (lt_of_cellR c1)).trans c1
        have d2 := (b2.cell (lt_of_cellR c2)).trans c2
        have d3 := (b2.cell (lt_of_cellR c3)).trans c3
        have bb := (b2.alloc b2.size (.cells #[.string p.f, .string p.t, .int .i64 p.g, .int .i64 p.e] 89)).alloc (by simp; have := b2.size; omega) (.cells #[.string p.f, .string p.t] 30)
        have own2 := (hown.alloc (.cells #[.string p.f, .string p.t, .int .i64 p.g, .int .i64 p.e] 89)).alloc (.cells #[.string p.f, .string p.t] 30)
        obtain ⟨v', w', hrun, hown', hgrow⟩ := run_app_rng _ _ _ _ _ own2 ⟨wr.heap.size + 1, 0, none⟩ 1 1 [.string p.f, .string p.t] rfl (news_at (wr.alloc (.cells #[.string p.f, .string p.t, .int .i64 p.g, .int .i64 p.e] 89)) 30 [.string p.f, .string p.t] _ (by simp)) (by intro u hu; simp at hu; rcases hu with rfl | rfl <;> rfl) (by omega) bb.size
        have b3 := Lib.hid (bb.grown hgrow bb.size (fun q e => by exact (hown.lt q e).1))
        have R := Lib.hid hrun
        rw [HS.out] at hown'
        have O := Lib.hid hown'
        clear c0 c1 c2 c3 hg HC bb own2 hown hgrow hrun hown' HS b2
        go_wp2_with (at_builtin; refine wpList_append_run rfl (.tmp 18) (.tmp 21) 45 rfl rfl rfl R.out ?_)
        go_roundw
        case rel => exact ⟨b3.out, k + 1, by omega, by go_num, O.out⟩
        case measure => simp [intOf]; omega
      · obtain rfl : k = n := by omega
        rw [show d.take k = d from List.take_of_length_le (by rw [HN.out]; exact Nat.le_refl _)] at hown
        have O := Lib.hid hown
        clear hown
        go_wp2
        go_ret
        exact ⟨_, rfl, O.out, b2⟩
set_option maxHeartbeats 1000000 in
theorem groups_nil (w : World) :
    Calls Tryd.prog 20 #[.pointer none] w fun e w' => e = .returned (.slice none 0 0) ∧ w = w' := by
  go_enter Tryd.func20, Tryd.ntmps20
  go_wp2_with (go_at_call 45; refine (made_nil _).mono ?_; rintro e w1 ⟨rfl, rfl⟩)
  go_ret
  exact ⟨rfl, rfl⟩
set_option maxRecDepth 100000 in
set_option maxHeartbeats 4000000 in
theorem groups_any (B : Nat) (d : List Pt) (w : World) (h : MapAt w B d) (hd : d.length ≤ 900) :
    Calls Tryd.prog 20 #[.pointer (some ⟨B, 0, none⟩)] w fun e w' => ∃ v, e = .returned v ∧ w'.ownsRow w.heap.size 3 1 v d.length (flatG d) ∧ Below w.heap.size w w' := by
  have C := fun W (H : MapAt W B d) => made_any B d W H
  by_cases h0 : d = []
  · subst h0
    have M := Lib.hid (made_any B [] w h)
    simp only [List.length_nil, Nat.lt_irrefl, decide_false] at M
    clear h C hd
    go_enter Tryd.func20, Tryd.ntmps20
    go_wp2_with (go_at_call 45; refine M.out.mono ?_; rintro e w1 ⟨rfl, rfl⟩)
    go_ret
    exact ⟨_, rfl, own_nil _ _ _ _, Below.refl _ _⟩
  · have hpos : 0 < d.length := by cases d with | nil => exact absurd rfl h0 | cons p ps => simp
    have M := Lib.hid (made_any B d w h)
    rw [decide_eq_true hpos] at M
    obtain ⟨v, h1, h2⟩ := h
    have c := h1.cell
    rcases h2 with ⟨h3, _⟩ | ⟨g, o, cap, rfl, hc, _⟩
    · exact absurd h3 h0
    have HC := Lib.hid hc
    clear C h1 hc h0 hpos
    generalize hn : d.length = n at c hd ⊢
    have HN := Lib.hid hn
    clear hn
    go_enter Tryd.func20, Tryd.ntmps20
    go_wp2_with (go_at_call 45; refine M.out.mono ?_; rintro e w1 ⟨rfl, rfl⟩)
    go_loopw [14, 3] (fun i v wr => Below w.heap.size w wr ∧ ∃ k : Nat, k ≤ n ∧ i = .int .i64 k ∧ wr.ownsRow w.heap.size 3 1 v k (flatG (d.take k))) (fun i _ _ => n - (intOf i).toNat)
    case atStart => exact ⟨Below.refl _ _, 0, Nat.zero_le _, rfl, own_nil _ _ _ _⟩
    case round =>
      rename_i v0 wr
      obtain ⟨b2, k, hk, rfl, hown⟩ := hrel
      by_cases hlt : k < n
      · have hg : d[k]? = some (d[k]'(by rw [HN.out]; exact hlt)) := List.getElem?_eq_getElem _
        have H4 := HC.out k _ hg
        have HS := Lib.hid (flatG_snoc d k _ hg)
        generalize d[k]'(by rw [HN.out]; exact hlt) = p at H4 HS
        obtain ⟨c0, c1, c2, c3⟩ := H4
        have d0 := (b2.cell (lt_of_cellR c0)).trans c0
        have d1 := (b2.cell (lt_of_cellR c1)).trans c1
        have d2 := (b2.cell (lt_of_cellR c2)).trans c2
        have d3 := (b2.cell (lt_of_cellR c3)).trans c3
        have bb := (b2.alloc b2.size (.cells #[.string p.f, .string p.t, .int .i64 p.g, .int .i64 p.e] 89)).alloc (by simp; have := b2.size; omega) (.cells #[.int .i64 p.g] 3)
        have own2 := (hown.alloc (.cells #[.string p.f, .string p.t, .int .i64 p.g, .int .i64 p.e] 89)).alloc (.cells #[.int .i64 p.g] 3)
        obtain ⟨v', w', hrun, hown', hgrow⟩ := run_app_int _ _ _ _ _ own2 ⟨wr.heap.size + 1, 0, none⟩ 1 1 [.int .i64 p.g] rfl (news_at (wr.alloc (.cells #[.string p.f, .string p.t, .int .i64 p.g, .int .i64 p.e] 89)) 3 [.int .i64 p.g] _ (by simp)) (by intro u hu; simp at hu; rcases hu with rfl | rfl <;> rfl) (by omega) bb.size
        have b3 := Lib.hid (bb.grown hgrow bb.size (fun q e => by exact (hown.lt q e).1))
        have R := Lib.hid hrun
        rw [HS.out] at hown'
        have O := Lib.hid hown'
        clear c0 c1 c2 c3 hg HC bb own2 hown hgrow hrun hown' HS b2
        go_wp2_with (at_builtin; refine wpList_append_run rfl (.tmp 18) (.tmp 21) 47 rfl rfl rfl R.out ?_)
        go_roundw
        case rel => exact ⟨b3.out, k + 1, by omega, by go_num, O.out⟩
        case measure => simp [intOf]; omega
      · obtain rfl : k = n := by omega
        rw [show d.take k = d from List.take_of_length_le (by rw [HN.out]; exact Nat.le_refl _)] at hown
        have O := Lib.hid hown
        clear hown
        go_wp2
        go_ret
        exact ⟨_, rfl, O.out, b2⟩
set_option maxHeartbeats 1000000 in
theorem epochs_nil (w : World) :
    Calls Tryd.prog 31 #[.pointer none] w fun e w' => e = .returned (.slice none 0 0) ∧ w = w' := by
  go_enter Tryd.func31, Tryd.ntmps31
  go_wp2_with (go_at_call 45; refine (made_nil _).mono ?_; rintro e w1 ⟨rfl, rfl⟩)
  go_ret
  exact ⟨rfl, rfl⟩
set_option maxRecDepth 100000 in
set_option maxHeartbeats 4000000 in
theorem epochs_any (B : Nat) (d : List Pt) (w : World) (h : MapAt w B d) (hd : d.length ≤ 900) :
    Calls Tryd.prog 31 #[.pointer (some ⟨B, 0, none⟩)] w fun e w' => ∃ v, e = .returned v ∧ w'.ownsRow w.heap.size 3 1 v d.length (flatE d) ∧ Below w.heap.size w w' := by
  have C := fun W (H : MapAt W B d) => made_any B d W H
  by_cases h0 : d = []
  · subst h0
    have M := Lib.hid (made_any B [] w h)
    simp only [List.length_nil, Nat.lt_irrefl, decide_false] at M
    clear h C hd
    go_enter Tryd.func31, Tryd.ntmps31
    go_wp2_with (go_at_call 45; refine M.out.mono ?_; rintro e w1 ⟨rfl, rfl⟩)
    go_ret
    exact ⟨_, rfl, own_nil _ _ _ _, Below.refl _ _⟩
  · have hpos : 0 < d.length := by cases d with | nil => exact absurd rfl h0 | cons p ps => simp
    have M := Lib.hid (made_any B d w h)
    rw [decide_eq_true hpos] at M
    obtain ⟨v, h1, h2⟩ := h
    have c := h1.cell
    rcases h2 with ⟨h3, _⟩ | ⟨g, o, cap, rfl, hc, _⟩
    · exact absurd h3 h0
    have HC := Lib.hid hc
    clear C h1 hc h0 hpos
    generalize hn : d.length = n at c hd ⊢
    have HN := Lib.hid hn
    clear hn
    go_enter Tryd.func31, Tryd.ntmps31
    go_wp2_with (go_at_call 45; refine M.out.mono ?_; rintro e w1 ⟨rfl, rfl⟩)
    go_loopw [14, 3] (fun i v wr => Below w.heap.size w wr ∧ ∃ k : Nat, k ≤ n ∧ i = .int .i64 k ∧ wr.ownsRow w.heap.size 3 1 v k (flatE (d.take k))) (fun i _ _ => n - (intOf i).toNat)
    case atStart => exact ⟨Below.refl _ _, 0, Nat.zero_le _, rfl, own_nil _ _ _ _⟩
    case round =>
      rename_i v0 wr
      obtain ⟨b2, k, hk, rfl, hown⟩ := hrel
      by_cases hlt : k < n
      · have hg : d[k]? = some (d[k]'(by rw [HN.out]; exact hlt)) := List.getElem?_eq_getElem _
        have H4 := HC.out k _ hg
        have HS := Lib.hid (flatE_snoc d k _ hg)
        generalize d[k]'(by rw [HN.out]; exact hlt) = p at H4 HS
        obtain ⟨c0, c1, c2, c3⟩ := H4
        have d0 := (b2.cell (lt_of_cellR c0)).trans c0
        have d1 := (b2.cell (lt_of_cellR c1)).trans c1
        have d2 := (b2.cell (lt_of_cellR c2)).trans c2
        have d3 := (b2.cell (lt_of_cellR c3)).trans c3
        have bb := (b2.alloc b2.size (.cells #[.string p.f, .string p.t, .int .i64 p.g, .int .i64 p.e] 89)).alloc (by simp; have := b2.size; omega) (.cells #[.int .i64 p.e] 3)
        have own2 := (hown.alloc (.cells #[.string p.f, .string p.t, .int .i64 p.g, .int .i64 p.e] 89)).alloc (.cells #[.int .i64 p.e] 3)
        obtain ⟨v', w', hrun, hown', hgrow⟩ := run_app_int _ _ _ _ _ own2 ⟨wr.heap.size + 1, 0, none⟩ 1 1 [.int .i64 p.e] rfl (news_at (wr.alloc (.cells #[.string p.f, .string p.t, .int .i64 p.g, .int .i64 p.e] 89)) 3 [.int .i64 p.e] _ (by simp)) (by intro u hu; simp at hu; rcases hu with rfl | rfl <;> rfl) (by omega) bb.size
        have b3 := Lib.hid (bb.grown hgrow bb.size (fun q e => by exact (hown.lt q e).1))
        have R := Lib.hid hrun
        rw [HS.out] at hown'
        have O := Lib.hid hown'
        clear c0 c1 c2 c3 hg HC bb own2 hown hgrow hrun hown' HS b2
        go_wp2_with (at_builtin; refine wpList_append_run rfl (.tmp 18) (.tmp 21) 47 rfl rfl rfl R.out ?_)
        go_roundw
        case rel => exact ⟨b3.out, k + 1, by omega, by go_num, O.out⟩
        case measure => simp [intOf]; omega
      · obtain rfl : k = n := by omega
        rw [show d.take k = d from List.take_of_length_le (by rw [HN.out]; exact Nat.le_refl _)] at hown
        have O := Lib.hid hown
        clear hown
        go_wp2
        go_ret
        exact ⟨_, rfl, O.out, b2⟩
end Go.Proofs.YtkkkppbcjmeapaaDoor
