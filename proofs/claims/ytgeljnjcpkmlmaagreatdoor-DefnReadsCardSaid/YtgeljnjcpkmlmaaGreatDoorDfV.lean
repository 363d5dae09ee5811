/- Merged by program: DfCpy, DfSrt, DfKeys, DfRSrt, DfRKeys, DfREq, DfRTxt, DfRCpy, DfVal. -/
import Derived.Test.YtgeljnjcpkmlmaaGreatDoorDfPrs
import Derived.Test.YtgeljnjcpkmlmaaGreatDoorShelfG
import Derived.Deep.DeepFit
import Derived.Test.YtgeljnjcpkmlmaaGreatDoorDfRck
import Derived.BigQuiet
import Derived.Test.YtgeljnjcpkmlmaaGreatDoorDfEq
import Derived.Test.YtgeljnjcpkmlmaaGreatDoorDfTxt
import Derived.Test.YtgeljnjcpkmlmaaGreatDoorDfREnc
namespace Go.Proofs.YtgeljnjcpkmlmaaGreatDoor
section
open Go.RowKit Go.Shelf Go.Sort

theorem stC_at {s : List Sp} {j : Nat} {u : Value} (h : (s.flatMap stC)[j]? = some u) : ∃ p, s[j / 2]? = some p ∧ ((j % 2 = 0 ∧ u = .string p.k) ∨ (j % 2 = 1 ∧ u = .int .i64 p.v)) := by
  have hl : j < (s.flatMap stC).length := (List.getElem?_eq_some_iff.1 h).1
  rw [stC_len] at hl
  have hp := List.getElem?_eq_getElem (show j / 2 < s.length by omega)
  obtain ⟨c0, c1⟩ := cells_stC s (j / 2) _ hp
  refine ⟨_, hp, ?_⟩
  rcases Nat.mod_two_eq_zero_or_one j with e | e
  · rw [show j / 2 * 2 = j by omega, h] at c0
    exact Or.inl ⟨e, Option.some.inj c0⟩
  · rw [show j / 2 * 2 + 1 = j by omega, h] at c1
    exact Or.inr ⟨e, Option.some.inj c1⟩
theorem slD_addr {w : World} {A : Option Addr} {s : List Sp} (h : SlD w A s) (h0 : s ≠ []) : ∃ g o, A = some ⟨g, o, none⟩ ∧ ∀ (j : Nat) u, (s.flatMap stC)[j]? = some u → w.cell? ⟨g, o + j, none⟩ = some u := by
  obtain ⟨p, hp⟩ : ∃ p, s[0]? = some p := by cases s with | nil => exact absurd rfl h0 | cons p s => exact ⟨p, rfl⟩
  obtain ⟨g, o, rfl, _⟩ := h 0 p hp
  refine ⟨g, o, rfl, fun j u hj => ?_⟩
  obtain ⟨q, hq, hu⟩ := stC_at hj
  obtain ⟨g', o', e, c0, c1⟩ := h (j / 2) q hq
  cases e
  rcases hu with ⟨e, rfl⟩ | ⟨e, rfl⟩
  · rw [show o + j / 2 * 2 = o + j by omega] at c0; exact c0
  · rw [show o + j / 2 * 2 + 1 = o + j by omega] at c1; exact c1
theorem stC_one {s : List Sp} : ∀ u ∈ s.flatMap stC, u.oneCell' = true := fun u hu => by
  obtain ⟨p, _, h⟩ := List.mem_flatMap.1 hu
  unfold stC at h
  simp only [List.mem_cons, List.not_mem_nil, or_false] at h
  rcases h with rfl | rfl <;> rfl
set_option maxRecDepth 100000 in
theorem run_app_srcD (w : World) (A : Option Addr) (n c : Nat) (s : List Sp) (h : SlD w A s) (hl : s.length = n) (hn : n ≤ 1000000000000) {base : Nat} {v : Value} {k : Nat} {xs : List Value} (hown : w.ownsRow base 37 2 v k xs) (hk : k + n ≤ 1099511627776) (hbase : base ≤ w.heap.size) :
    ∃ v' w', (Builtin.append_ #[22, 22] 22 #[v, .slice A n c]).run Tryz.prog w = .ok v' w' ∧ w'.ownsRow base 37 2 v' (k + n) (xs ++ s.flatMap stC) ∧ w.grownBy w' v.ownBlock := by
  by_cases h0 : n = 0
  · subst h0
    have hs : s = [] := List.eq_nil_of_length_eq_zero hl
    subst hs
    obtain ⟨i, hi, hz0, hz1, hz2⟩ := info_parts infoP
    refine ⟨v, w, ?_, by simpa using hown, World.grownBy.refl w _⟩
    rcases hown.2 with ⟨rfl, rfl⟩ | ⟨g, cap, cur, rfl, _, _, hnc, _⟩
    · cases A <;> simp [Builtin.append_, run_underlying Tryz.underlying22, sizeOf, typeInfo, hi, Builtin.lenOf, Builtin.firstCells, loadCells, loadCellsFrom]
    · cases A <;> simp [Builtin.append_, run_underlying Tryz.underlying22, sizeOf, typeInfo, hi, Builtin.lenOf, Builtin.firstCells, hnc, storeCells, loadCells, loadCellsFrom]
  · obtain ⟨g, o, rfl, hc⟩ := slD_addr h (fun e => h0 (by rw [← hl, e]; rfl))
    exact run_app_step w base v k xs hown ⟨g, o, none⟩ n c (s.flatMap stC) (by rw [stC_len, hl]) (fun j u hj => by
      have := hc j u hj
      unfold Addr.add
      split
      · subst_vars; simpa using this
      · exact this) stC_one hk hbase
/-- A copy of a definition: its steps lie in memory that the call made. -/
def CpyR (w w' : World) (d : Dv) (n : Nat) (e : Ending) : Prop := ∃ A c, e = .returned (dV d A n c) ∧ n ≤ c ∧ w'.ownsRow w.heap.size 37 2 (.slice A n c) n (d.s.flatMap stC)
theorem CpyR.def {w w' : World} {d : Dv} {n : Nat} {A : Option Addr} {c : Nat} (h : n ≤ c ∧ w'.ownsRow w.heap.size 37 2 (.slice A n c) n (d.s.flatMap stC)) (hl : d.s.length = n) (hb : n ≤ 1000000000000) (hz : DefZ d) : DefAt w' A n c d :=
  ⟨hl, h.1, hb, hz, slD_own h.2 hl⟩
theorem whole_put3 {W : World} {D : Nat} {t : TypeId} {a b c d : Value} (h : Whole W D t #[a, b, c, d]) (d' : Value) : Whole (W.setCell ⟨D, 3, none⟩ d') D t #[a, b, c, d'] := by
  have := h.put 3 d'
  simpa using this
/-- A copy of steps. -/
theorem clone_steps (A : Option Addr) (n c : Nat) (s : List Sp) (w : World) (hs : SlD w A s) (hl : s.length = n) (hn : n ≤ 1000000000000) :
    Calls Tryz.prog 35 #[.slice A n c] w fun e w' => (∃ A' c', e = .returned (.slice A' n c') ∧ n ≤ c' ∧ w'.ownsRow w.heap.size 37 2 (.slice A' n c') n (s.flatMap stC)) ∧ Below w.heap.size w w' := by
  cases A with
  | none =>
    obtain rfl : s = [] := by
      cases s with
      | nil => rfl
      | cons p s => obtain ⟨g, o, e, _⟩ := hs 0 p rfl; cases e
    obtain rfl : n = 0 := hl.symm
    have hq : ∀ W : World, (binOp .eql 22 (.slice none 0 c) (.slice none 0 0)).run Tryz.prog W = .ok (.bool true) W := fun W => Lib.run_eql_slice_nil W _ _ none 0 c 0 0 Tryz.underlying22
    clear hs
    go_enter Tryz.func35, Tryz.ntmps35
    go_wp2
    go_ret
    exact ⟨⟨none, 0, rfl, Nat.le_refl _, rfl, Or.inl ⟨rfl, rfl⟩⟩, Below.refl _ _⟩
  | some a =>
    have hq : ∀ W : World, (binOp .eql 22 (.slice (some a) n c) (.slice none 0 0)).run Tryz.prog W = .ok (.bool false) W := fun W => Lib.run_eql_slice_nil W _ _ (some a) n c 0 0 Tryz.underlying22
    have b1 := (Below.refl w.heap.size w).alloc (Nat.le_refl _) (.cells #[] 37)
    have hm : (w.alloc (.cells #[] 37)).ownsRow w.heap.size 37 2 (.slice (some ⟨w.heap.size, 0, none⟩) 0 0) 0 [] := World.ownsRow_made _ _ _ (Nat.le_refl _) (Nat.zero_le _) rfl
    obtain ⟨v', w4, hrun, hown, hgrow⟩ := run_app_srcD _ (some a) n c s (hs.keep b1) hl hn hm (by omega) (by simp)
    rw [Nat.zero_add, List.nil_append] at hown
    obtain ⟨A4, c4, rfl, hc4⟩ := own_slice2 hown
    have HR := Lib.hid hrun
    have HF := Lib.hid (And.intro (And.intro hc4 hown) (b1.grown hgrow b1.size (fun k e => by simp [Value.ownBlock] at e; omega)))
    clear hrun hown hgrow hm b1 hs hc4
    go_enter Tryz.func35, Tryz.ntmps35
    go_wp2_with (at_builtin; refine wpList_append_run rfl (.tmp 5) (.tmp 6) 22 22 rfl rfl rfl HR.out ?_)
    go_ret
    exact ⟨⟨A4, c4, rfl, HF.out.1.1, HF.out.1.2⟩, HF.out.2⟩
abbrev boxW (w : World) (d : Dv) (A : Option Addr) (n c : Nat) : World := w.alloc (.cells #[.string d.n, .int .i64 d.r, .int .i64 d.dl, .slice A n c] 24)
abbrev resW (w : World) (d : Dv) (A : Option Addr) (n c : Nat) : World := (boxW w d A n c).alloc (.cells #[.string ⟨#[]⟩, .int .i64 0, .int .i64 0, .slice none 0 0] 24)
/-- The end of both copies: the copy is laid into the box, and the box into the result's cells. -/
theorem cpy_pack {w w2 w4 : World} {n c c4 : Nat} {d : Dv} {A A4 : Option Addr} (hw2 : w2 = resW w d A n c) (hb : Below w2.heap.size w2 w4) (ho : w4.ownsRow w2.heap.size 37 2 (.slice A4 n c4) n (d.s.flatMap stC)) :
    Whole w4 w.heap.size 24 #[.string d.n, .int .i64 d.r, .int .i64 d.dl, .slice A n c]
    ∧ Whole (w4.setCell ⟨w.heap.size, 3, none⟩ (.slice A4 n c4)) w.heap.size 24 #[.string d.n, .int .i64 d.r, .int .i64 d.dl, .slice A4 n c4]
    ∧ Whole (w4.setCell ⟨w.heap.size, 3, none⟩ (.slice A4 n c4)) (w.heap.size + 1) 24 #[.string ⟨#[]⟩, .int .i64 0, .int .i64 0, .slice none 0 0]
    ∧ (((((w4.setCell ⟨w.heap.size, 3, none⟩ (.slice A4 n c4)).setCell ⟨w.heap.size + 1, 0, none⟩ (.string d.n)).setCell ⟨w.heap.size + 1, 1, none⟩ (.int .i64 d.r)).setCell ⟨w.heap.size + 1, 2, none⟩ (.int .i64 d.dl)).setCell ⟨w.heap.size + 1, 3, none⟩ (.slice A4 n c4)).ownsRow w.heap.size 37 2 (.slice A4 n c4) n (d.s.flatMap stC)
    ∧ Below w.heap.size w (((((w4.setCell ⟨w.heap.size, 3, none⟩ (.slice A4 n c4)).setCell ⟨w.heap.size + 1, 0, none⟩ (.string d.n)).setCell ⟨w.heap.size + 1, 1, none⟩ (.int .i64 d.r)).setCell ⟨w.heap.size + 1, 2, none⟩ (.int .i64 d.dl)).setCell ⟨w.heap.size + 1, 3, none⟩ (.slice A4 n c4)) := by
  have b1 := (Below.refl w.heap.size w).alloc (Nat.le_refl _) (.cells #[.string d.n, .int .i64 d.r, .int .i64 d.dl, .slice A n c] 24)
  have b2 := b1.alloc b1.size (.cells #[.string ⟨#[]⟩, .int .i64 0, .int .i64 0, .slice none 0 0] 24)
  have WB := (Whole.new w 24 #[.string d.n, .int .i64 d.r, .int .i64 d.dl, .slice A n c]).alloc (.cells #[.string ⟨#[]⟩, .int .i64 0, .int .i64 0, .slice none 0 0] 24)
  have WR := Whole.new (boxW w d A n c) 24 #[.string ⟨#[]⟩, .int .i64 0, .int .i64 0, .slice none 0 0]
  have hz2 : w2.heap.size = w.heap.size + 2 := by rw [hw2]; simp [resW, boxW]
  have b2' : Below w.heap.size w w2 := by rw [hw2]; exact b2
  have WB2 : Whole w2 w.heap.size 24 #[.string d.n, .int .i64 d.r, .int .i64 d.dl, .slice A n c] := by rw [hw2]; exact WB
  have WR2 : Whole w2 (w.heap.size + 1) 24 #[.string ⟨#[]⟩, .int .i64 0, .int .i64 0, .slice none 0 0] := by
    rw [hw2]
    have : (boxW w d A n c).heap.size = w.heap.size + 1 := by simp [boxW]
    rw [this] at WR; exact WR
  have WB4 := WB2.keep hb
  have WR4 := WR2.keep hb
  have b4 := b2'.trans (hb.mono (by omega))
  have hs4 := hb.size
  have WB5 := whole_put3 WB4 (.slice A4 n c4)
  have WR5 : Whole (w4.setCell ⟨w.heap.size, 3, none⟩ (.slice A4 n c4)) (w.heap.size + 1) 24 #[.string ⟨#[]⟩, .int .i64 0, .int .i64 0, .slice none 0 0] := WR4.grown (grown_set (World.grownBy.refl w4 (some w.heap.size)) 3 _) (by simp)
  have g0 := grown_set (World.grownBy.refl w4 (some w.heap.size)) 3 (.slice A4 n c4)
  have g1 := put4_grown (w4.setCell ⟨w.heap.size, 3, none⟩ (.slice A4 n c4)) (w.heap.size + 1) (.string d.n) (.int .i64 d.r) (.int .i64 d.dl) (.slice A4 n c4)
  have o1 := ho.kept g0 (Or.inr (own_ne ho WB4 (by decide)).symm)
  have o2 := o1.kept g1 (Or.inr (own_ne o1 WR5 (by decide)).symm)
  exact ⟨WB4, WB5, WR5, o2.mono (by omega), (b4.grown g0 b4.size (fun k e => by cases e; omega)).grown g1 (by have := b4.size; simpa [World.setCell] using this) (fun k e => by cases e; omega)⟩
set_option maxRecDepth 100000 in
set_option maxHeartbeats 400000 in
theorem defCopy_any (d : Dv) (A : Option Addr) (n c : Nat) (w : World) (hl : d.s.length = n) (hn : n ≤ 1000000000000) (hs : SlD w A d.s) :
    Calls Tryz.prog 20 #[dV d A n c] w fun e w' => CpyR w w' d n e ∧ Below w.heap.size w w' := by
  obtain ⟨w2, hw2⟩ : ∃ w2, w2 = resW w d A n c := ⟨_, rfl⟩
  have b1 := (Below.refl w.heap.size w).alloc (Nat.le_refl _) (.cells #[.string d.n, .int .i64 d.r, .int .i64 d.dl, .slice A n c] 24)
  have b2 : Below w.heap.size w w2 := by rw [hw2]; exact b1.alloc b1.size (.cells #[.string ⟨#[]⟩, .int .i64 0, .int .i64 0, .slice none 0 0] 24)
  have hz2 : w2.heap.size = w.heap.size + 2 := by rw [hw2]; simp [resW, boxW]
  have WB2 : Whole w2 w.heap.size 24 #[.string d.n, .int .i64 d.r, .int .i64 d.dl, .slice A n c] := by rw [hw2]; exact (Whole.new w 24 #[.string d.n, .int .i64 d.r, .int .i64 d.dl, .slice A n c]).alloc _
  have CL := Lib.hid (clone_steps A n c d.s w2 (hs.keep b2) hl hn)
  obtain ⟨x0, x1, x2, x3⟩ := (whole4 WB2).1
  have HW2 := Lib.hid hw2
  clear b1 b2 hs hl WB2
  unfold dV
  go_enter Tryz.func20, Tryz.ntmps20
  go_upto_region 1 with fail
  generalize hwx : (w.alloc (.cells #[.string d.n, .int .i64 d.r, .int .i64 d.dl, .slice A n c] 24)).alloc (.cells #[.string ⟨#[]⟩, .int .i64 0, .int .i64 0, .slice none 0 0] 24) = wx
  obtain rfl : wx = w2 := by rw [← hwx, hw2]
  clear hw2 hwx
  go_wp2_with (go_at_call 35; refine CL.out.mono ?_; rintro e w4 ⟨⟨A4, c4, rfl, hc4, hown⟩, b4⟩; obtain ⟨k1, k2, k3, k4, k5⟩ := cpy_pack HW2.out b4 hown; obtain ⟨⟨y0, y1, y2, y3⟩, fy0, fy1, fy2, fy3⟩ := whole4 k1; obtain ⟨u0, u1, u2, u3⟩ := (whole4 k2).1; obtain ⟨⟨r0, r1, r2, r3⟩, fr0, fr1, fr2, fr3⟩ := whole4 k3; have hRlt := k3.lt; have HF := Lib.hid (And.intro hc4 (And.intro k4 k5)); clear k1 k2 k3 k4 k5 hown b4 hc4)
  refine bodyPost_ret (v := .agg #[.string d.n, .int .i64 d.r, .int .i64 d.dl, .slice A4 n c4]) ?_ rfl ?_
  · simp [results, Tryz.results20, go_sem, r0, r1, r2, r3]
  · exact ⟨⟨A4, c4, rfl, HF.out.1, HF.out.2.1⟩, HF.out.2.2⟩
end
section
open Go.RowKit Go.Shelf Go.Sort

instance inhSp : Inhabited Sp := ⟨⟨⟨#[]⟩, 0⟩⟩
set_option maxHeartbeats 1000000 in
theorem isNaNs_any (x : ByteArray) (w : World) : Calls Tryz.prog 111 #[.string x] w fun e w' => e = .returned (.bool false) ∧ w = w' := by
  go_enter Tryz.func111, Tryz.ntmps111
  go_wp2
  go_ret
  exact ⟨by simp, rfl⟩
/-- The sign of a comparison. -/
def cmpB (x y : ByteArray) : Int := if Op.bytesLess x.toList y.toList then -1 else if x.toList == y.toList then 0 else 1
set_option maxHeartbeats 1000000 in
theorem cmpB_any (x y : ByteArray) (w : World) : Calls Tryz.prog 75 #[.string x, .string y] w fun e w' => e = .returned (.int .i64 (cmpB x y)) ∧ w = w' := by
  have hq : cmpB x y = if Op.bytesLess x.toList y.toList then -1 else if x.toList == y.toList then 0 else 1 := rfl
  generalize cmpB x y = q at hq
  cases h1 : Op.bytesLess x.toList y.toList <;> cases h2 : (x.toList == y.toList)
  all_goals
    have HQ := Lib.hid (hq.trans (by rw [h1, h2]) : q = _)
    clear hq
    go_enter Tryz.func75, Tryz.ntmps75
    go_wp2_with (go_at_call 111; refine (isNaNs_any _ _).mono ?_; rintro e w1 ⟨rfl, rfl⟩)
    go_ret
    exact ⟨by rw [HQ.out]; rfl, rfl⟩
def cfK (x y : Sp) : Int := cmpB x.k y.k
set_option maxHeartbeats 1000000 in
theorem srt1_any (x y : Sp) (W : World) : Calls Tryz.prog 74 #[.agg #[.string x.k, .int .i64 x.v], .agg #[.string y.k, .int .i64 y.v]] W fun e w' => e = .returned (.int .i64 (cfK x y)) ∧ ∃ q os', w' = grow (W.drewN q) os' := by
  have hcon := fun W' => cmpB_any x.k y.k W'
  rw [show cmpB x.k y.k = cfK x y from rfl] at hcon
  generalize cfK x y = r at hcon ⊢
  go_enter Tryz.func74, Tryz.ntmps74
  go_wp2_with (go_at_call 75; refine (hcon _).mono ?_; rintro e w' ⟨rfl, rfl⟩)
  go_ret
  exact ⟨rfl, 0, _, by rw [alloc_eq_grow, alloc_eq_grow, grow_grow]; rfl⟩
theorem slen (n : Nat) (W : World) (h : n ≤ 12) : Calls Tryz.prog 110 #[.int .u64 n] W fun e w' => (∃ l : Int, e = .returned (.int .i64 l)) ∧ w' = W :=
  (Any.bits_Len Tryz.bitsLen n W (by omega) (by omega)).mono fun _ _ ⟨he, hw⟩ => ⟨⟨_, he⟩, hw⟩
theorem ltK_eq (x y : Sp) : ltOf cfK x y = kLt x y := by
  unfold ltOf cfK cmpB kLt
  cases h1 : Op.bytesLess x.k.toList y.k.toList <;> cases h2 : (x.k.toList == y.k.toList) <;> decide
theorem swoK : SWO (ltOf cfK) where
  irrefl x := by rw [ltK_eq]; exact kLt_irr _
  trans x y z h1 h2 := by rw [ltK_eq] at *; exact kLt_trans h1 h2
  ntrans x y z h1 h2 := by
    rw [ltK_eq] at *
    cases h : kLt x z with
    | false => rfl
    | true =>
      cases h3 : kLt y x with
      | true => rw [kLt_trans h3 h] at h2; cases h2
      | false =>
        have := kLt_tot h1 h3
        unfold kLt at h h2
        rw [this, h2] at h; cases h
theorem below_srt {w : World} {blk off m k : Nat} {dk : Array Sp} {os : Array Obj} (hg : blk < w.heap.size) : Go.RowKit.Below blk w (sortWorldK stC k w blk off m dk os) := by
  refine ⟨rfl, rfl, rfl, size_sortWorldK_c _ _ _ _ _ _ _ _, fun j hj => ?_⟩
  show ((mapBlock (Sort.ahead w m) blk _).heap ++ os)[j]? = w.heap[j]?
  rw [Array.getElem?_append_left (by show j < (w.heap.modify blk _).size; rw [Array.size_modify]; omega)]
  show (w.heap.modify blk _)[j]? = _
  rw [Array.getElem?_modify, if_neg (by omega)]
/-- The sort, at steps that the call itself has made. -/
theorem sort_steps (g cap n base : Nat) (s : List Sp) (w : World) (ho : w.ownsRow base 37 2 (.slice (some ⟨g, 0, none⟩) n cap) n (s.flatMap stC)) (hl : s.length = n) (h1 : 1 ≤ n) (hn : n ≤ 12) (hk : KeysD s) :
    Calls Tryz.prog 73 #[.slice (some ⟨g, 0, none⟩) n cap, .func (.func 74) #[] #[]] w fun e w' => e = .returned (.tuple #[]) ∧ SlD w' (some ⟨g, 0, none⟩) (srtD s) ∧ Go.RowKit.Below base w w' := by
  have hgb := (ho.lt g rfl)
  have hgs : g < w.heap.size := hgb.2
  have hsz : s.toArray.size = n := by simpa using hl
  have hat : ∀ i p, s[i]? = some p → s.toArray[i]! = p := fun i p hp => by
    obtain ⟨h, rfl⟩ := List.getElem?_eq_some_iff.1 hp
    rw [getElem!_pos s.toArray i (by simpa using h)]
    simp
  have hH : HoldsK stC 2 w g 0 s.toArray := fun j hj => by
    have hj2 : j < n * 2 := by rw [size_flatK, hsz] at hj; exact hj
    rw [Nat.zero_add]
    refine ⟨?_, ho.frozenAt j⟩
    rw [ho.cellAt j hj2, show (flatK stC 2 s.toArray)[j]! = (stC s.toArray[j / 2]!)[j % 2]! from get_flatK _ _ _ j (by rw [hsz]; exact hj2)]
    have hp := List.getElem?_eq_getElem (show j / 2 < s.length by omega)
    rw [hat _ _ hp]
    obtain ⟨c0, c1⟩ := cells_stC s (j / 2) _ hp
    rcases Nat.mod_two_eq_zero_or_one j with e | e
    · rw [show j / 2 * 2 = j by omega] at c0; rw [c0, e]; rfl
    · rw [show j / 2 * 2 + 1 = j by omega] at c1; rw [c1, e]; rfl
  have eg : ∀ args w, (callFunc 74 args).run Tryz.prog w = .ok (.enter 74 args) w := enters_of Tryz.func74 (by kernel_rfl) rfl
  have S := AnyQ.slices_SortFunc_small_sorted Tryz.sortS 2 Tryz.isAgg37 Tryz.sizeOf37 stC (fun _ => rfl) (fun x v hv => by simp [stC] at hv; rcases hv with rfl | rfl <;> rfl) cfK 74 #[] swoK g 0 cap s.toArray w eg (fun _ _ _ _ x y => srt1_any x y _) hH hgs (by omega) slen
  rw [hsz] at S
  refine S.mono ?_
  rintro e w' ⟨rfl, d', m, os, hp, hs, rfl⟩
  have hb := below_srt (off := 0) (m := m) (k := 2) (dk := d') (os := os) hgs
  have hsd : d'.size = n := by rw [hp.1, hsz]
  have hH2 := holdsK_sortWorldK_c stC 2 w g 0 s.toArray d' m os hH hgs (by rw [hp.1])
  have hd : d'.toList = srtD s := by
    refine srtD_eq hk ?_ ?_
    · have h3 := hp.2.2
      have e1 : (d'.extract 0 n).toList = d'.toList := by rw [← hsd]; simp
      have e2 : (s.toArray.extract 0 n).toList = s := by rw [← hsz]; simp
      rw [e1, e2] at h3
      exact h3
    · rw [List.pairwise_iff_getElem]
      intro i j hi hj hij
      have hj' : j < d'.size := by simpa using hj
      have hi' : i < d'.size := by simpa using hi
      have h := hs i j (Nat.zero_le _) hij (by omega)
      rw [ltK_eq, getElem!_pos d' j hj', getElem!_pos d' i hi'] at h
      simpa using h
  refine ⟨rfl, fun i p hi => ?_, hb.mono (by exact hgb.1)⟩
  rw [← hd] at hi
  obtain ⟨hlt, he⟩ := List.getElem?_eq_some_iff.1 hi
  have hlt' : i < d'.size := by simpa using hlt
  have c0 := (hH2.cell (i := i) (c := 0) hlt' (by decide)).1
  have c1 := (hH2.cell (i := i) (c := 1) hlt' (by decide)).1
  have e0 : d'[i]! = p := by rw [getElem!_pos d' i hlt']; simpa using he
  rw [e0] at c0 c1
  exact ⟨g, 0, rfl, by rw [Nat.add_zero] at c0; exact c0, c1⟩
end
section
open Go.RowKit Go.Shelf

/-- What sorted answers: it does not depend on the order of the steps. -/
def SrtR (w' : World) (d : Dv) (e : Ending) : Prop :=
  (defOk d ∧ ∃ A n c, e = .returned (.tuple #[.slice A n c, .int .i64 0]) ∧ (srtD d.s).length = n ∧ n ≤ 8 ∧ SlD w' A (srtD d.s)) ∨ (¬ defOk d ∧ e = .returned (.tuple #[.slice none 0 0, .int .i64 15]))
set_option maxRecDepth 100000 in
set_option maxHeartbeats 4000000 in
theorem sorted_any (d : Dv) (A : Option Addr) (n c : Nat) (w : World) (h : DefAt w A n c d) :
    Calls Tryz.prog 32 #[dV d A n c] w fun e w' => SrtR w' d e ∧ Below w.heap.size w w' := by
  have b1 := (Below.refl w.heap.size w).alloc (Nat.le_refl _) (.cells #[.string d.n, .int .i64 d.r, .int .i64 d.dl, .slice A n c] 24)
  have CK := Lib.hid (defCheck_any d A n c _ (h.keep b1))
  have HW0 := Lib.hid (Whole.new w 24 #[.string d.n, .int .i64 d.r, .int .i64 d.dl, .slice A n c])
  have HB := Lib.hid b1
  have H := Lib.hid h
  unfold dV at CK ⊢
  clear h b1
  by_cases hok : defOk d
  case neg =>
    rw [ckD_no hok] at CK
    have HN := Lib.hid hok
    clear hok
    go_enter Tryz.func32, Tryz.ntmps32
    go_wp2_with (go_at_call 25; refine CK.out.mono ?_; rintro e w1 ⟨rfl, hb⟩)
    go_ret2
    exact ⟨Or.inr ⟨HN.out, rfl⟩, HB.out.trans (hb.mono HB.out.size)⟩
  rw [ckD_yes hok] at CK
  have HOK := Lib.hid hok
  have HL := Lib.hid H.out.len
  have hk : KeysD d.s := hok.2.2.2.2.2.2.2.keys
  obtain ⟨_, _, _, _, _, n1, n8, _⟩ := id hok
  rw [HL.out] at n1 n8
  have HN := Lib.hid (And.intro n1 n8)
  have HK := Lib.hid hk
  clear hok hk n1 n8
  go_enter Tryz.func32, Tryz.ntmps32
  go_upto_region 4 with (go_at_call 25; refine CK.out.mono ?_; rintro e w1 ⟨rfl, hb⟩)
  have BW := Lib.hid (HB.out.trans (hb.mono HB.out.size))
  have x3 := (HW0.out.keep hb).cell 3
  simp only [List.getElem?_toArray, List.getElem?_cons_succ, List.getElem?_cons_zero] at x3
  have CL := Lib.hid (clone_steps A n c d.s w1 (H.out.s.keep BW.out) HL.out (by have := HN.out; omega))
  clear CK hb HW0 HB
  go_upto_region 5 with (go_at_call 35; refine CL.out.mono ?_; rintro e w2 ⟨⟨A2, c2, rfl, hc2, ho⟩, hb2⟩)
  obtain ⟨g, rfl⟩ : ∃ g, A2 = some ⟨g, 0, none⟩ := by
    rcases ho.2 with ⟨e, h0⟩ | ⟨g, cap, cur, e, _⟩
    · have := HN.out.1
      omega
    · cases e; exact ⟨g, rfl⟩
  have SO := Lib.hid (sort_steps g c2 n _ d.s w2 ho HL.out HN.out.1 (by have := HN.out; omega) HK.out)
  have B2 := Lib.hid (BW.out.trans (hb2.mono BW.out.size))
  have HSZ := Lib.hid BW.out.size
  clear CL x3 ho hb2 hc2
  go_wp2_with (go_at_call 73; refine SO.out.mono ?_; rintro e w3 ⟨rfl, hs, hb3⟩)
  go_ret2
  exact ⟨Or.inl ⟨HOK.out, _, n, c2, rfl, by rw [srtD_len, HL.out], HN.out.2, hs⟩, B2.out.trans (hb3.mono HSZ.out)⟩
def strV (p : Sp) : Value := .string p.k
def dlV (p : Sp) : Value := .int .i64 p.v
/-- What Keys answers, and what Net does. -/
def LstR (w w' : World) (T : TypeId) (f : Sp → Value) (d : Dv) (e : Ending) : Prop :=
  (defOk d ∧ ∃ v, e = .returned (.tuple #[v, .int .i64 0]) ∧ w'.ownsRow w.heap.size T 1 v d.s.length ((srtD d.s).map f)) ∨ (¬ defOk d ∧ e = .returned (.tuple #[.slice none 0 0, .int .i64 15]))
theorem take_next {s : List Sp} {k : Nat} {p : Sp} (f : Sp → Value) (h : s[k]? = some p) : (s.take k).map f ++ [f p] = (s.take (k + 1)).map f := by
  rw [List.take_add_one, h]; simp
/-- A value appended to those that stand there. -/
theorem app_keys (base k : Nat) (v : Value) (xs : List Value) (p : Sp) (W : World) (hown : W.ownsRow base 9 1 v k xs) (hb : base ≤ W.heap.size) (hn : k ≤ 1000000000) :
    ∃ v' w', (Builtin.append_ #[27, 27] 27 #[v, .slice (some ⟨W.heap.size, 0, none⟩) 1 1]).run Tryz.prog (W.alloc (.cells #[.string p.k] 9)) = .ok v' w' ∧ w'.ownsRow base 9 1 v' (k + 1) (xs ++ [.string p.k]) ∧ (W.alloc (.cells #[.string p.k] 9)).grownBy w' v.ownBlock :=
  run_app_text (W.alloc (.cells #[.string p.k] 9)) base v k xs (hown.alloc _) ⟨W.heap.size, 0, none⟩ 1 1 [.string p.k] rfl (news_at W _ [.string p.k] _ rfl) (by simp [Value.oneCell']) (by omega) (by simp; omega)
set_option maxRecDepth 100000 in
set_option maxHeartbeats 2000000 in
theorem keys_any (d : Dv) (A : Option Addr) (n c : Nat) (w : World) (h : DefAt w A n c d) :
    Calls Tryz.prog 13 #[dV d A n c] w fun e w' => LstR w w' 9 strV d e ∧ Below w.heap.size w w' := by
  have b1 := (Below.refl w.heap.size w).alloc (Nat.le_refl _) (.cells #[.string d.n, .int .i64 d.r, .int .i64 d.dl, .slice A n c] 24)
  have SO := Lib.hid (sorted_any d A n c _ (h.keep b1))
  have HB := Lib.hid b1
  have HL := Lib.hid h.len
  unfold dV at SO ⊢
  clear h b1
  by_cases hok : defOk d
  case neg =>
    have SN := Lib.hid (SO.out.mono (fun e w' ⟨h, hb⟩ => And.intro (h.resolve_left (fun h => hok h.1)).2 hb))
    have HN := Lib.hid hok
    clear hok SO
    go_enter Tryz.func13, Tryz.ntmps13
    go_upto_region 3 with (go_at_call 32; refine SN.out.mono ?_; rintro e w1 ⟨rfl, hb⟩)
    have BW := Lib.hid (HB.out.trans (hb.mono HB.out.size))
    clear hb HB SN
    go_wp2_with fail
    go_loopw [6, 16] (fun v i wr => i = .int .i64 0 ∧ v = .slice none 0 0 ∧ wr = w1) (fun _ _ _ => 0)
    case atStart => exact ⟨rfl, rfl, rfl⟩
    case round =>
      obtain ⟨rfl, rfl, rfl⟩ := hrel
      go_wp2_with fail
      go_ret2
      exact ⟨Or.inr ⟨HN.out, rfl⟩, BW.out⟩
  have SY := Lib.hid (SO.out.mono (fun e w' ⟨h, hb⟩ => And.intro (h.resolve_right (fun h => h.1 hok)).2 hb))
  have HOK := Lib.hid hok
  clear hok SO
  go_enter Tryz.func13, Tryz.ntmps13
  go_upto_region 3 with (go_at_call 32; refine SY.out.mono ?_; rintro e w1 ⟨⟨A1, m, c1, rfl, hl, h8, hs⟩, hb⟩)
  have BW := Lib.hid (HB.out.trans (hb.mono HB.out.size))
  have HS := Lib.hid hs
  have HM := Lib.hid hl
  have J0 : Hid (w1.ownsRow w1.heap.size 9 1 (.slice none 0 0) 0 (((srtD d.s).take 0).map strV) ∧ Below w1.heap.size w1 w1) := Lib.hid ⟨⟨rfl, Or.inl ⟨rfl, by simp⟩⟩, Below.refl _ _⟩
  clear hs hl hb SY HB
  go_wp2_with fail
  go_loopw [6, 16] (fun v i wr => ∃ k : Nat, k ≤ m ∧ i = .int .i64 k ∧ Hid (wr.ownsRow w1.heap.size 9 1 v k (((srtD d.s).take k).map strV) ∧ Below w1.heap.size w1 wr)) (fun _ i _ => m - (intOf i).toNat)
  case atStart => exact ⟨0, by omega, rfl, J0⟩
  case round =>
    clear J0
    obtain ⟨k, hk, rfl, HI⟩ := hrel
    by_cases hkn : k < m
    · obtain ⟨p, hp⟩ : ∃ p, (srtD d.s)[k]? = some p := ⟨_, List.getElem?_eq_getElem (by rw [HM.out]; exact hkn)⟩
      obtain ⟨g, o, rfl, y0, y1⟩ := HS.out.keep HI.out.2 k p hp
      have HP := Lib.hid (take_next strV hp)
      have BA := Lib.hid (HI.out.2.alloc HI.out.2.size (.cells #[.string p.k, .int .i64 p.v] 37))
      have OA := Lib.hid (HI.out.1.alloc (.cells #[.string p.k, .int .i64 p.v] 37))
      have NA := Whole.new wr 37 #[.string p.k, .int .i64 p.v]
      have p0 := NA.cell 0
      have p1 := NA.cell 1
      simp only [List.getElem?_toArray, List.getElem?_cons_succ, List.getElem?_cons_zero] at p0 p1
      have hk0 : (0 : Int) ≤ (k : Int) := by omega
      have hkn' : (k : Int) < (m : Int) := by omega
      have hwk : IntKind.i64.wrap ((k : Int) + 1) = (k : Int) + 1 := IntWalk.i64_in _ (by omega)
      clear hp HI NA
      go_upto_region 6 with fail
      generalize hwa : wr.alloc (.cells #[.string p.k, .int .i64 p.v] 37) = wa at p0 p1 BA OA ⊢
      obtain ⟨v', w', hrun, hown, hgr⟩ := app_keys w1.heap.size k _ _ p wa OA.out BA.out.size (by omega)
      have HR := Lib.hid hrun
      have HF : Hid (w'.ownsRow w1.heap.size 9 1 v' (k + 1) (((srtD d.s).take (k + 1)).map strV) ∧ Below w1.heap.size w1 w') := Lib.hid ⟨by rw [← HP.out]; exact hown, (BA.out.alloc BA.out.size _).grown hgr (by have := BA.out.size; simp; omega) (fun k e => (OA.out.lt k e).1)⟩
      clear hrun hown hgr OA BA hwa y0 y1
      go_wp2_with (at_builtin; refine wpList_append_run rfl (.tmp 20) (.tmp 23) 27 27 rfl rfl rfl HR.out ?_)
      go_roundw
      case rel => exact ⟨k + 1, by omega, by go_num, HF⟩
      case measure => simp [intOf]; omega
    · obtain rfl : k = m := by omega
      have HE : Hid (wr.ownsRow w1.heap.size 9 1 u6 k ((srtD d.s).map strV) ∧ Below w1.heap.size w1 wr) := Lib.hid ⟨by have := HI.out.1; rw [List.take_of_length_le (by rw [HM.out]; exact Nat.le_refl _)] at this; exact this, HI.out.2⟩
      have HLL : Hid (d.s.length = k) := Lib.hid (by rw [← srtD_len, HM.out])
      clear HI
      go_wp2_with fail
      go_ret2
      exact ⟨Or.inl ⟨HOK.out, _, rfl, by rw [HLL.out]; exact HE.out.1.mono BW.out.size⟩, BW.out.trans (HE.out.2.mono BW.out.size)⟩
/-- A value appended to those that stand there. -/
theorem app_net (base k : Nat) (v : Value) (xs : List Value) (p : Sp) (W : World) (hown : W.ownsRow base 2 1 v k xs) (hb : base ≤ W.heap.size) (hn : k ≤ 1000000000) :
    ∃ v' w', (Builtin.append_ #[31, 31] 31 #[v, .slice (some ⟨W.heap.size, 0, none⟩) 1 1]).run Tryz.prog (W.alloc (.cells #[.int .i64 p.v] 2)) = .ok v' w' ∧ w'.ownsRow base 2 1 v' (k + 1) (xs ++ [.int .i64 p.v]) ∧ (W.alloc (.cells #[.int .i64 p.v] 2)).grownBy w' v.ownBlock :=
  run_app_num (W.alloc (.cells #[.int .i64 p.v] 2)) base v k xs (hown.alloc _) ⟨W.heap.size, 0, none⟩ 1 1 [.int .i64 p.v] rfl (news_at W _ [.int .i64 p.v] _ rfl) (by simp [Value.oneCell']) (by omega) (by simp; omega)
set_option maxRecDepth 100000 in
set_option maxHeartbeats 2000000 in
theorem net_any (d : Dv) (A : Option Addr) (n c : Nat) (w : World) (h : DefAt w A n c d) :
    Calls Tryz.prog 15 #[dV d A n c] w fun e w' => LstR w w' 2 dlV d e ∧ Below w.heap.size w w' := by
  have b1 := (Below.refl w.heap.size w).alloc (Nat.le_refl _) (.cells #[.string d.n, .int .i64 d.r, .int .i64 d.dl, .slice A n c] 24)
  have SO := Lib.hid (sorted_any d A n c _ (h.keep b1))
  have HB := Lib.hid b1
  have HL := Lib.hid h.len
  unfold dV at SO ⊢
  clear h b1
  by_cases hok : defOk d
  case neg =>
    have SN := Lib.hid (SO.out.mono (fun e w' ⟨h, hb⟩ => And.intro (h.resolve_left (fun h => hok h.1)).2 hb))
    have HN := Lib.hid hok
    clear hok SO
    go_enter Tryz.func15, Tryz.ntmps15
    go_upto_region 3 with (go_at_call 32; refine SN.out.mono ?_; rintro e w1 ⟨rfl, hb⟩)
    have BW := Lib.hid (HB.out.trans (hb.mono HB.out.size))
    clear hb HB SN
    go_wp2_with fail
    go_loopw [6, 16] (fun v i wr => i = .int .i64 0 ∧ v = .slice none 0 0 ∧ wr = w1) (fun _ _ _ => 0)
    case atStart => exact ⟨rfl, rfl, rfl⟩
    case round =>
      obtain ⟨rfl, rfl, rfl⟩ := hrel
      go_wp2_with fail
      go_ret2
      exact ⟨Or.inr ⟨HN.out, rfl⟩, BW.out⟩
  have SY := Lib.hid (SO.out.mono (fun e w' ⟨h, hb⟩ => And.intro (h.resolve_right (fun h => h.1 hok)).2 hb))
  have HOK := Lib.hid hok
  clear hok SO
  go_enter Tryz.func15, Tryz.ntmps15
  go_upto_region 3 with (go_at_call 32; refine SY.out.mono ?_; rintro e w1 ⟨⟨A1, m, c1, rfl, hl, h8, hs⟩, hb⟩)
  have BW := Lib.hid (HB.out.trans (hb.mono HB.out.size))
  have HS := Lib.hid hs
  have HM := Lib.hid hl
  have J0 : Hid (w1.ownsRow w1.heap.size 2 1 (.slice none 0 0) 0 (((srtD d.s).take 0).map dlV) ∧ Below w1.heap.size w1 w1) := Lib.hid ⟨⟨rfl, Or.inl ⟨rfl, by simp⟩⟩, Below.refl _ _⟩
  clear hs hl hb SY HB
  go_wp2_with fail
  go_loopw [6, 16] (fun v i wr => ∃ k : Nat, k ≤ m ∧ i = .int .i64 k ∧ Hid (wr.ownsRow w1.heap.size 2 1 v k (((srtD d.s).take k).map dlV) ∧ Below w1.heap.size w1 wr)) (fun _ i _ => m - (intOf i).toNat)
  case atStart => exact ⟨0, by omega, rfl, J0⟩
  case round =>
    clear J0
    obtain ⟨k, hk, rfl, HI⟩ := hrel
    by_cases hkn : k < m
    · obtain ⟨p, hp⟩ : ∃ p, (srtD d.s)[k]? = some p := ⟨_, List.getElem?_eq_getElem (by rw [HM.out]; exact hkn)⟩
      obtain ⟨g, o, rfl, y0, y1⟩ := HS.out.keep HI.out.2 k p hp
      have HP := Lib.hid (take_next dlV hp)
      have BA := Lib.hid (HI.out.2.alloc HI.out.2.size (.cells #[.string p.k, .int .i64 p.v] 37))
      have OA := Lib.hid (HI.out.1.alloc (.cells #[.string p.k, .int .i64 p.v] 37))
      have NA := Whole.new wr 37 #[.string p.k, .int .i64 p.v]
      have p0 := NA.cell 0
      have p1 := NA.cell 1
      simp only [List.getElem?_toArray, List.getElem?_cons_succ, List.getElem?_cons_zero] at p0 p1
      have hk0 : (0 : Int) ≤ (k : Int) := by omega
      have hkn' : (k : Int) < (m : Int) := by omega
      have hwk : IntKind.i64.wrap ((k : Int) + 1) = (k : Int) + 1 := IntWalk.i64_in _ (by omega)
      clear hp HI NA
      go_upto_region 6 with fail
      generalize hwa : wr.alloc (.cells #[.string p.k, .int .i64 p.v] 37) = wa at p0 p1 BA OA ⊢
      obtain ⟨v', w', hrun, hown, hgr⟩ := app_net w1.heap.size k _ _ p wa OA.out BA.out.size (by omega)
      have HR := Lib.hid hrun
      have HF : Hid (w'.ownsRow w1.heap.size 2 1 v' (k + 1) (((srtD d.s).take (k + 1)).map dlV) ∧ Below w1.heap.size w1 w') := Lib.hid ⟨by rw [← HP.out]; exact hown, (BA.out.alloc BA.out.size _).grown hgr (by have := BA.out.size; simp; omega) (fun k e => (OA.out.lt k e).1)⟩
      clear hrun hown hgr OA BA hwa y0 y1
      go_wp2_with (at_builtin; refine wpList_append_run rfl (.tmp 20) (.tmp 23) 31 31 rfl rfl rfl HR.out ?_)
      go_roundw
      case rel => exact ⟨k + 1, by omega, by go_num, HF⟩
      case measure => simp [intOf]; omega
    · obtain rfl : k = m := by omega
      have HE : Hid (wr.ownsRow w1.heap.size 2 1 u6 k ((srtD d.s).map dlV) ∧ Below w1.heap.size w1 wr) := Lib.hid ⟨by have := HI.out.1; rw [List.take_of_length_le (by rw [HM.out]; exact Nat.le_refl _)] at this; exact this, HI.out.2⟩
      have HLL : Hid (d.s.length = k) := Lib.hid (by rw [← srtD_len, HM.out])
      clear HI
      go_wp2_with fail
      go_ret2
      exact ⟨Or.inl ⟨HOK.out, _, rfl, by rw [HLL.out]; exact HE.out.1.mono BW.out.size⟩, BW.out.trans (HE.out.2.mono BW.out.size)⟩
end
section
open Go.RowKit Go.Shelf

theorem kLt_ntrans {x y z : Sp} (h1 : kLt x y = false) (h2 : kLt y z = false) : kLt x z = false := by
  have := swoK.ntrans x y z
  rw [ltK_eq, ltK_eq, ltK_eq] at this
  exact this h1 h2
def WeakD (l : List Sp) : Prop := l.Pairwise (fun a b => kLt b a = false)
theorem weak_ins {pre post : List Sp} {x : Sp} (h : WeakD (pre ++ post)) (hp : ∀ y ∈ post, kLt x y = true) (hx : pre = [] ∨ ∃ pre' y, pre = pre' ++ [y] ∧ kLt x y = false) : WeakD (pre ++ x :: post) := by
  unfold WeakD at h ⊢
  rw [List.pairwise_append] at h ⊢
  obtain ⟨h1, h2, h3⟩ := h
  refine ⟨h1, List.pairwise_cons.2 ⟨fun y hy => ?_, h2⟩, fun a ha b hb => ?_⟩
  · cases e : kLt y x with
    | false => rfl
    | true => have := kLt_trans e (hp y hy); rw [kLt_irr] at this; cases this
  · rcases List.mem_cons.1 hb with rfl | hb
    · rcases hx with rfl | ⟨pre', y, rfl, hy⟩
      · cases ha
      · rcases List.mem_append.1 ha with ha' | ha'
        · rw [List.pairwise_append] at h1
          exact kLt_ntrans hy (h1.2.2 a ha' y (by simp))
        · simp only [List.mem_cons, List.not_mem_nil, or_false] at ha'
          rw [ha']; exact hy
    · exact h3 a ha b hb
theorem own_set {w : World} {base g n cap size : Nat} {e : TypeId} {xs : List Value} (h : w.ownsRow base e size (.slice (some ⟨g, 0, none⟩) n cap) n xs) (j : Nat) (u : Value) : (w.setCell ⟨g, j, none⟩ u).ownsRow base e size (.slice (some ⟨g, 0, none⟩) n cap) n (xs.set j u) := by
  refine ⟨by rw [List.length_set]; exact h.1, ?_⟩
  rcases h.2 with ⟨e, _⟩ | ⟨g', cap', cur, he, hb, hg, h1, h2, h3, h4⟩
  · cases e
  · cases he
    refine Or.inr ⟨g, cap, cur.setIfInBounds j u, rfl, hb, (Whole.put (show Whole w g e cur from hg) j u), h1, h2, by simpa using h3, ?_⟩
    rw [← h4, Array.toList_setIfInBounds, List.take_set]
theorem flat_set : ∀ (l : List Sp) (k : Nat) (q : Sp), k < l.length → ((l.flatMap stC).set (k * 2) (.string q.k)).set (k * 2 + 1) (.int .i64 q.v) = (l.set k q).flatMap stC
  | [], k, q, h => absurd h (by simp)
  | p :: l, 0, q, _ => by simp [stC]
  | p :: l, k + 1, q, h => by
    have ih := flat_set l k q (by simpa using h)
    rw [List.set_cons_succ, List.flatMap_cons, List.flatMap_cons, ← ih]
    show (([Value.string p.k, .int .i64 p.v] ++ l.flatMap stC).set ((k + 1) * 2) _).set _ _ = _
    rw [show (k + 1) * 2 = k * 2 + 1 + 1 by omega]
    rfl
/-- A step is stored into a row of the call's own. -/
theorem own_put {w : World} {base g n cap : Nat} {l : List Sp} (h : w.ownsRow base 37 2 (.slice (some ⟨g, 0, none⟩) n cap) n (l.flatMap stC)) (hl : l.length = n) {k : Nat} (hk : k < n) (q : Sp) :
    ((w.setCell ⟨g, k * 2, none⟩ (.string q.k)).setCell ⟨g, k * 2 + 1, none⟩ (.int .i64 q.v)).ownsRow base 37 2 (.slice (some ⟨g, 0, none⟩) n cap) n ((l.set k q).flatMap stC) := by
  have := own_set (own_set h (k * 2) (.string q.k)) (k * 2 + 1) (.int .i64 q.v)
  rw [flat_set l k q (by omega)] at this
  exact this
theorem put2_grown (W : World) (g a b : Nat) (x y : Value) : W.grownBy ((W.setCell ⟨g, a, none⟩ x).setCell ⟨g, b, none⟩ y) (some g) := grown_set (grown_set (World.grownBy.refl W (some g)) a x) b y
theorem swap_lists (pre post : List Sp) (x y : Sp) : ((pre ++ [y] ++ x :: post).set (pre.length + 1) y).set pre.length x = pre ++ x :: (y :: post) := by
  induction pre with
  | nil => rfl
  | cons p pre ih =>
    simp only [List.cons_append, List.length_cons, List.set_cons_succ]
    rw [ih]
theorem at_pre (pre post : List Sp) (x y : Sp) : (pre ++ [y] ++ x :: post)[pre.length]? = some y ∧ (pre ++ [y] ++ x :: post)[pre.length + 1]? = some x := by
  constructor
  · rw [List.append_assoc, List.getElem?_append_right (Nat.le_refl _)]; simp
  · rw [List.getElem?_append_right (by simp)]; simp
set_option maxRecDepth 100000 in
set_option maxHeartbeats 4000000 in
theorem refSorted_any (d : Dv) (A : Option Addr) (n c : Nat) (w : World) (h : DefAt w A n c d) (h8 : n ≤ 1000) (hk : KeysD d.s) :
    Calls Tryz.prog 33 #[dV d A n c] w fun e w' => (∃ A' c', e = .returned (.slice A' n c') ∧ SlD w' A' (srtD d.s)) ∧ Below w.heap.size w w' := by
  have mixed : Tryz.prog.follows Departure.mixedOrders = true := by kernel_rfl
  have HW0 := Lib.hid (Whole.new w 24 #[.string d.n, .int .i64 d.r, .int .i64 d.dl, .slice A n c])
  have HB := Lib.hid ((Below.refl w.heap.size w).alloc (Nat.le_refl _) (.cells #[.string d.n, .int .i64 d.r, .int .i64 d.dl, .slice A n c] 24))
  have HS := Lib.hid (h.keep HB.out).s
  have HL := Lib.hid h.len
  have HK := Lib.hid hk
  clear h hk
  unfold dV
  go_enter Tryz.func33, Tryz.ntmps33
  go_upto_region 2 with fail
  generalize hw1 : w.alloc (.cells #[.string d.n, .int .i64 d.r, .int .i64 d.dl, .slice A n c] 24) = w1 at HW0 HB HS ⊢
  clear hw1
  have J0 : Hid (w1.ownsRow w1.heap.size 37 2 (.slice none 0 0) 0 (([] : List Sp).flatMap stC) ∧ Below w1.heap.size w1 w1 ∧ ([] : List Sp).Perm (d.s.take 0) ∧ WeakD []) := Lib.hid ⟨⟨rfl, Or.inl ⟨rfl, rfl⟩⟩, Below.refl _ _, by simp, List.Pairwise.nil⟩
  go_wp2_with fail
  go_loopw [3, 4] (fun v i wr => ∃ (k : Nat) (L : List Sp), k ≤ n ∧ i = .int .i64 k ∧ Hid (wr.ownsRow w1.heap.size 37 2 v k (L.flatMap stC) ∧ Below w1.heap.size w1 wr ∧ L.Perm (d.s.take k) ∧ WeakD L)) (fun _ i _ => n - (intOf i).toNat)
  case atStart => exact ⟨0, [], by omega, rfl, J0⟩
  case round =>
    clear J0
    obtain ⟨k, L, hkn, rfl, HI⟩ := hrel
    have x3 := (HW0.out.keep HI.out.2.1).cell 3
    simp only [List.getElem?_toArray, List.getElem?_cons_succ, List.getElem?_cons_zero] at x3
    by_cases hlt : k < n
    · obtain ⟨p, hp⟩ : ∃ p, d.s[k]? = some p := ⟨_, List.getElem?_eq_getElem (by rw [HL.out]; exact hlt)⟩
      obtain ⟨ga, oa, rfl, y0, y1⟩ := HS.out.keep HI.out.2.1 k p hp
      have hLk : L.length = k := by rw [HI.out.2.2.1.length_eq, List.length_take, HL.out]; omega
      obtain ⟨v', w', hrun, hown, hgr⟩ := run_app_step (wr.alloc (.cells #[.string p.k, .int .i64 p.v] 37)) w1.heap.size u3 k (L.flatMap stC) (HI.out.1.alloc _) ⟨wr.heap.size, 0, none⟩ 1 1 (stC p) rfl (news_at wr _ (stC p) _ rfl) (by simp [stC, Value.oneCell']) (by omega) (by have := HI.out.2.1.size; simp; omega)
      obtain ⟨g, cap, rfl⟩ : ∃ g cap, v' = .slice (some ⟨g, 0, none⟩) (k + 1) cap := by
        rcases hown.2 with ⟨_, e⟩ | ⟨g, cap, _, e, _⟩
        · omega
        · exact ⟨g, cap, e⟩
      have HR := Lib.hid hrun
      have HPm : Hid ((L ++ [p]).Perm (d.s.take (k + 1))) := Lib.hid (by rw [List.take_add_one, hp]; exact HI.out.2.2.1.append_right _)
      have HWk := Lib.hid HI.out.2.2.2
      have J1 : Hid (w'.ownsRow w1.heap.size 37 2 (.slice (some ⟨g, 0, none⟩) (k + 1) cap) (k + 1) ((L ++ p :: []).flatMap stC) ∧ L ++ [] = L ∧ (∀ y ∈ ([] : List Sp), kLt p y = true) ∧ Below w1.heap.size w1 w') :=
        Lib.hid ⟨by rw [List.flatMap_append]; simpa [stC] using hown, List.append_nil _, (fun y hy => by cases hy), (HI.out.2.1.alloc HI.out.2.1.size _).grown hgr (by have := HI.out.2.1.size; simp; omega) (fun k e => ((HI.out.1).lt k e).1)⟩
      have hk0 : (0 : Int) ≤ (k : Int) := by omega
      have hkn' : (k : Int) < (n : Int) := by omega
      have hwk : IntKind.i64.wrap ((k : Int) + 1) = (k : Int) + 1 := IntWalk.i64_in _ (by omega)
      have HLk := Lib.hid hLk
      clear hrun hown hgr hp HI hLk
      go_upto_region 6 with (at_builtin; refine wpList_append_run rfl (.tmp 14) (.tmp 20) 22 22 rfl rfl rfl HR.out ?_)
      clear HR x3 y0 y1
      go_wp2_with fail
      go_loopw [5] (fun i wr => ∃ pre post : List Sp, i = .int .i64 (pre.length : Nat) ∧ Hid (wr.ownsRow w1.heap.size 37 2 (.slice (some ⟨g, 0, none⟩) (k + 1) cap) (k + 1) ((pre ++ p :: post).flatMap stC) ∧ pre ++ post = L ∧ (∀ y ∈ post, kLt p y = true) ∧ Below w1.heap.size w1 wr)) (fun i _ => (intOf i).toNat)
      case atStart => exact ⟨L, [], by rw [HLk.out], J1⟩
      case round =>
        clear J1
        obtain ⟨pre, post, rfl, HJ⟩ := hrel
        have HF : Hid ((pre = [] ∨ ∃ pre' y, pre = pre' ++ [y] ∧ kLt p y = false) → (pre ++ p :: post).Perm (d.s.take (k + 1)) ∧ WeakD (pre ++ p :: post)) := Lib.hid (fun hx => ⟨(List.perm_middle.trans (by rw [HJ.out.2.1]; exact (List.perm_append_singleton p L).symm)).trans HPm.out, weak_ins (by rw [HJ.out.2.1]; exact HWk.out) HJ.out.2.2.1 hx⟩)
        rcases List.eq_nil_or_concat pre with rfl | ⟨pre', y, rfl⟩
        · have HZ := Lib.hid (HF.out (Or.inl rfl))
          rw [show ((([] : List Sp).length : Nat) : Int) = 0 from rfl]
          clear HF
          go_upto_region 7 with fail
          go_quiet (fail)
          go_wp2_with fail
          go_roundw
          case rel => exact ⟨k + 1, [] ++ p :: post, by omega, by go_num, Lib.hid ⟨HJ.out.1, b_drewN HJ.out.2.2.2 _, HZ.out.1, HZ.out.2⟩⟩
          case measure => simp [intOf]; omega
        · rw [List.concat_eq_append] at *
          have hlen : (pre' ++ [y] ++ p :: post).length = k + 1 := by have := HJ.out.1.1; rw [stC_len] at this; omega
          have hjl : pre'.length + 1 < k + 2 := by rw [List.length_append, List.length_append] at hlen; simp at hlen; omega
          rw [show (((pre' ++ [y]).length : Nat) : Int) = (pre'.length : Int) + 1 by rw [List.length_append]; simp]
          have HSW := Lib.hid (swap_lists pre' post p y)
          obtain ⟨ay, ap⟩ := at_pre pre' post p y
          have HAT := Lib.hid (And.intro ay ap)
          have HCU : Hid (∀ W : World, W.ownsRow w1.heap.size 37 2 (.slice (some ⟨g, 0, none⟩) (k + 1) cap) (k + 1) ((pre' ++ [y] ++ p :: post).flatMap stC) → (W.cell? ⟨g, pre'.length * 2, none⟩ = some (.string y.k) ∧ W.cell? ⟨g, pre'.length * 2 + 1, none⟩ = some (.int .i64 y.v)) ∧ W.cell? ⟨g, (pre'.length + 1) * 2, none⟩ = some (.string p.k) ∧ W.cell? ⟨g, (pre'.length + 1) * 2 + 1, none⟩ = some (.int .i64 p.v)) := Lib.hid (fun W hW => by
            have hs := slD_own hW hlen
            obtain ⟨g1, o1, e1, c0, c1⟩ := hs _ _ HAT.out.1
            obtain ⟨g2, o2, e2, c2, c3⟩ := hs _ _ HAT.out.2
            cases e1; cases e2
            simp only [Nat.zero_add] at c0 c1 c2 c3
            exact ⟨⟨c0, c1⟩, c2, c3⟩)
          have HLN := Lib.hid hlen
          have HPL : Hid (pre'.length + 1 < k + 1) := Lib.hid (by rw [List.length_append, List.length_append] at hlen; simp at hlen; omega)
          have hj0 : (0 : Int) < (pre'.length : Int) + 1 := by omega
          have hj1 : (0 : Int) ≤ (pre'.length : Int) + 1 := by omega
          have hj2 : (pre'.length : Int) + 1 < (k : Int) + 1 := by have := HPL.out; omega
          have hj3 : (0 : Int) ≤ (pre'.length : Int) := by omega
          have hj4 : (pre'.length : Int) < (k : Int) + 1 := by omega
          have hj5 : IntKind.i64.wrap ((pre'.length : Int) + 1 - 1) = (pre'.length : Int) := by rw [show (pre'.length : Int) + 1 - 1 = (pre'.length : Int) by omega]; exact IntWalk.i64_in _ (by omega)
          have hj6 : ((pre'.length : Int) + 1).toNat = pre'.length + 1 := by omega
          generalize hj : pre'.length = j at *
          clear ay ap hlen hjl
          cases hc : kLt p y with
          | false =>
            have HZ := Lib.hid (HF.out (Or.inr ⟨pre', y, rfl, hc⟩))
            have hb : Op.bytesLess p.k.toList y.k.toList = false := hc
            obtain ⟨⟨q0, q1⟩, q2, q3⟩ := HCU.out wr HJ.out.1
            clear HF hc
            go_upto_region 7 with fail
            go_quiet (fail)
            go_wp2_with fail
            go_roundw
            case rel => exact ⟨k + 1, _, by omega, by go_num, Lib.hid ⟨HJ.out.1, b_drewN HJ.out.2.2.2 _, HZ.out.1, HZ.out.2⟩⟩
            case measure => simp [intOf]; omega
          | true =>
            have hb : Op.bytesLess p.k.toList y.k.toList = true := hc
            obtain ⟨⟨q0, q1⟩, q2, q3⟩ := HCU.out wr HJ.out.1
            have HC := Lib.hid hc
            clear HF hc
            go_upto_region 7 with fail
            go_quiet (fail)
            clear q0 q1 q2 q3 hb
            have HJ2 : Hid ((wr.drewN nq).ownsRow w1.heap.size 37 2 (.slice (some ⟨g, 0, none⟩) (k + 1) cap) (k + 1) ((pre' ++ [y] ++ p :: post).flatMap stC) ∧ Below w1.heap.size w1 (wr.drewN nq)) := Lib.hid ⟨HJ.out.1, b_drewN HJ.out.2.2.2 _⟩
            generalize wr.drewN nq = wq at HJ2 ⊢
            obtain ⟨⟨q0, q1⟩, q2, q3⟩ := HCU.out wq HJ2.out.1
            have O1 := HJ2.out.1.alloc (.cells #[.string p.k, .int .i64 p.v] 37)
            have NA := Whole.new wq 37 #[.string p.k, .int .i64 p.v]
            have B1 := HJ2.out.2.alloc HJ2.out.2.size (.cells #[.string p.k, .int .i64 p.v] 37)
            have hgq := HJ2.out.1.lt g rfl
            go_upto_region 10 with fail
            have hne : some wq.heap.size ≠ some g := fun e => by have := hgq.2; injection e with e; omega
            have NE := Lib.hid hne
            generalize hbx : wq.heap.size = bx at NA hne NE ⊢
            generalize wq.alloc (.cells #[.string p.k, .int .i64 p.v] 37) = wa at O1 NA B1 ⊢
            obtain ⟨⟨q0, q1⟩, q2, q3⟩ := HCU.out wa O1
            have f2 := O1.frozenAt ((j + 1) * 2)
            have f3 := O1.frozenAt ((j + 1) * 2 + 1)
            have O2 := own_put O1 HLN.out HPL.out y
            have g2 := put2_grown wa g ((j + 1) * 2) ((j + 1) * 2 + 1) (.string y.k) (.int .i64 y.v)
            have NB := NA.grown g2 NE.out
            have B2 := B1.grown g2 B1.size (fun k e => by cases e; exact hgq.1)
            clear hne hbx
            go_upto_region 11 with fail
            generalize (wa.setCell ⟨g, (j + 1) * 2, none⟩ (.string y.k)).setCell ⟨g, (j + 1) * 2 + 1, none⟩ (.int .i64 y.v) = wb at O2 NB B2 ⊢
            have p0 := NB.cell 0
            have p1 := NB.cell 1
            simp only [List.getElem?_toArray, List.getElem?_cons_succ, List.getElem?_cons_zero] at p0 p1
            obtain ⟨g1, o1, e1, c0, c1⟩ := slD_own O2 (by rw [List.length_set]; exact HLN.out) j y (by rw [List.getElem?_set_ne (by omega)]; exact HAT.out.1)
            cases e1
            simp only [Nat.zero_add] at c0 c1
            have f0 := O2.frozenAt (j * 2)
            have f1 := O2.frozenAt (j * 2 + 1)
            have O3 := own_put O2 (by rw [List.length_set]; exact HLN.out) (k := j) (by have := HPL.out; omega) p
            have g3 := put2_grown wb g (j * 2) (j * 2 + 1) (.string p.k) (.int .i64 p.v)
            have B3 := B2.grown g3 B2.size (fun k e => by cases e; exact hgq.1)
            rw [HSW.out] at O3
            have HZ := Lib.hid (And.intro O3 B3)
            clear q0 q1 q2 q3 f2 f3 O1 NA B1 O2 g2 NB B2 O3 g3 B3
            go_wp2_with fail
            go_roundw
            case rel => exact ⟨pre', y :: post, by rw [hj], Lib.hid ⟨HZ.out.1, by have := HJ.out.2.1; rw [List.append_assoc] at this; exact this, fun z hz => by
              rcases List.mem_cons.1 hz with rfl | hz
              · exact HC.out
              · exact HJ.out.2.2.1 z hz, HZ.out.2⟩⟩
            case measure => simp [intOf]
    · obtain rfl : k = n := by omega
      obtain ⟨A', c', rfl, _⟩ := own_slice2 HI.out.1
      have HE : Hid (SlD wr A' (srtD d.s) ∧ Below w1.heap.size w1 wr) := Lib.hid ⟨by
        have hp := HI.out.2.2.1
        rw [List.take_of_length_le (by rw [HL.out]; exact Nat.le_refl _)] at hp
        rw [← srtD_eq HK.out hp HI.out.2.2.2]
        exact slD_own HI.out.1 (by rw [hp.length_eq, HL.out]), HI.out.2.1⟩
      clear HI
      go_wp2_with fail
      go_ret
      exact ⟨⟨A', c', rfl, HE.out.1⟩, HB.out.trans (HE.out.2.mono HB.out.size)⟩
end
section
open Go.RowKit Go.Shelf

set_option maxRecDepth 100000 in
set_option maxHeartbeats 2000000 in
theorem rkeys_any (d : Dv) (A : Option Addr) (n c : Nat) (w : World) (h : DefAt w A n c d) :
    Calls Tryz.prog 14 #[dV d A n c] w fun e w' => LstR w w' 9 strV d e ∧ Below w.heap.size w w' := by
  have b1 := (Below.refl w.heap.size w).alloc (Nat.le_refl _) (.cells #[.string d.n, .int .i64 d.r, .int .i64 d.dl, .slice A n c] 24)
  have CK := Lib.hid (refDefCheck_any d A n c _ (h.keep b1))
  have HW0 := Lib.hid (Whole.new w 24 #[.string d.n, .int .i64 d.r, .int .i64 d.dl, .slice A n c])
  have HB := Lib.hid b1
  have H := Lib.hid h
  unfold dV at CK ⊢
  clear h b1
  by_cases hok : defOk d
  case neg =>
    rw [ckD_no hok] at CK
    have HN := Lib.hid hok
    clear hok
    go_enter Tryz.func14, Tryz.ntmps14
    go_wp2_with (go_at_call 26; refine CK.out.mono ?_; rintro e w1 ⟨rfl, hb⟩)
    go_ret2
    exact ⟨Or.inr ⟨HN.out, rfl⟩, HB.out.trans (hb.mono HB.out.size)⟩
  rw [ckD_yes hok] at CK
  have HOK := Lib.hid hok
  have hn8 : n ≤ 8 := by rw [← H.out.len]; exact hok.2.2.2.2.2.2.1
  have hkd : KeysD d.s := hok.2.2.2.2.2.2.2.keys
  have SO := Lib.hid (fun (W : World) (hW : DefAt W A n c d) => refSorted_any d A n c W hW (by omega) hkd)
  unfold dV at SO
  have HL := Lib.hid H.out.len
  clear hok hkd
  go_enter Tryz.func14, Tryz.ntmps14
  go_upto_region 4 with (go_at_call 26; refine CK.out.mono ?_; rintro e w0 ⟨rfl, hb⟩)
  have B0 := Lib.hid (HB.out.trans (hb.mono HB.out.size))
  have S0 := Lib.hid (SO.out w0 (H.out.keep B0.out))
  have x0 := (HW0.out.keep hb).cell 0
  have x1 := (HW0.out.keep hb).cell 1
  have x2 := (HW0.out.keep hb).cell 2
  have x3 := (HW0.out.keep hb).cell 3
  simp only [List.getElem?_toArray, List.getElem?_cons_succ, List.getElem?_cons_zero] at x0 x1 x2 x3
  clear CK hb HB SO
  go_upto_region 5 with (go_at_call 33; refine S0.out.mono ?_; rintro e w1 ⟨⟨A1, c1, rfl, hs⟩, hb1⟩)
  have BW := Lib.hid (B0.out.trans (hb1.mono B0.out.size))
  have HS := Lib.hid hs
  have HM : Hid ((srtD d.s).length = n) := Lib.hid (by rw [srtD_len, HL.out])
  have J0 : Hid (w1.ownsRow w1.heap.size 9 1 (.slice none 0 0) 0 (((srtD d.s).take 0).map strV) ∧ Below w1.heap.size w1 w1) := Lib.hid ⟨⟨rfl, Or.inl ⟨rfl, by simp⟩⟩, Below.refl _ _⟩
  clear hs hb1 S0 x0 x1 x2 x3
  go_wp2_with fail
  go_loopw [4, 6] (fun v i wr => ∃ k : Nat, k ≤ n ∧ i = .int .i64 k ∧ Hid (wr.ownsRow w1.heap.size 9 1 v k (((srtD d.s).take k).map strV) ∧ Below w1.heap.size w1 wr)) (fun _ i _ => n - (intOf i).toNat)
  case atStart => exact ⟨0, by omega, rfl, J0⟩
  case round =>
    clear J0
    obtain ⟨k, hk, rfl, HI⟩ := hrel
    by_cases hkn : k < n
    · obtain ⟨p, hp⟩ : ∃ p, (srtD d.s)[k]? = some p := ⟨_, List.getElem?_eq_getElem (by rw [HM.out]; exact hkn)⟩
      obtain ⟨g, o, rfl, y0, y1⟩ := HS.out.keep HI.out.2 k p hp
      have HP := Lib.hid (take_next strV hp)
      have hk0 : (0 : Int) ≤ (k : Int) := by omega
      have hkn' : (k : Int) < (n : Int) := by omega
      have hwk : IntKind.i64.wrap ((k : Int) + 1) = (k : Int) + 1 := IntWalk.i64_in _ (by omega)
      obtain ⟨v', w', hrun, hown, hgr⟩ := app_keys w1.heap.size k _ _ p wr HI.out.1 HI.out.2.size (by omega)
      have HR := Lib.hid hrun
      have HF : Hid (w'.ownsRow w1.heap.size 9 1 v' (k + 1) (((srtD d.s).take (k + 1)).map strV) ∧ Below w1.heap.size w1 w') := Lib.hid ⟨by rw [← HP.out]; exact hown, (HI.out.2.alloc HI.out.2.size _).grown hgr (by have := HI.out.2.size; simp; omega) (fun k e => (HI.out.1.lt k e).1)⟩
      clear hrun hown hgr hp HI
      go_wp2_with (at_builtin; refine wpList_append_run rfl (.tmp 18) (.tmp 24) 27 27 rfl rfl rfl HR.out ?_)
      go_roundw
      case rel => exact ⟨k + 1, by omega, by go_num, HF⟩
      case measure => simp [intOf]; omega
    · obtain rfl : k = n := by omega
      have HE : Hid (wr.ownsRow w1.heap.size 9 1 u4 k ((srtD d.s).map strV) ∧ Below w1.heap.size w1 wr) := Lib.hid ⟨by have := HI.out.1; rw [List.take_of_length_le (by rw [HM.out]; exact Nat.le_refl _)] at this; exact this, HI.out.2⟩
      clear HI
      go_wp2_with fail
      go_ret2
      exact ⟨Or.inl ⟨HOK.out, _, rfl, by rw [HL.out]; exact HE.out.1.mono BW.out.size⟩, BW.out.trans (HE.out.2.mono BW.out.size)⟩
set_option maxRecDepth 100000 in
set_option maxHeartbeats 2000000 in
theorem rnet_any (d : Dv) (A : Option Addr) (n c : Nat) (w : World) (h : DefAt w A n c d) :
    Calls Tryz.prog 16 #[dV d A n c] w fun e w' => LstR w w' 2 dlV d e ∧ Below w.heap.size w w' := by
  have b1 := (Below.refl w.heap.size w).alloc (Nat.le_refl _) (.cells #[.string d.n, .int .i64 d.r, .int .i64 d.dl, .slice A n c] 24)
  have CK := Lib.hid (refDefCheck_any d A n c _ (h.keep b1))
  have HW0 := Lib.hid (Whole.new w 24 #[.string d.n, .int .i64 d.r, .int .i64 d.dl, .slice A n c])
  have HB := Lib.hid b1
  have H := Lib.hid h
  unfold dV at CK ⊢
  clear h b1
  by_cases hok : defOk d
  case neg =>
    rw [ckD_no hok] at CK
    have HN := Lib.hid hok
    clear hok
    go_enter Tryz.func16, Tryz.ntmps16
    go_wp2_with (go_at_call 26; refine CK.out.mono ?_; rintro e w1 ⟨rfl, hb⟩)
    go_ret2
    exact ⟨Or.inr ⟨HN.out, rfl⟩, HB.out.trans (hb.mono HB.out.size)⟩
  rw [ckD_yes hok] at CK
  have HOK := Lib.hid hok
  have hn8 : n ≤ 8 := by rw [← H.out.len]; exact hok.2.2.2.2.2.2.1
  have hkd : KeysD d.s := hok.2.2.2.2.2.2.2.keys
  have SO := Lib.hid (fun (W : World) (hW : DefAt W A n c d) => refSorted_any d A n c W hW (by omega) hkd)
  unfold dV at SO
  have HL := Lib.hid H.out.len
  clear hok hkd
  go_enter Tryz.func16, Tryz.ntmps16
  go_upto_region 4 with (go_at_call 26; refine CK.out.mono ?_; rintro e w0 ⟨rfl, hb⟩)
  have B0 := Lib.hid (HB.out.trans (hb.mono HB.out.size))
  have S0 := Lib.hid (SO.out w0 (H.out.keep B0.out))
  have x0 := (HW0.out.keep hb).cell 0
  have x1 := (HW0.out.keep hb).cell 1
  have x2 := (HW0.out.keep hb).cell 2
  have x3 := (HW0.out.keep hb).cell 3
  simp only [List.getElem?_toArray, List.getElem?_cons_succ, List.getElem?_cons_zero] at x0 x1 x2 x3
  clear CK hb HB SO
  go_upto_region 5 with (go_at_call 33; refine S0.out.mono ?_; rintro e w1 ⟨⟨A1, c1, rfl, hs⟩, hb1⟩)
  have BW := Lib.hid (B0.out.trans (hb1.mono B0.out.size))
  have HS := Lib.hid hs
  have HM : Hid ((srtD d.s).length = n) := Lib.hid (by rw [srtD_len, HL.out])
  have J0 : Hid (w1.ownsRow w1.heap.size 2 1 (.slice none 0 0) 0 (((srtD d.s).take 0).map dlV) ∧ Below w1.heap.size w1 w1) := Lib.hid ⟨⟨rfl, Or.inl ⟨rfl, by simp⟩⟩, Below.refl _ _⟩
  clear hs hb1 S0 x0 x1 x2 x3
  go_wp2_with fail
  go_loopw [4, 6] (fun v i wr => ∃ k : Nat, k ≤ n ∧ i = .int .i64 k ∧ Hid (wr.ownsRow w1.heap.size 2 1 v k (((srtD d.s).take k).map dlV) ∧ Below w1.heap.size w1 wr)) (fun _ i _ => n - (intOf i).toNat)
  case atStart => exact ⟨0, by omega, rfl, J0⟩
  case round =>
    clear J0
    obtain ⟨k, hk, rfl, HI⟩ := hrel
    by_cases hkn : k < n
    · obtain ⟨p, hp⟩ : ∃ p, (srtD d.s)[k]? = some p := ⟨_, List.getElem?_eq_getElem (by rw [HM.out]; exact hkn)⟩
      obtain ⟨g, o, rfl, y0, y1⟩ := HS.out.keep HI.out.2 k p hp
      have HP := Lib.hid (take_next dlV hp)
      have hk0 : (0 : Int) ≤ (k : Int) := by omega
      have hkn' : (k : Int) < (n : Int) := by omega
      have hwk : IntKind.i64.wrap ((k : Int) + 1) = (k : Int) + 1 := IntWalk.i64_in _ (by omega)
      obtain ⟨v', w', hrun, hown, hgr⟩ := app_net w1.heap.size k _ _ p wr HI.out.1 HI.out.2.size (by omega)
      have HR := Lib.hid hrun
      have HF : Hid (w'.ownsRow w1.heap.size 2 1 v' (k + 1) (((srtD d.s).take (k + 1)).map dlV) ∧ Below w1.heap.size w1 w') := Lib.hid ⟨by rw [← HP.out]; exact hown, (HI.out.2.alloc HI.out.2.size _).grown hgr (by have := HI.out.2.size; simp; omega) (fun k e => (HI.out.1.lt k e).1)⟩
      clear hrun hown hgr hp HI
      go_wp2_with (at_builtin; refine wpList_append_run rfl (.tmp 18) (.tmp 24) 31 31 rfl rfl rfl HR.out ?_)
      go_roundw
      case rel => exact ⟨k + 1, by omega, by go_num, HF⟩
      case measure => simp [intOf]; omega
    · obtain rfl : k = n := by omega
      have HE : Hid (wr.ownsRow w1.heap.size 2 1 u4 k ((srtD d.s).map dlV) ∧ Below w1.heap.size w1 wr) := Lib.hid ⟨by have := HI.out.1; rw [List.take_of_length_le (by rw [HM.out]; exact Nat.le_refl _)] at this; exact this, HI.out.2⟩
      clear HI
      go_wp2_with fail
      go_ret2
      exact ⟨Or.inl ⟨HOK.out, _, rfl, by rw [HL.out]; exact HE.out.1.mono BW.out.size⟩, BW.out.trans (HE.out.2.mono BW.out.size)⟩
end
section
open Go.RowKit Go.Shelf

theorem def_cells {W : World} {b : Nat} {t : TypeId} {x y z u : Value} (h : Whole W b t #[x, y, z, u]) : W.cell? ⟨b, 0, none⟩ = some x ∧ W.cell? ⟨b, 1, none⟩ = some y ∧ W.cell? ⟨b, 2, none⟩ = some z ∧ W.cell? ⟨b, 3, none⟩ = some u :=
  ⟨h.cell 0, h.cell 1, h.cell 2, h.cell 3⟩
set_option maxRecDepth 100000 in
set_option maxHeartbeats 4000000 in
theorem refEqual_any (a b : Dv) (A A' : Option Addr) (n n' c c' : Nat) (w : World) (h : DefAt w A n c a) (h' : DefAt w A' n' c' b) :
    Calls Tryz.prog 18 #[dV a A n c, dV b A' n' c'] w fun e w' => (∃ q : Bool, e = .returned (.bool q) ∧ (q = true ↔ a = b)) ∧ Below w.heap.size w w' := by
  have mixed : Tryz.prog.follows Departure.mixedOrders = true := by kernel_rfl
  have W1 := Lib.hid ((Whole.new w 24 #[.string a.n, .int .i64 a.r, .int .i64 a.dl, .slice A n c]).alloc (.cells #[.string b.n, .int .i64 b.r, .int .i64 b.dl, .slice A' n' c'] 24))
  have W2 := Lib.hid (Whole.new (w.alloc (.cells #[.string a.n, .int .i64 a.r, .int .i64 a.dl, .slice A n c] 24)) 24 #[.string b.n, .int .i64 b.r, .int .i64 b.dl, .slice A' n' c'])
  have HB := Lib.hid (((Below.refl w.heap.size w).alloc (Nat.le_refl _) (.cells #[.string a.n, .int .i64 a.r, .int .i64 a.dl, .slice A n c] 24)).alloc (by simp) (.cells #[.string b.n, .int .i64 b.r, .int .i64 b.dl, .slice A' n' c'] 24))
  have HD := Lib.hid (dv_eq (a := a) (b := b))
  have HL := Lib.hid (And.intro h.len h'.len)
  have hbig := h.big
  have HS := Lib.hid (And.intro (h.keep HB.out).s (h'.keep HB.out).s)
  clear h h'
  unfold dV
  cases h1 : (a.n.toList == b.n.toList) with
  | false =>
    have HE : Hid (a ≠ b) := Lib.hid (fun e => key_ne.1 h1 (HD.out.1 e).1)
    have g1 : (a.n.toList = b.n.toList) = False := by rw [beq_eq_false_iff_ne] at h1; simp [h1]
    go_enter Tryz.func18, Tryz.ntmps18
    go_wp2_with fail
    go_ret
    exact ⟨⟨false, rfl, by simp [HE.out]⟩, HB.out⟩
  | true =>
    have g1 : (a.n.toList = b.n.toList) = True := by rw [beq_iff_eq] at h1; simp [h1]
    cases h2 : (a.r == b.r) with
    | false =>
      have HE : Hid (a ≠ b) := Lib.hid (fun e => beq_eq_false_iff_ne.1 h2 (HD.out.1 e).2.1)
      have g2 : (a.r = b.r) = False := by rw [beq_eq_false_iff_ne] at h2; simp [h2]
      have g3 : (a.r != b.r) = true := by simp [bne, h2]
      go_enter Tryz.func18, Tryz.ntmps18
      go_wp2_with fail
      go_ret
      exact ⟨⟨false, rfl, by simp [HE.out]⟩, HB.out⟩
    | true =>
      have g2 : (a.r = b.r) = True := by rw [beq_iff_eq] at h2; simp [h2]
      have g3 : (a.r != b.r) = false := by simp [bne, h2]
      cases h3 : (a.dl == b.dl) with
      | false =>
        have HE : Hid (a ≠ b) := Lib.hid (fun e => beq_eq_false_iff_ne.1 h3 (HD.out.1 e).2.2.1)
        have g4 : (a.dl = b.dl) = False := by rw [beq_eq_false_iff_ne] at h3; simp [h3]
        have g5 : (a.dl != b.dl) = true := by simp [bne, h3]
        go_enter Tryz.func18, Tryz.ntmps18
        go_wp2_with fail
        go_ret
        exact ⟨⟨false, rfl, by simp [HE.out]⟩, HB.out⟩
      | true =>
        have g4 : (a.dl = b.dl) = True := by rw [beq_iff_eq] at h3; simp [h3]
        have g5 : (a.dl != b.dl) = false := by simp [bne, h3]
        have HE : Hid (a = b ↔ a.s = b.s) := Lib.hid (HD.out.trans ⟨fun h => h.2.2.2, fun h => ⟨key_eq.1 h1, beq_iff_eq.1 h2, beq_iff_eq.1 h3, h⟩⟩)
        by_cases hnn : n = n'
        · subst hnn
          have g6 : ((n : Int) != (n : Int)) = false := by simp
          go_enter Tryz.func18, Tryz.ntmps18
          go_upto_region 3 with fail
          clear g1 g2 g3 g4 g5 g6 h1 h2 h3
          generalize hw2 : (w.alloc (.cells #[.string a.n, .int .i64 a.r, .int .i64 a.dl, .slice A n c] 24)).alloc (.cells #[.string b.n, .int .i64 b.r, .int .i64 b.dl, .slice A' n c'] 24) = w2 at W1 W2 HB HS ⊢
          have hsz : w2.heap.size = w.heap.size + 2 := by rw [← hw2]; simp
          simp only [World.size_alloc] at W2
          clear hw2
          go_wp2_with fail
          go_loopw [5] (fun i wr => ∃ k : Nat, k ≤ n ∧ i = .int .i64 k ∧ Hid (Below w2.heap.size w2 wr ∧ SameK a.s b.s k)) (fun i _ => n - (intOf i).toNat)
          case atStart => exact ⟨0, by omega, rfl, Lib.hid ⟨Below.refl _ _, fun i p q h => absurd h (by omega)⟩⟩
          case round =>
            obtain ⟨k, hk, rfl, HI⟩ := hrel
            have BW := Lib.hid (HB.out.trans (HI.out.1.mono (by omega)))
            obtain ⟨x0, x1, x2, x3⟩ := def_cells (W1.out.keep HI.out.1)
            obtain ⟨v0, v1, v2, v3⟩ := def_cells (W2.out.keep HI.out.1)
            clear x0 x1 x2 v0 v1 v2
            by_cases hkn : k < n
            · obtain ⟨p, hp⟩ : ∃ p, a.s[k]? = some p := ⟨_, List.getElem?_eq_getElem (by rw [HL.out.1]; exact hkn)⟩
              obtain ⟨q, hq⟩ : ∃ q, b.s[k]? = some q := ⟨_, List.getElem?_eq_getElem (by rw [HL.out.2]; exact hkn)⟩
              obtain ⟨g, o, rfl, y0, y1⟩ := HS.out.1.keep HI.out.1 k p hp
              obtain ⟨g', o', rfl, z0, z1⟩ := HS.out.2.keep HI.out.1 k q hq
              have hne := fun W => stp_ne p q W
              have HP := Lib.hid (And.intro hp hq)
              have hk0 : (0 : Int) ≤ (k : Int) := by omega
              have hkn' : (k : Int) < (n : Int) := by omega
              have hwk : IntKind.i64.wrap ((k : Int) + 1) = (k : Int) + 1 := IntWalk.i64_in _ (by omega)
              clear hp hq
              cases he : eqS p q with
              | true =>
                rw [he] at hne
                have HK := Lib.hid (same_step HI.out.2 HP.out.1 HP.out.2 (eqS_iff.1 he))
                clear he
                go_upto_region 6 with fail
                go_quiet (fail)
                go_wp2_with fail
                go_roundw
                case rel => exact ⟨k + 1, by omega, by go_num, Lib.hid ⟨b_drewN HI.out.1 _, HK.out⟩⟩
                case measure => simp [intOf]; omega
              | false =>
                rw [he] at hne
                have HK : Hid (a.s ≠ b.s) := Lib.hid (fun e => by
                  rw [← e] at HP
                  have h1 := HP.out.1.symm.trans HP.out.2
                  cases h1
                  rw [eqS_iff.2 rfl] at he; cases he)
                clear he
                go_upto_region 6 with fail
                go_quiet (fail)
                go_wp2_with fail
                go_ret
                exact ⟨⟨false, rfl, by rw [HE.out]; simp [HK.out]⟩, b_drewN BW.out _⟩
            · obtain rfl : k = n := by omega
              have HA : Hid (a.s = b.s) := Lib.hid (same_all (HL.out.1.trans HL.out.2.symm) (by rw [HL.out.1]; exact HI.out.2))
              go_wp2_with fail
              go_ret
              exact ⟨⟨true, rfl, by rw [HE.out]; simp [HA.out]⟩, BW.out⟩
        · have g6 : ((n : Int) != (n' : Int)) = true := by rw [bne_iff_ne]; omega
          have g7 : ((n : Int) == (n' : Int)) = false := by rw [beq_eq_false_iff_ne]; omega
          have HN : Hid (a.s ≠ b.s) := Lib.hid (fun e => hnn (by rw [← HL.out.1, ← HL.out.2, e]))
          clear hnn
          go_enter Tryz.func18, Tryz.ntmps18
          go_wp2_with fail
          go_ret
          exact ⟨⟨false, rfl, by rw [HE.out]; simp [HN.out]⟩, HB.out⟩
end
section
open Go.RowKit Go.Shelf

/-- A digit cut out of the ten. -/
theorem ten_cut {m : Nat} (h : m < 10) : (⟨#[48, 49, 50, 51, 52, 53, 54, 55, 56, 57]⟩ : ByteArray).extract m (m + 1) = ⟨(Lib.decDigits m).toArray⟩ := by
  match m, h with
  | 0, _ | 1, _ | 2, _ | 3, _ | 4, _ | 5, _ | 6, _ | 7, _ | 8, _ | 9, _ => decide +kernel
  | m + 10, h => omega
set_option maxRecDepth 100000 in
set_option maxHeartbeats 2000000 in
theorem rdig_any : ∀ (m : Nat) (w : World), m ≤ 9223372036854775807 →
    Calls Tryz.prog 49 #[.int .i64 (m : Int)] w fun e w' => e = .returned (.string ⟨(Lib.decDigits m).toArray⟩) ∧ w = w' := by
  intro m
  induction m using Nat.strongRecOn with
  | ind m ih =>
    intro w hm
    by_cases h : m < 10
    · have hT := Lib.hid (ten_cut h)
      have hw : IntKind.i64.wrap ((m : Int) + 1) = (m : Int) + 1 := IntWalk.i64_in _ (by omega)
      have h0 : (0 : Int) ≤ (m : Int) := by omega
      have h1 : (m : Int) < 10 := by omega
      have h2 : (m : Int) ≤ (m : Int) + 1 := by omega
      have h3 : (m : Int) + 1 ≤ 10 := by omega
      have h4 : ((m : Int) + 1).toNat = m + 1 := by omega
      clear ih
      go_enter Tryz.func49, Tryz.ntmps49
      go_wp2
      go_ret
      exact ⟨by rw [← hT.out]; rfl, rfl⟩
    · have D1 := Lib.hid (ih (m / 10) (by omega) w (by omega))
      have D2 := Lib.hid (ih (m % 10) (by omega) w (by omega))
      have hq : ((m : Int)).tdiv 10 = ((m / 10 : Nat) : Int) := by rw [Int.tdiv_eq_ediv_of_nonneg (by omega)]; omega
      have hr : ((m : Int)).tmod 10 = ((m % 10 : Nat) : Int) := by rw [Int.tmod_eq_emod_of_nonneg (by omega)]; omega
      have h1 : ¬ ((m : Int) < 10) := by omega
      obtain ⟨t, et, _, st⟩ := add_ba ⟨(Lib.decDigits (m / 10)).toArray⟩ ⟨(Lib.decDigits (m % 10)).toArray⟩ (by
        have a := nDig_le 18 (m / 10) (by omega)
        have b := nDig_le 18 (m % 10) (by omega)
        rw [Lib.size_mk, Lib.size_mk, Lib.decDigits_length, Lib.decDigits_length]; omega)
      have HT : Hid (t = ⟨(Lib.decDigits m).toArray⟩) := Lib.hid (by
        rw [← ba_eta t, et.out, Lib.decDigits_one (show m % 10 < 10 by omega)]
        conv => rhs; rw [Lib.decDigits, dif_neg h])
      clear ih et
      go_enter Tryz.func49, Tryz.ntmps49
      go_wp2_with (first
        | (go_at_call 49; go_fit D1.out; rintro e w1 ⟨rfl, rfl⟩)
        | (go_at_call 49; go_fit D2.out; rintro e w2 ⟨rfl, rfl⟩))
      go_ret
      exact ⟨by rw [← HT.out]; rfl, rfl⟩
theorem joinW_snoc : ∀ (ws : List (List UInt8)) (x : List UInt8), ws ≠ [] → joinW (ws ++ [x]) = joinW ws ++ 32 :: x
  | [], _, h => absurd rfl h
  | [a], x, _ => by simp [joinW]
  | a :: b :: l, x, _ => by
    have ih := joinW_snoc (b :: l) x (by simp)
    simp only [List.cons_append] at ih ⊢
    rw [joinW, ih, joinW]
    simp
/-- The first words of a definition's text. -/
def pfxD (d : Dv) (k : Nat) : List UInt8 := joinW ((wdsB d k).map (·.data.toList))
theorem pfxD_zero (d : Dv) : pfxD d 0 = d.n.data.toList ++ 32 :: (dgs d.r ++ 32 :: dgs d.dl) := by simp [pfxD, wdsB, joinW]
theorem pfxD_next {d : Dv} {k : Nat} {p : Sp} (h : d.s[k]? = some p) : pfxD d (k + 1) = pfxD d k ++ 32 :: (p.k.data.toList ++ sgn p.v) := by
  unfold pfxD
  rw [← wdsB_next h, List.map_append, List.map_cons, List.map_nil, joinW_snoc _ _ (by simp [wdsB])]
  rfl
theorem pfxD_all (d : Dv) : pfxD d d.s.length = textD d := by
  unfold pfxD
  rw [wdsB_all]; rfl
theorem pfxD_le {d : Dv} (h : defOk d) {k : Nat} (hk : k ≤ d.s.length) : (pfxD d k).length ≤ 451 := by
  have h1 := joinW_le (m := 40) ((wdsB d k).map (·.data.toList)) (fun w hw => by
    unfold wdsB at hw
    simp only [List.map_cons, List.map_map, List.mem_cons, List.mem_map] at hw
    rcases hw with rfl | rfl | rfl | ⟨p, hp, rfl⟩
    · have := (isName_len h.1).2.1; omega
    · have := dgs_le (a := d.r) (by have := h.2.2.1; omega); simpa using (by omega : (dgs d.r).length ≤ 40)
    · have := dgs_le (a := d.dl) (by have := h.2.2.2.2.1; omega); simpa using (by omega : (dgs d.dl).length ≤ 40)
    · simpa using spW_le (h.2.2.2.2.2.2.2.all (List.mem_of_mem_take hp)))
  have h2 := wdsB_len hk
  have h3 := h.2.2.2.2.2.2.1
  rw [List.length_map, h2] at h1
  unfold pfxD
  omega
theorem rdgs_any (a : Int) (W : World) (h0 : 0 ≤ a) (h1 : a ≤ 9223372036854775807) : Calls Tryz.prog 49 #[.int .i64 a] W fun e w' => e = .returned (.string ⟨(dgs a).toArray⟩) ∧ w' = W := by
  have h := rdig_any a.toNat W (by omega)
  rw [show ((a.toNat : Nat) : Int) = a by omega] at h
  exact h.mono (fun e w' ⟨he, hw⟩ => ⟨he, hw.symm⟩)
theorem sz_dgs (a : Int) : (⟨(dgs a).toArray⟩ : ByteArray).size = (dgs a).length := Lib.size_mk _
set_option maxRecDepth 100000 in
set_option maxHeartbeats 8000000 in
theorem refDefText_any (d : Dv) (A : Option Addr) (n c : Nat) (w : World) (h : DefAt w A n c d) :
    Calls Tryz.prog 24 #[dV d A n c] w fun e w' => TxtR d e ∧ Below w.heap.size w w' := by
  have mixed : Tryz.prog.follows Departure.mixedOrders = true := by kernel_rfl
  have b1 := (Below.refl w.heap.size w).alloc (Nat.le_refl _) (.cells #[.string d.n, .int .i64 d.r, .int .i64 d.dl, .slice A n c] 24)
  have CK := Lib.hid (refDefCheck_any d A n c _ (h.keep b1))
  have HW0 := Lib.hid (Whole.new w 24 #[.string d.n, .int .i64 d.r, .int .i64 d.dl, .slice A n c])
  have HB := Lib.hid b1
  have H := Lib.hid h
  unfold dV at CK ⊢
  clear h b1
  by_cases hok : defOk d
  case neg =>
    rw [ckD_no hok] at CK
    have HN := Lib.hid hok
    clear hok
    go_enter Tryz.func24, Tryz.ntmps24
    go_wp2_with (go_at_call 26; refine CK.out.mono ?_; rintro e w1 ⟨rfl, hb⟩)
    go_ret2
    exact ⟨Or.inr ⟨HN.out, rfl⟩, HB.out.trans (hb.mono HB.out.size)⟩
  rw [ckD_yes hok] at CK
  have HOK := Lib.hid hok
  have HL := Lib.hid H.out.len
  have PL := Lib.hid (fun k (hk : k ≤ n) => pfxD_le hok (k := k) (by rw [HL.out]; exact hk))
  have hnl : d.n.size ≤ 16 := by have := (isName_len hok.1).2.1; rw [Lib.size_eq]; omega
  obtain ⟨_, r0, r1, t0, t1, n1, n8, _⟩ := id hok
  rw [HL.out] at n1 n8
  have l1 := dgs_le (a := d.r) (by omega)
  have l2 := dgs_le (a := d.dl) (by omega)
  have z0 : (⟨#[32]⟩ : ByteArray).size = 1 := rfl
  have z1 := sz_dgs d.r
  have z2 := sz_dgs d.dl
  obtain ⟨a1, e1, m1, s1⟩ := add_ba d.n ⟨#[32]⟩ (by omega)
  obtain ⟨a2, e2, m2, s2⟩ := add_ba a1 ⟨(dgs d.r).toArray⟩ (by omega)
  obtain ⟨a3, e3, m3, s3⟩ := add_ba a2 ⟨#[32]⟩ (by omega)
  obtain ⟨a4, e4, m4, s4⟩ := add_ba a3 ⟨(dgs d.dl).toArray⟩ (by omega)
  have E4 : Hid (a4.data.toList = pfxD d 0) := Lib.hid (by rw [e4.out, e3.out, e2.out, e1.out, pfxD_zero]; simp)
  have HD := Lib.hid (fun a W h0 h1 => rdgs_any a W h0 h1)
  clear hok z0 z1 z2 m1 m2 m3 m4 e1 e2 e3 e4 l1 l2
  go_enter Tryz.func24, Tryz.ntmps24
  go_upto_region 3 with (go_at_call 26; refine CK.out.mono ?_; rintro e w1 ⟨rfl, hb⟩)
  have BW := Lib.hid (HB.out.trans (hb.mono HB.out.size))
  have HW1 := Lib.hid (HW0.out.keep hb)
  have x0 := HW1.out.cell 0
  have x1 := HW1.out.cell 1
  have x2 := HW1.out.cell 2
  simp only [List.getElem?_toArray, List.getElem?_cons_succ, List.getElem?_cons_zero] at x0 x1 x2
  clear CK hb HW0 HB
  go_quiet (exact Calls.quiet_of_same (HD.out _ _ (by omega) (by omega)))
  clear s1 s2 s3 s4 x0 x1 x2
  have J0 : Hid (a4.data.toList = pfxD d 0 ∧ Below w1.heap.size w1 (w1.drewN nq)) := Lib.hid ⟨E4.out, b_drewN (Below.refl _ _) _⟩
  have hlt := HW1.out.lt
  go_wp2_with fail
  go_loopw [4, 5] (fun v i wr => ∃ (k : Nat) (out : ByteArray), k ≤ n ∧ i = .int .i64 k ∧ v = .string out ∧ Hid (out.data.toList = pfxD d k ∧ Below w1.heap.size w1 wr)) (fun _ i _ => n - (intOf i).toNat)
  case atStart => exact ⟨0, a4, by omega, rfl, rfl, J0⟩
  case round =>
    clear J0 E4
    obtain ⟨k, out, hk, rfl, rfl, HI⟩ := hrel
    have BR := Lib.hid (BW.out.trans (HI.out.2.mono (by have := hlt; omega)))
    have x3 := (HW1.out.keep HI.out.2).cell 3
    simp only [List.getElem?_toArray, List.getElem?_cons_succ, List.getElem?_cons_zero] at x3
    by_cases hkn : k < n
    · obtain ⟨p, hp⟩ : ∃ p, d.s[k]? = some p := ⟨_, List.getElem?_eq_getElem (by rw [HL.out]; exact hkn)⟩
      obtain ⟨g, o, rfl, y0, y1⟩ := H.out.s.keep BR.out k p hp
      have hst := HOK.out.2.2.2.2.2.2.2.all (List.mem_of_getElem? hp)
      obtain ⟨hq1, hq2, hq3, hq4⟩ := stOk_parts hst
      have hkl : p.k.size ≤ 16 := by have := (isName_len hq1).2.1; rw [Lib.size_eq]; omega
      have hol : out.size ≤ 451 := by rw [Lib.size_eq, HI.out.1]; exact PL.out k hk
      have HN := Lib.hid (pfxD_next hp)
      have hk0 : (0 : Int) ≤ (k : Int) := by omega
      have hkn' : (k : Int) < (n : Int) := by omega
      have hwk : IntKind.i64.wrap ((k : Int) + 1) = (k : Int) + 1 := IntWalk.i64_in _ (by omega)
      have HPV := Lib.hid (show -1152921504606846976 ≤ p.v ∧ p.v ≤ 1152921504606846976 ∧ p.v ≠ 0 from ⟨hq3, hq4, hq2⟩)
      have NA := Whole.new wr 37 #[.string p.k, .int .i64 p.v]
      have BA := Lib.hid (HI.out.2.trans (((Below.refl _ wr).alloc (Nat.le_refl _) (.cells #[.string p.k, .int .i64 p.v] 37)).mono HI.out.2.size))
      have p0 := NA.cell 0
      have p1 := NA.cell 1
      simp only [List.getElem?_toArray, List.getElem?_cons_succ, List.getElem?_cons_zero] at p0 p1
      clear hp hst hq1 hq2 hq3 hq4 NA
      by_cases hv : 0 < p.v
      · have l3 := dgs_le (a := p.v) (by have := HPV.out; omega)
        have z0 : (⟨#[32]⟩ : ByteArray).size = 1 := rfl
        have z1 : (⟨#[43]⟩ : ByteArray).size = 1 := rfl
        have z2 := sz_dgs (p.v)
        obtain ⟨t1, e1, m1, s1⟩ := add_ba out ⟨#[32]⟩ (by omega)
        obtain ⟨t2, e2, m2, s2⟩ := add_ba t1 p.k (by omega)
        obtain ⟨t3, e3, m3, s3⟩ := add_ba t2 ⟨#[43]⟩ (by omega)
        obtain ⟨t4, e4, m4, s4⟩ := add_ba t3 ⟨(dgs (p.v)).toArray⟩ (by omega)
        have ET : Hid (t4.data.toList = pfxD d (k + 1)) := Lib.hid (by
          rw [HN.out, e4.out, e3.out, e2.out, e1.out, HI.out.1]
          unfold sgn; simp [hv])
        have hwn : IntKind.i64.wrap (-p.v) = -p.v := IntWalk.i64_in _ (by have := HPV.out; omega)
        have hv0 : 0 ≤ p.v := by have := HPV.out; omega
        have hv1 : p.v ≤ 9223372036854775807 := by have := HPV.out; omega
        clear z0 z1 z2 m1 m2 m3 m4 e1 e2 e3 e4 l3 hol hkl
        go_upto_region 9 with fail
        go_quiet (exact Calls.quiet_of_same (HD.out _ _ hv0 hv1))
        clear s1 s2 s3 s4 p0 p1 y0 y1 hv0 hv1
        go_wp2_with fail
        go_roundw
        case rel => exact ⟨k + 1, t4, by omega, by go_num, rfl, Lib.hid ⟨ET.out, b_drewN BA.out _⟩⟩
        case measure => simp [intOf]; omega
      · have l3 := dgs_le (a := -p.v) (by have := HPV.out; omega)
        have z0 : (⟨#[32]⟩ : ByteArray).size = 1 := rfl
        have z1 : (⟨#[45]⟩ : ByteArray).size = 1 := rfl
        have z2 := sz_dgs (-p.v)
        obtain ⟨t1, e1, m1, s1⟩ := add_ba out ⟨#[32]⟩ (by omega)
        obtain ⟨t2, e2, m2, s2⟩ := add_ba t1 p.k (by omega)
        obtain ⟨t3, e3, m3, s3⟩ := add_ba t2 ⟨#[45]⟩ (by omega)
        obtain ⟨t4, e4, m4, s4⟩ := add_ba t3 ⟨(dgs (-p.v)).toArray⟩ (by omega)
        have ET : Hid (t4.data.toList = pfxD d (k + 1)) := Lib.hid (by
          rw [HN.out, e4.out, e3.out, e2.out, e1.out, HI.out.1]
          unfold sgn; simp [hv])
        have hwn : IntKind.i64.wrap (-p.v) = -p.v := IntWalk.i64_in _ (by have := HPV.out; omega)
        have hv0 : 0 ≤ -p.v := by have := HPV.out; omega
        have hv1 : -p.v ≤ 9223372036854775807 := by have := HPV.out; omega
        clear z0 z1 z2 m1 m2 m3 m4 e1 e2 e3 e4 l3 hol hkl
        go_upto_region 10 with fail
        go_quiet (exact Calls.quiet_of_same (HD.out _ _ hv0 hv1))
        clear s1 s2 s3 s4 p0 p1 y0 y1 hv0 hv1
        go_wp2_with fail
        go_roundw
        case rel => exact ⟨k + 1, t4, by omega, by go_num, rfl, Lib.hid ⟨ET.out, b_drewN BA.out _⟩⟩
        case measure => simp [intOf]; omega
    · obtain rfl : k = n := by omega
      have HE := Lib.hid (show out = ⟨(textD d).toArray⟩ by
        rw [← pfxD_all d, HL.out, ← HI.out.1, ba_eta])
      clear HI
      go_wp2_with fail
      go_ret2
      exact ⟨Or.inl ⟨HOK.out, by rw [HE.out]; rfl⟩, BR.out⟩
end
section
open Go.RowKit Go.Shelf Go.Sort

set_option maxRecDepth 100000 in
set_option maxHeartbeats 400000 in
theorem refCopy_any (d : Dv) (A : Option Addr) (n c : Nat) (w : World) (hl : d.s.length = n) (hn : n ≤ 1000000000000) (hs : SlD w A d.s) :
    Calls Tryz.prog 19 #[dV d A n c] w fun e w' => CpyR w w' d n e ∧ Below w.heap.size w w' := by
  obtain ⟨w2, hw2⟩ : ∃ w2, w2 = resW w d A n c := ⟨_, rfl⟩
  have b1 := (Below.refl w.heap.size w).alloc (Nat.le_refl _) (.cells #[.string d.n, .int .i64 d.r, .int .i64 d.dl, .slice A n c] 24)
  have b2 : Below w.heap.size w w2 := by rw [hw2]; exact b1.alloc b1.size (.cells #[.string ⟨#[]⟩, .int .i64 0, .int .i64 0, .slice none 0 0] 24)
  have hz2 : w2.heap.size = w.heap.size + 2 := by rw [hw2]; simp [resW, boxW]
  have b3 := (Below.refl w2.heap.size w2).alloc (Nat.le_refl _) (.cells #[] 37)
  have WB2 : Whole w2 w.heap.size 24 #[.string d.n, .int .i64 d.r, .int .i64 d.dl, .slice A n c] := by rw [hw2]; exact (Whole.new w 24 #[.string d.n, .int .i64 d.r, .int .i64 d.dl, .slice A n c]).alloc _
  have hm : (w2.alloc (.cells #[] 37)).ownsRow w2.heap.size 37 2 (.slice (some ⟨w2.heap.size, 0, none⟩) 0 0) 0 [] := World.ownsRow_made _ _ _ (Nat.le_refl _) (Nat.zero_le _) rfl
  obtain ⟨v', w4, hrun, hown, hgrow⟩ := run_app_srcD _ A n c d.s ((hs.keep b2).keep b3) hl hn hm (by omega) (by simp)
  rw [Nat.zero_add, List.nil_append] at hown
  obtain ⟨A4, c4, rfl, hc4⟩ := own_slice2 hown
  have HR := Lib.hid hrun
  have b4 := b3.grown hgrow b3.size (fun k e => by simp [Value.ownBlock] at e; omega)
  obtain ⟨k1, k2, k3, k4, k5⟩ := cpy_pack hw2 b4 hown
  have x3 := acell (.cells #[] 37) (whole4 WB2).1.2.2.2
  have f3 := (whole4 k1).2.2.2.2
  obtain ⟨⟨y0, y1, y2, y3⟩, fy0, fy1, fy2, fy3⟩ := whole4 k1
  obtain ⟨u0, u1, u2, u3⟩ := (whole4 k2).1
  obtain ⟨⟨r0, r1, r2, r3⟩, fr0, fr1, fr2, fr3⟩ := whole4 k3
  have hRlt := k3.lt
  have HF := Lib.hid (And.intro hc4 (And.intro k4 k5))
  clear hrun hown hgrow hm b1 b2 b3 b4 hs hc4 hl k1 k2 k3 k4 k5 WB2 hz2
  unfold dV
  go_enter Tryz.func19, Tryz.ntmps19
  go_upto_region 1 with fail
  generalize hwx : (w.alloc (.cells #[.string d.n, .int .i64 d.r, .int .i64 d.dl, .slice A n c] 24)).alloc (.cells #[.string ⟨#[]⟩, .int .i64 0, .int .i64 0, .slice none 0 0] 24) = wx
  obtain rfl : wx = w2 := by rw [← hwx, hw2]
  clear hw2 hwx
  go_wp2_with (at_builtin; refine wpList_append_run rfl (.tmp 3) (.tmp 5) 22 22 rfl rfl rfl HR.out ?_)
  refine bodyPost_ret (v := .agg #[.string d.n, .int .i64 d.r, .int .i64 d.dl, .slice A4 n c4]) ?_ rfl ?_
  · simp [results, Tryz.results19, go_sem, r0, r1, r2, r3]
  · exact ⟨⟨A4, c4, rfl, HF.out.1, HF.out.2.1⟩, HF.out.2.2⟩
end
section
open Go.RowKit Go.Shelf

open Classical in
noncomputable def encL (d : Dv) : List UInt8 := if defOk d then bytesD d else []
open Classical in
noncomputable def txtL (d : Dv) : List UInt8 := if defOk d then textD d else []
open Classical in
noncomputable def kyL (d : Dv) : List Sp := if defOk d then srtD d.s else []
theorem encL_yes {d : Dv} (h : defOk d) : encL d = bytesD d := if_pos h
theorem encL_no {d : Dv} (h : ¬ defOk d) : encL d = [] := if_neg h
theorem txtL_yes {d : Dv} (h : defOk d) : txtL d = textD d := if_pos h
theorem txtL_no {d : Dv} (h : ¬ defOk d) : txtL d = [] := if_neg h
theorem kyL_yes {d : Dv} (h : defOk d) : kyL d = srtD d.s := if_pos h
theorem kyL_no {d : Dv} (h : ¬ defOk d) : kyL d = [] := if_neg h
theorem slB_nil (w : World) : SlB w none 0 [] := ⟨rfl, fun i c h => by simp at h⟩
theorem EncR.val {w w' : World} {d : Dv} {e : Ending} (h : EncR w w' d e) : ∃ A n c, e = .returned (.tuple #[.slice A n c, .int .i64 (ckD d)]) ∧ SlB w' A n (encL d) ∧ n ≤ c := by
  rcases h with ⟨h0, v, rfl, h1⟩ | ⟨h0, rfl⟩
  · obtain ⟨A, c, rfl, hc⟩ := own_slice2 h1
    exact ⟨A, _, c, by rw [ckD_yes h0], by rw [encL_yes h0]; exact SlB.of_own h1, hc⟩
  · exact ⟨none, 0, 0, by rw [ckD_no h0], by rw [encL_no h0]; exact slB_nil _, Nat.le_refl _⟩
theorem TxtR.val {d : Dv} {e : Ending} (h : TxtR d e) : e = .returned (.tuple #[.string ⟨(txtL d).toArray⟩, .int .i64 (ckD d)]) := by
  rcases h with ⟨h0, rfl⟩ | ⟨h0, rfl⟩
  · rw [ckD_yes h0, txtL_yes h0]
  · rw [ckD_no h0, txtL_no h0]
/-- A slice holds a value for each step of a list. -/
def SlF (w : World) (f : Sp → Value) (A : Option Addr) (s : List Sp) : Prop := ∀ (i : Nat) p, s[i]? = some p → ∃ g, A = some ⟨g, 0, none⟩ ∧ w.cell? ⟨g, i, none⟩ = some (f p)
theorem SlF.keep {w w' : World} {f : Sp → Value} {A : Option Addr} {s : List Sp} (h : SlF w f A s) (hb : Below w.heap.size w w') : SlF w' f A s := fun i p hi => by
  obtain ⟨g, e, hc⟩ := h i p hi
  exact ⟨g, e, bcell hc hb⟩
theorem LstR.val {w w' : World} {T : TypeId} {f : Sp → Value} {d : Dv} {e : Ending} (h : LstR w w' T f d e) : ∃ A n c, e = .returned (.tuple #[.slice A n c, .int .i64 (ckD d)]) ∧ (kyL d).length = n ∧ SlF w' f A (kyL d) := by
  rcases h with ⟨h0, v, rfl, h1⟩ | ⟨h0, rfl⟩
  · obtain ⟨A, c, rfl, hc⟩ := own_slice2 h1
    refine ⟨A, _, c, by rw [ckD_yes h0], by rw [kyL_yes h0, srtD_len], fun i p hi => ?_⟩
    rw [kyL_yes h0] at hi
    have hlt : i < d.s.length := by rw [← srtD_len]; exact (List.getElem?_eq_some_iff.1 hi).1
    rcases h1.2 with ⟨_, e⟩ | ⟨g, cap, cur, e, _⟩
    · omega
    · cases e
      have := h1.cellAt i (by omega)
      rw [List.getElem?_map, hi] at this
      exact ⟨g, rfl, this⟩
  · exact ⟨none, 0, 0, by rw [ckD_no h0], by rw [kyL_no h0]; rfl, fun i p hi => by rw [kyL_no h0] at hi; simp at hi⟩
theorem DefAt.of_copy {w w' : World} {d : Dv} {n : Nat} {A : Option Addr} {c : Nat} (h1 : n ≤ c) (h2 : w'.ownsRow w.heap.size 37 2 (.slice A n c) n (d.s.flatMap stC)) (hl : d.s.length = n) (hb : n ≤ 1000000000000) (hz : DefZ d) : DefAt w' A n c d :=
  ⟨hl, h1, hb, hz, slD_own h2 hl⟩
end
end Go.Proofs.YtgeljnjcpkmlmaaGreatDoor
