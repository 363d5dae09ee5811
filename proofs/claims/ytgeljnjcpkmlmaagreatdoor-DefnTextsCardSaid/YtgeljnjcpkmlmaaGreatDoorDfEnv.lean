/- What the chapter's functions ask of the program's own variables, kept through calls; appends of texts, steps and numbers; sums of texts. No condition. -/
import Derived.Test.YtgeljnjcpkmlmaaGreatDoorDfREnc
import Derived.Test.YtgeljnjcpkmlmaaGreatDoorPlA
import Derived.Test.YtgeljnjcpkmlmaaGreatDoorShelf
import Derived.Lib.SmallJoins
import Derived.Handy
import Derived.WalkSmall
namespace Go.Proofs.YtgeljnjcpkmlmaaGreatDoor
open Go.RowKit Go.Shelf Go.Sort

theorem shaped_below {P : Program} {w w' : World} (h : w.ShapedOpen P) (hb : Below w.heap.size w w') : w'.ShapedOpen P := h.keptBut (hb.frame (fun _ => False)) (fun _ h => h.elim)
theorem gPow : Tryz.prog.globalNamed "internal/strconv.uint64pow10" = some 0 := by kernel_rfl
theorem gSyn : Tryz.prog.globalNamed "strconv.ErrSyntax" = some 1 := by kernel_rfl
theorem gRng : Tryz.prog.globalNamed "strconv.ErrRange" = some 2 := by kernel_rfl
/-- The program's own variables as they must lie. -/
structure DfE (w : World) : Prop where
  tab : Lib.TabIs Tryz.prog w "internal/strconv.uint64pow10" .u64 Lib.pow10Tab
  tlt : 0 < w.heap.size
  syn : ∃ tp p, w.var? Tryz.prog "strconv.ErrSyntax" = some #[.iface tp p]
  slt : 1 < w.heap.size
  rng : ∃ tp p, w.var? Tryz.prog "strconv.ErrRange" = some #[.iface tp p]
  rlt : 2 < w.heap.size
  sh : w.ShapedOpen Tryz.prog
theorem DfE.keep {w w' : World} (h : DfE w) (hb : Below w.heap.size w w') : DfE w' :=
  ⟨var?_below hb gPow h.tlt h.tab, Nat.lt_of_lt_of_le h.tlt hb.size,
   let ⟨tp, p, e⟩ := h.syn; ⟨tp, p, var?_below hb gSyn h.slt e⟩, Nat.lt_of_lt_of_le h.slt hb.size,
   let ⟨tp, p, e⟩ := h.rng; ⟨tp, p, var?_below hb gRng h.rlt e⟩, Nat.lt_of_lt_of_le h.rlt hb.size,
   shaped_below h.sh hb⟩
theorem below_grow (w : World) (k : Nat) (os : Array Obj) : Below w.heap.size w (grow (w.drewN k) os) :=
  ⟨rfl, rfl, rfl, by simp [grow], fun i hi => by simp [grow, Array.getElem?_append_left hi]⟩
theorem itoa_any (n : Int) (h0 : 0 ≤ n) (h1 : n ≤ 9223372036854775807) (w : World) (hp : DfE w) :
    Calls Tryz.prog 46 #[.int .i64 n] w fun e w' => e = .returned (.string ⟨(dgs n).toArray⟩) ∧ Below w.heap.size w w' := by
  refine (Tryz.strconv_Itoa n (by omega) h1 w hp.tab).mono ?_
  rintro e w' ⟨rfl, k, os, rfl⟩
  refine ⟨?_, below_grow w k os⟩
  have : Lib.itoa n = dgs n := by unfold Lib.itoa dgs; rw [if_neg (by omega)]
  rw [this]
/-- The part of a number's text behind the sign that the program writes itself. -/
def fmtV (v : Int) : List UInt8 := if 0 < v then dgs v else sgn v
theorem fmt_any (n : Int) (h0 : -9223372036854775808 ≤ n) (h1 : n ≤ 9223372036854775807) (hz : n ≠ 0) (w : World) (hp : DfE w) :
    Calls Tryz.prog 47 #[.int .i64 n, .int .i64 10] w fun e w' => e = .returned (.string ⟨(fmtV n).toArray⟩) ∧ Below w.heap.size w w' := by
  refine (Tryz.strconv_FormatInt_10 n h0 h1 w hp.tab).mono ?_
  rintro e w' ⟨rfl, k, os, rfl⟩
  refine ⟨?_, below_grow w k os⟩
  have : Lib.itoa n = fmtV n := by
    unfold Lib.itoa fmtV sgn dgs
    by_cases h : 0 < n
    · rw [if_neg (by omega), if_pos h]
    · rw [if_pos (by omega), if_neg h, if_neg h, show n.natAbs = (-n).toNat by omega]
  rw [this]
/-- The sum of two texts under a name of its own. -/
theorem add_ba (a b : ByteArray) (h : a.size + b.size ≤ 9223372036854775807) :
    ∃ t : ByteArray, Hid (t.data.toList = a.data.toList ++ b.data.toList) ∧ t.size = a.size + b.size ∧ ∀ W : World, (Op.stringOp .add a b).run Tryz.prog W = .ok (.string t) W := by
  refine ⟨⟨(a.data.toList ++ b.data.toList).toArray⟩, rfl, by rw [Lib.size_mk, List.length_append, ← Lib.size_eq, ← Lib.size_eq], fun W => ?_⟩
  exact run_string_add_sum (P := Tryz.prog) (w := W) a b h
theorem infoS : (Tryz.prog.info? 9).map (fun i => (i.zero, i.size, i.bytes)) = some (some (.string ⟨#[]⟩), 1, 16) := by kernel_rfl
theorem infoI : (Tryz.prog.info? 2).map (fun i => (i.zero, i.size, i.bytes)) = some (some (.int .i64 0), 1, 8) := by kernel_rfl
theorem infoP : (Tryz.prog.info? 37).map (fun i => (i.zero, i.size, i.bytes)) = some (some (.agg #[.string ⟨#[]⟩, .int .i64 0]), 2, 24) := by kernel_rfl
theorem run_app_text (w : World) (base : Nat) (v : Value) (n : Nat) (xs : List Value) (hown : w.ownsRow base 9 1 v n xs) (a : Addr) (m c : Nat) (news : List Value) (hm : news.length = m * 1) (hc : ∀ j u, news[j]? = some u → w.cell? (a.add j) = some u) (h1 : ∀ u ∈ news, u.oneCell' = true) (hn : n + m ≤ 1099511627776) (hbase : base ≤ w.heap.size) :
    ∃ v' w', (Builtin.append_ #[27, 27] 27 #[v, .slice (some a) m c]).run Tryz.prog w = .ok v' w' ∧ w'.ownsRow base 9 1 v' (n + m) (xs ++ news) ∧ w.grownBy w' v.ownBlock := by
  obtain ⟨i, hi, hz0, hz1, hz2⟩ := info_parts infoS
  obtain ⟨v', w', hrun, h4, h5, _, _⟩ := run_append_own_at (P := Tryz.prog) w base 27 27 9 i _ 1 16 Tryz.underlying27 hi hz0 hz1 hz2 rfl (by decide) v n xs hown a m c news hm hc h1 (by unfold maxLen; omega) (by omega) hbase
  exact ⟨v', w', hrun, h4, h5⟩
theorem run_app_num (w : World) (base : Nat) (v : Value) (n : Nat) (xs : List Value) (hown : w.ownsRow base 2 1 v n xs) (a : Addr) (m c : Nat) (news : List Value) (hm : news.length = m * 1) (hc : ∀ j u, news[j]? = some u → w.cell? (a.add j) = some u) (h1 : ∀ u ∈ news, u.oneCell' = true) (hn : n + m ≤ 1099511627776) (hbase : base ≤ w.heap.size) :
    ∃ v' w', (Builtin.append_ #[31, 31] 31 #[v, .slice (some a) m c]).run Tryz.prog w = .ok v' w' ∧ w'.ownsRow base 2 1 v' (n + m) (xs ++ news) ∧ w.grownBy w' v.ownBlock := by
  obtain ⟨i, hi, hz0, hz1, hz2⟩ := info_parts infoI
  obtain ⟨v', w', hrun, h4, h5, _, _⟩ := run_append_own_at (P := Tryz.prog) w base 31 31 2 i _ 1 8 Tryz.underlying31 hi hz0 hz1 hz2 rfl (by decide) v n xs hown a m c news hm hc h1 (by unfold maxLen; omega) (by omega) hbase
  exact ⟨v', w', hrun, h4, h5⟩
theorem run_app_step (w : World) (base : Nat) (v : Value) (n : Nat) (xs : List Value) (hown : w.ownsRow base 37 2 v n xs) (a : Addr) (m c : Nat) (news : List Value) (hm : news.length = m * 2) (hc : ∀ j u, news[j]? = some u → w.cell? (a.add j) = some u) (h1 : ∀ u ∈ news, u.oneCell' = true) (hn : n + m ≤ 1099511627776) (hbase : base ≤ w.heap.size) :
    ∃ v' w', (Builtin.append_ #[22, 22] 22 #[v, .slice (some a) m c]).run Tryz.prog w = .ok v' w' ∧ w'.ownsRow base 37 2 v' (n + m) (xs ++ news) ∧ w.grownBy w' v.ownBlock := by
  obtain ⟨i, hi, hz0, hz1, hz2⟩ := info_parts infoP
  obtain ⟨v', w', hrun, h4, h5, _, _⟩ := run_append_own_at (P := Tryz.prog) w base 22 22 37 i _ 2 24 Tryz.underlying22 hi hz0 hz1 hz2 rfl (by decide) v n xs hown a m c news hm hc h1 (by unfold maxLen; omega) (by omega) hbase
  exact ⟨v', w', hrun, h4, h5⟩
theorem joinW_eq : ∀ ws : List (List UInt8), joinW ws = Lib.join ws [32]
  | [] => rfl
  | [a] => by rw [joinW, Lib.join_one]
  | a :: b :: l => by
    rw [joinW, joinW_eq (b :: l), Lib.join_cons, Lib.join_cons]
    simp [Lib.joinTail]
end Go.Proofs.YtgeljnjcpkmlmaaGreatDoor
