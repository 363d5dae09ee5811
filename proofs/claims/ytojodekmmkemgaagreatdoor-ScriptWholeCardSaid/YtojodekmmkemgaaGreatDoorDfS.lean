/- Merged by program: DfEnv, DfTxt, DfRTxt, DfEq, DfREq. -/
import Derived.Test.YtojodekmmkemgaaGreatDoorGnS
import Derived.Test.YtojodekmmkemgaaGreatDoorPlS
import Derived.Test.YtojodekmmkemgaaGreatDoorShelf
import Derived.Lib.SmallJoins
import Derived.Handy
import Derived.WalkSmall
import Derived.Deep.RegionHeld3
import Derived.Deep.AppendLies
import Derived.Test.YtojodekmmkemgaaGreatDoorBaS
import Derived.Deep.DeepFit
import Derived.BigQuiet
import Derived.Laws.StructEq
namespace Go.Proofs.YtojodekmmkemgaaGreatDoor
section
open Go.RowKit Go.Shelf Go.Sort

theorem shaped_below {P : Program} {w w' : World} (h : w.ShapedOpen P) (hb : Below w.heap.size w w') : w'.ShapedOpen P := h.keptBut (hb.frame (fun _ => False)) (fun _ h => h.elim)
theorem gPow : Tryz.prog.globalNamed "internal/strconv.uint64pow10" = some 3 := by kernel_rfl
theorem gSyn : Tryz.prog.globalNamed "strconv.ErrSyntax" = some 4 := by kernel_rfl
theorem gRng : Tryz.prog.globalNamed "strconv.ErrRange" = some 5 := by kernel_rfl
/-- The program's own variables as they must lie. -/
structure DfE (w : World) : Prop where
  tab : Lib.TabIs Tryz.prog w "internal/strconv.uint64pow10" .u64 Lib.pow10Tab
  tlt : 3 < w.heap.size
  syn : ∃ tp p, w.var? Tryz.prog "strconv.ErrSyntax" = some #[.iface tp p]
  slt : 4 < w.heap.size
  rng : ∃ tp p, w.var? Tryz.prog "strconv.ErrRange" = some #[.iface tp p]
  rlt : 5 < w.heap.size
  sh : w.ShapedOpen Tryz.prog
theorem DfE.keep {w w' : World} (h : DfE w) (hb : Below w.heap.size w w') : DfE w' :=
  ⟨var?_below hb gPow h.tlt h.tab, Nat.lt_of_lt_of_le h.tlt hb.size,
   let ⟨tp, p, e⟩ := h.syn; ⟨tp, p, var?_below hb gSyn h.slt e⟩, Nat.lt_of_lt_of_le h.slt hb.size,
   let ⟨tp, p, e⟩ := h.rng; ⟨tp, p, var?_below hb gRng h.rlt e⟩, Nat.lt_of_lt_of_le h.rlt hb.size,
   shaped_below h.sh hb⟩
theorem below_grow (w : World) (k : Nat) (os : Array Obj) : Below w.heap.size w (grow (w.drewN k) os) :=
  ⟨rfl, rfl, rfl, by simp [grow], fun i hi => by simp [grow, Array.getElem?_append_left hi]⟩
theorem itoa_any (n : Int) (h0 : 0 ≤ n) (h1 : n ≤ 9223372036854775807) (w : World) (hp : DfE w) :
    Calls Tryz.prog 55 #[.int .i64 n] w fun e w' => e = .returned (.string ⟨(dgs n).toArray⟩) ∧ Below w.heap.size w w' := by
  refine (Tryz.strconv_Itoa n (by omega) h1 w hp.tab).mono ?_
  rintro e w' ⟨rfl, k, os, rfl⟩
  refine ⟨?_, below_grow w k os⟩
  have : Lib.itoa n = dgs n := by unfold Lib.itoa dgs; rw [if_neg (by omega)]
  rw [this]
/-- The part of a number's text behind the sign that the program writes itself. -/
def fmtV (v : Int) : List UInt8 := if 0 < v then dgs v else sgn v
theorem fmt_any (n : Int) (h0 : -9223372036854775808 ≤ n) (h1 : n ≤ 9223372036854775807) (hz : n ≠ 0) (w : World) (hp : DfE w) :
    Calls Tryz.prog 88 #[.int .i64 n, .int .i64 10] w fun e w' => e = .returned (.string ⟨(fmtV n).toArray⟩) ∧ Below w.heap.size w w' := by
  refine (Tryz.strconv_FormatInt_10 n h0 h1 w hp.tab).mono ?_
  rintro e w' ⟨rfl, k, os, rfl⟩
  refine ⟨?_, below_grow w k os⟩
  have : Lib.itoa n = fmtV n := by
    unfold Lib.itoa fmtV sgn dgs
    by_cases h : 0 < n
    · rw [if_neg (by omega), if_pos h]
    · rw [if_pos (by omega), if_neg h, if_neg h, show n.natAbs = (-n).toNat by omega]
  rw [this]
/-- The sum of two texts under a name of its own. -/
theorem add_ba (a b : ByteArray) (h : a.size + b.size ≤ 9223372036854775807) :
    ∃ t : ByteArray, Hid (t.data.toList = a.data.toList ++ b.data.toList) ∧ t.size = a.size + b.size ∧ ∀ W : World, (Op.stringOp .add a b).run Tryz.prog W = .ok (.string t) W := by
  refine ⟨⟨(a.data.toList ++ b.data.toList).toArray⟩, rfl, by rw [Lib.size_mk, List.length_append, ← Lib.size_eq, ← Lib.size_eq], fun W => ?_⟩
  exact run_string_add_sum (P := Tryz.prog) (w := W) a b h
theorem infoS : (Tryz.prog.info? 9).map (fun i => (i.zero, i.size, i.bytes)) = some (some (.string ⟨#[]⟩), 1, 16) := by kernel_rfl
theorem infoI : (Tryz.prog.info? 2).map (fun i => (i.zero, i.size, i.bytes)) = some (some (.int .i64 0), 1, 8) := by kernel_rfl
theorem infoP : (Tryz.prog.info? 71).map (fun i => (i.zero, i.size, i.bytes)) = some (some (.agg #[.string ⟨#[]⟩, .int .i64 0]), 2, 24) := by kernel_rfl
theorem run_app_text (w : World) (base : Nat) (v : Value) (n : Nat) (xs : List Value) (hown : w.ownsRow base 9 1 v n xs) (a : Addr) (m c : Nat) (news : List Value) (hm : news.length = m * 1) (hc : ∀ j u, news[j]? = some u → w.cell? (a.add j) = some u) (h1 : ∀ u ∈ news, u.oneCell' = true) (hn : n + m ≤ 1099511627776) (hbase : base ≤ w.heap.size) :
    ∃ v' w', (Builtin.append_ #[43, 43] 43 #[v, .slice (some a) m c]).run Tryz.prog w = .ok v' w' ∧ w'.ownsRow base 9 1 v' (n + m) (xs ++ news) ∧ w.grownBy w' v.ownBlock := by
  obtain ⟨i, hi, hz0, hz1, hz2⟩ := info_parts infoS
  obtain ⟨v', w', hrun, h4, h5, _, _⟩ := run_append_own_at (P := Tryz.prog) w base 43 43 9 i _ 1 16 Tryz.underlying43 hi hz0 hz1 hz2 rfl (by decide) v n xs hown a m c news hm hc h1 (by unfold maxLen; omega) (by omega) hbase
  exact ⟨v', w', hrun, h4, h5⟩
theorem run_app_step (w : World) (base : Nat) (v : Value) (n : Nat) (xs : List Value) (hown : w.ownsRow base 71 2 v n xs) (a : Addr) (m c : Nat) (news : List Value) (hm : news.length = m * 2) (hc : ∀ j u, news[j]? = some u → w.cell? (a.add j) = some u) (h1 : ∀ u ∈ news, u.oneCell' = true) (hn : n + m ≤ 1099511627776) (hbase : base ≤ w.heap.size) :
    ∃ v' w', (Builtin.append_ #[30, 30] 30 #[v, .slice (some a) m c]).run Tryz.prog w = .ok v' w' ∧ w'.ownsRow base 71 2 v' (n + m) (xs ++ news) ∧ w.grownBy w' v.ownBlock := by
  obtain ⟨i, hi, hz0, hz1, hz2⟩ := info_parts infoP
  obtain ⟨v', w', hrun, h4, h5, _, _⟩ := run_append_own_at (P := Tryz.prog) w base 30 30 71 i _ 2 24 Tryz.underlying30 hi hz0 hz1 hz2 rfl (by decide) v n xs hown a m c news hm hc h1 (by unfold maxLen; omega) (by omega) hbase
  exact ⟨v', w', hrun, h4, h5⟩
theorem joinW_eq : ∀ ws : List (List UInt8), joinW ws = Lib.join ws [32]
  | [] => rfl
  | [a] => by rw [joinW, Lib.join_one]
  | a :: b :: l => by
    rw [joinW, joinW_eq (b :: l), Lib.join_cons, Lib.join_cons]
    simp [Lib.joinTail]
end
section
open Go.RowKit Go.Shelf

/-- What Text answers. -/
def TxtR (d : Dv) (e : Ending) : Prop :=
  (defOk d ∧ e = .returned (.tuple #[.string ⟨(textD d).toArray⟩, .int .i64 0])) ∨ (¬ defOk d ∧ e = .returned (.tuple #[.string ⟨#[]⟩, .int .i64 15]))
theorem nDig_le : ∀ (k u : Nat), u < 10 ^ (k + 1) → Lib.nDigits u ≤ k + 1
  | 0, u, h => by rw [Lib.nDigits_small (by simpa using h)]; omega
  | k + 1, u, h => by
    by_cases h0 : u < 10
    · rw [Lib.nDigits_small h0]; omega
    · rw [Nat.pow_succ] at h
      have := nDig_le k (u / 10) (by omega)
      rw [Lib.nDigits_big h0]; omega
theorem dgs_le {a : Int} (h : a ≤ 9223372036854775808) : (dgs a).length ≤ 19 := by
  unfold dgs
  rw [Lib.decDigits_length]
  exact nDig_le 18 _ (by omega)
theorem sgn_le {v : Int} (h1 : -9223372036854775808 ≤ v) (h2 : v ≤ 9223372036854775807) : (sgn v).length ≤ 20 := by
  have a := dgs_le (a := v) (by omega)
  have b := dgs_le (a := -v) (by omega)
  unfold sgn; split <;> simp <;> omega
theorem fmt_le {v : Int} (h1 : -9223372036854775808 ≤ v) (h2 : v ≤ 9223372036854775807) : (fmtV v).length ≤ 20 := by
  have a := dgs_le (a := v) (by omega)
  have b := sgn_le h1 h2
  unfold fmtV; split <;> omega
theorem spW_le {p : Sp} (h : stOk p = true) : (spW p).length ≤ 40 := by
  obtain ⟨h1, _, h3, h4⟩ := stOk_parts h
  have a := (isName_len h1).2.1
  have b := sgn_le (v := p.v) (by omega) (by omega)
  unfold spW; rw [List.length_append]; omega
theorem joinW_le {m : Nat} : ∀ (ws : List (List UInt8)), (∀ w ∈ ws, w.length ≤ m) → (joinW ws).length ≤ ws.length * (m + 1)
  | [], _ => by simp [joinW]
  | [a], h => by have := h a (by simp); simp [joinW]; omega
  | a :: b :: l, h => by
    have h1 := h a (by simp)
    have h2 := joinW_le (b :: l) (fun w hw => h w (by simp only [List.mem_cons] at hw ⊢; exact Or.inr hw))
    simp only [joinW, List.length_append, List.length_cons, Nat.add_mul] at h2 ⊢
    omega
theorem textD_le {d : Dv} (h : defOk d) : (textD d).length ≤ 451 := by
  have h1 := joinW_le (m := 40) (wordsD d) (fun w hw => by
    unfold wordsD at hw
    simp only [List.mem_cons, List.mem_map] at hw
    rcases hw with rfl | rfl | rfl | ⟨p, hp, rfl⟩
    · have := (isName_len h.1).2.1; omega
    · have := dgs_le (a := d.r) (by have := h.2.2.1; omega); omega
    · have := dgs_le (a := d.dl) (by have := h.2.2.2.2.1; omega); omega
    · exact spW_le (h.2.2.2.2.2.2.2.all hp))
  have h2 := wordsD_len d
  have h3 := h.2.2.2.2.2.2.1
  unfold textD
  rw [h2] at h1
  omega
/-- The words of a definition with its first steps, as texts. -/
def wdsB (d : Dv) (k : Nat) : List ByteArray := d.n :: ⟨(dgs d.r).toArray⟩ :: ⟨(dgs d.dl).toArray⟩ :: (d.s.take k).map (fun p => ⟨(spW p).toArray⟩)
theorem wdsB_next {d : Dv} {k : Nat} {p : Sp} (h : d.s[k]? = some p) : wdsB d k ++ [⟨(spW p).toArray⟩] = wdsB d (k + 1) := by
  unfold wdsB
  rw [List.take_add_one, h]
  simp
theorem wdsB_len {d : Dv} {k : Nat} (h : k ≤ d.s.length) : (wdsB d k).length = k + 3 := by
  unfold wdsB; simp; omega
theorem wdsB_all (d : Dv) : (wdsB d d.s.length).map (·.data.toList) = wordsD d := by
  unfold wdsB wordsD
  rw [List.take_length]
  simp [Function.comp_def]
def sV (s : ByteArray) : Value := .string s
theorem app_word (base : Nat) (v : Value) (xs : List ByteArray) (t : ByteArray) (W : World) (hown : W.ownsRow base 9 1 v xs.length (xs.map sV)) (hb : base ≤ W.heap.size) (hn : xs.length ≤ 1000000000) :
    ∃ v' w', (Builtin.append_ #[43, 43] 43 #[v, .slice (some ⟨W.heap.size, 0, none⟩) 1 1]).run Tryz.prog (W.alloc (.cells #[.string t] 9)) = .ok v' w' ∧ w'.ownsRow base 9 1 v' (xs ++ [t]).length ((xs ++ [t]).map sV) ∧ (W.alloc (.cells #[.string t] 9)).grownBy w' v.ownBlock := by
  obtain ⟨v', w', h1, h2, h3⟩ := run_app_text (W.alloc (.cells #[.string t] 9)) base v xs.length (xs.map sV) (hown.alloc _) ⟨W.heap.size, 0, none⟩ 1 1 [.string t] rfl (news_at W _ [.string t] _ rfl) (by simp [Value.oneCell']) (by omega) (by simp; omega)
  refine ⟨v', w', h1, ?_, h3⟩
  rw [List.length_append, List.map_append]
  exact h2
theorem tkeep {w w0 wc w2 : World} {B : Nat} {x y z u : Value} (hH : wc.cell? ⟨B, 0, none⟩ = some x ∧ wc.cell? ⟨B, 1, none⟩ = some y ∧ wc.cell? ⟨B, 2, none⟩ = some z ∧ wc.cell? ⟨B, 3, none⟩ = some u ∧ DfE wc ∧ Below w0.heap.size w wc ∧ w0.heap.size ≤ wc.heap.size)
    (hb : Below wc.heap.size wc w2) : w2.cell? ⟨B, 0, none⟩ = some x ∧ w2.cell? ⟨B, 1, none⟩ = some y ∧ w2.cell? ⟨B, 2, none⟩ = some z ∧ w2.cell? ⟨B, 3, none⟩ = some u ∧ DfE w2 ∧ Below w0.heap.size w w2 ∧ w0.heap.size ≤ w2.heap.size := by
  obtain ⟨h0, h1, h2, h3, h4, h5, h6⟩ := hH
  exact ⟨bcell h0 hb, bcell h1 hb, bcell h2 hb, bcell h3 hb, h4.keep hb, h5.trans (hb.mono h6), Nat.le_trans h6 hb.size⟩
theorem tenv {w w0 wc : World} {B : Nat} {x y z u : Value} (hH : wc.cell? ⟨B, 0, none⟩ = some x ∧ wc.cell? ⟨B, 1, none⟩ = some y ∧ wc.cell? ⟨B, 2, none⟩ = some z ∧ wc.cell? ⟨B, 3, none⟩ = some u ∧ DfE wc ∧ Below w0.heap.size w wc ∧ w0.heap.size ≤ wc.heap.size) : DfE wc := hH.2.2.2.2.1
theorem ukeep {w wc w2 : World} {C B : Nat} {x y : Value} (hH : wc.cell? ⟨C, 0, none⟩ = some x ∧ wc.cell? ⟨C, 1, none⟩ = some y ∧ Below B w wc ∧ B ≤ wc.heap.size)
    (hb : Below wc.heap.size wc w2) : w2.cell? ⟨C, 0, none⟩ = some x ∧ w2.cell? ⟨C, 1, none⟩ = some y ∧ Below B w w2 ∧ B ≤ w2.heap.size := by
  obtain ⟨h0, h1, h2, h3⟩ := hH
  exact ⟨bcell h0 hb, bcell h1 hb, h2.trans (hb.mono h3), Nat.le_trans h3 hb.size⟩
theorem txt_pack {w wa w5 : World} {base C : Nat} {v x y : Value} {xs : List ByteArray} {cs : Array Value} (t : ByteArray) (hS : wa.cell? ⟨C, 0, none⟩ = some x ∧ wa.cell? ⟨C, 1, none⟩ = some y ∧ Below base w wa ∧ base ≤ wa.heap.size)
    (hO : wa.ownsRow base 9 1 v xs.length (xs.map sV)) (hW : Whole wa C 71 cs) (hl : xs.length ≤ 1000000000) (hb : Below wa.heap.size wa w5) :
    Hid (w5.cell? ⟨C, 0, none⟩ = some x ∧ w5.cell? ⟨C, 1, none⟩ = some y ∧ Below base w w5 ∧ base ≤ w5.heap.size) ∧
    Hid ((w5.alloc (.cells #[.string t] 9)).cell? ⟨C, 0, none⟩ = some x ∧ (w5.alloc (.cells #[.string t] 9)).cell? ⟨C, 1, none⟩ = some y ∧ Below base w (w5.alloc (.cells #[.string t] 9)) ∧ base ≤ (w5.alloc (.cells #[.string t] 9)).heap.size) ∧
    ∃ v6 w6, Hid ((Builtin.append_ #[43, 43] 43 #[v, .slice (some ⟨w5.heap.size, 0, none⟩) 1 1]).run Tryz.prog (w5.alloc (.cells #[.string t] 9)) = .ok v6 w6) ∧ Hid (w6.ownsRow base 9 1 v6 (xs ++ [t]).length ((xs ++ [t]).map sV)) ∧
      Hid (w6.cell? ⟨C, 0, none⟩ = some x ∧ w6.cell? ⟨C, 1, none⟩ = some y ∧ Below base w w6 ∧ base ≤ w6.heap.size) := by
  have OA5 := hO.kept (gbelow hb) (Classical.em _)
  have hW5 := hW.keep hb
  have SB := ukeep hS hb
  have SC := ukeep SB ((Below.refl _ _).alloc (Nat.le_refl _) (.cells #[.string t] 9))
  obtain ⟨v6, w6, hrun6, hown6, hgr6⟩ := app_word base v xs t w5 OA5 SB.2.2.2 hl
  have hne := own_ne OA5 hW5 (show (71 : TypeId) ≠ 9 by decide)
  exact ⟨SB, SC, v6, w6, hrun6, hown6, gcell SC.1 hgr6 hne, gcell SC.2.1 hgr6 hne, SC.2.2.1.grown hgr6 SC.2.2.2 (fun k e => (OA5.lt k e).1), Nat.le_trans SC.2.2.2 hgr6.size⟩
set_option maxRecDepth 100000 in
set_option maxHeartbeats 8000000 in
theorem defText_any (d : Dv) (A : Option Addr) (n c : Nat) (w : World) (h : DefAt w A n c d) (hE : DfE w) :
    Calls Tryz.prog 56 #[dV d A n c] w fun e w' => TxtR d e ∧ Below w.heap.size w w' := by
  have b1 := (Below.refl w.heap.size w).alloc (Nat.le_refl _) (.cells #[.string d.n, .int .i64 d.r, .int .i64 d.dl, .slice A n c] 32)
  have CK := Lib.hid (defCheck_any d A n c _ (h.keep b1))
  have HW0 := Lib.hid (Whole.new w 32 #[.string d.n, .int .i64 d.r, .int .i64 d.dl, .slice A n c])
  have HB := Lib.hid b1
  have H := Lib.hid h
  have HE := Lib.hid hE
  have hbig := h.big
  unfold dV at CK ⊢
  clear h b1 hE
  by_cases hok : defOk d
  case neg =>
    rw [ckD_no hok] at CK
    have HN := Lib.hid hok
    clear hok
    go_enter Tryz.func56, Tryz.ntmps56
    go_wp2_with (go_at_call 87; refine CK.out.mono ?_; rintro e w1 ⟨rfl, hb⟩)
    go_ret2
    exact ⟨Or.inr ⟨HN.out, rfl⟩, HB.out.trans (hb.mono HB.out.size)⟩
  rw [ckD_yes hok] at CK
  have HOK := Lib.hid hok
  have HL := Lib.hid H.out.len
  have TL := Lib.hid (textD_le hok)
  obtain ⟨_, r0, r1, t0, t1, n1, n8, _⟩ := id hok
  rw [HL.out] at n1 n8
  clear hok
  go_enter Tryz.func56, Tryz.ntmps56
  go_upto_region 4 with (go_at_call 87; refine CK.out.mono ?_; rintro e w1 ⟨rfl, hb⟩)
  have BW := Lib.hid (HB.out.trans (hb.mono HB.out.size))
  have HW1 := Lib.hid (HW0.out.keep hb)
  have SA : Hid (w1.drew.cell? ⟨w.heap.size, 0, none⟩ = some (.string d.n) ∧ w1.drew.cell? ⟨w.heap.size, 1, none⟩ = some (.int .i64 d.r) ∧ w1.drew.cell? ⟨w.heap.size, 2, none⟩ = some (.int .i64 d.dl) ∧ w1.drew.cell? ⟨w.heap.size, 3, none⟩ = some (.slice A n c) ∧ DfE w1.drew ∧ Below w.heap.size w w1.drew ∧ w.heap.size ≤ w1.drew.heap.size) :=
    Lib.hid ⟨HW1.out.cell 0, HW1.out.cell 1, HW1.out.cell 2, HW1.out.cell 3, HE.out.keep BW.out.drew, BW.out.drew, BW.out.size⟩
  clear CK hb HW0 HB
  go_wp2_with fail
  go_region_held3 (fun wx => wx.cell? ⟨w.heap.size, 0, none⟩ = some (.string d.n) ∧ wx.cell? ⟨w.heap.size, 1, none⟩ = some (.int .i64 d.r) ∧ wx.cell? ⟨w.heap.size, 2, none⟩ = some (.int .i64 d.dl) ∧ wx.cell? ⟨w.heap.size, 3, none⟩ = some (.slice A n c) ∧ DfE wx ∧ Below w.heap.size w wx ∧ w.heap.size ≤ wx.heap.size)
    (first | exact SA.out | assumption | (refine tkeep ?_ hb2; assumption) | (refine tkeep ?_ ((Below.refl _ _).alloc (Nat.le_refl _) _); assumption))
    (first | (go_at_call 55; refine (itoa_any _ (by omega) (by omega) _ ?_).mono ?_; (apply tenv; assumption); rintro e w2 ⟨rfl, hb2⟩))
  rename_i hF
  obtain ⟨_, _, _, f3, _, fB, _⟩ := hF
  have hbs : w.heap.size ≤ w2.heap.size := by have := lt_cell f3; simp at this; omega
  have J0 : Hid ((w2.alloc (.cells #[.string d.n, .string ⟨(dgs d.r).toArray⟩, .string ⟨(dgs d.dl).toArray⟩] 9)).ownsRow w.heap.size 9 1 (.slice (some ⟨w2.heap.size, 0, none⟩) 3 3) (wdsB d 0).length ((wdsB d 0).map sV) ∧ Below w.heap.size w (w2.alloc (.cells #[.string d.n, .string ⟨(dgs d.r).toArray⟩, .string ⟨(dgs d.dl).toArray⟩] 9))) :=
    Lib.hid ⟨World.ownsRow_lit w2 #[.string d.n, .string ⟨(dgs d.r).toArray⟩, .string ⟨(dgs d.dl).toArray⟩] 3 hbs (by decide) rfl, fB⟩
  generalize hwz : w2.alloc (.cells #[.string d.n, .string ⟨(dgs d.r).toArray⟩, .string ⟨(dgs d.dl).toArray⟩] 9) = wz at J0 f3 ⊢
  clear hwz SA fB hbs r0 r1 t0 t1
  go_wp2_with fail
  clear f3
  have HWL := Lib.hid (fun k (hk : k ≤ n) => wdsB_len (d := d) (k := k) (by rw [HL.out]; exact hk))
  go_loopw [5, 26] (fun v i wr => ∃ k : Nat, k ≤ n ∧ i = .int .i64 k ∧ Hid (wr.ownsRow w.heap.size 9 1 v (wdsB d k).length ((wdsB d k).map sV) ∧ Below w.heap.size w wr)) (fun _ i _ => n - (intOf i).toNat)
  case atStart => exact ⟨0, by omega, rfl, J0⟩
  case round =>
    clear J0
    obtain ⟨k, hk, rfl, HI⟩ := hrel
    by_cases hkn : k < n
    · obtain ⟨p, hp⟩ : ∃ p, d.s[k]? = some p := ⟨_, List.getElem?_eq_getElem (by rw [HL.out]; exact hkn)⟩
      obtain ⟨g, o, rfl, y0, y1⟩ := H.out.s.keep HI.out.2 k p hp
      have hst := HOK.out.2.2.2.2.2.2.2.all (List.mem_of_getElem? hp)
      obtain ⟨hq1, hq2, hq3, hq4⟩ := stOk_parts hst
      have hkl : p.k.size ≤ 1000000000 := by have := (isName_len hq1).2.1; rw [Lib.size_eq]; omega
      have hfl := fmt_le (v := p.v) (by omega) (by omega)
      have BA := (Below.refl _ wr).alloc (Nat.le_refl _) (.cells #[.string p.k, .int .i64 p.v] 71)
      have NA := Whole.new wr 71 #[.string p.k, .int .i64 p.v]
      have HN := Lib.hid (wdsB_next hp)
      have FC := Lib.hid (fun (W : World) (hE : DfE W) => fmt_any p.v (by omega) (by omega) hq2 W hE)
      have hk0 : (0 : Int) ≤ (k : Int) := by omega
      have hkn' : (k : Int) < (n : Int) := by omega
      have hwk : IntKind.i64.wrap ((k : Int) + 1) = (k : Int) + 1 := IntWalk.i64_in _ (by omega)
      have OA := HI.out.1.kept (gbelow BA) (Classical.em _)
      have BB := Lib.hid (HI.out.2.trans (BA.mono HI.out.2.size))
      have AW := Lib.hid (fun (v : Value) (t : ByteArray) (W : World) (hown : W.ownsRow w.heap.size 9 1 v (wdsB d k).length ((wdsB d k).map sV)) (hb : w.heap.size ≤ W.heap.size) => app_word w.heap.size v (wdsB d k) t W hown hb (by have := HWL.out k hk; omega))
      by_cases hv : 0 < p.v
      · have z1 : ((⟨#[43]⟩ : ByteArray)).size = 1 := rfl
        have z2 : ((⟨(fmtV p.v).toArray⟩ : ByteArray)).size = (fmtV p.v).length := Lib.size_mk _
        obtain ⟨t1, e1, m1, s1⟩ := add_ba p.k ⟨#[43]⟩ (by rw [z1]; omega)
        obtain ⟨t2, e2, m2, s2⟩ := add_ba t1 ⟨(fmtV p.v).toArray⟩ (by rw [m1, z2, z1]; omega)
        have ET : Hid (t2 = ⟨(spW p).toArray⟩) := Lib.hid (by
          rw [← ba_eta t2, e2.out, e1.out]
          unfold spW fmtV sgn; simp [hv])
        clear m1 m2 e1 e2 hp hst hq1 hq2 hq3 hq4 hkl hfl z1 z2
        generalize hwa : wr.alloc (.cells #[.string p.k, .int .i64 p.v] 71) = wa at NA OA BB BA
        have hwz : w.heap.size ≤ wa.heap.size := BB.out.size
        have SA : Hid (wa.drew.cell? ⟨wr.heap.size, 0, none⟩ = some (.string p.k) ∧ wa.drew.cell? ⟨wr.heap.size, 1, none⟩ = some (.int .i64 p.v) ∧ Below w.heap.size w wa.drew ∧ w.heap.size ≤ wa.drew.heap.size) := Lib.hid ⟨NA.cell 0, NA.cell 1, BB.out.drew, BB.out.size⟩
        have TP := Lib.hid (fun (w5 : World) (hb : Below wa.drew.heap.size wa.drew w5) => txt_pack (wa := wa.drew) t2 SA.out OA.drew NA (by have := HWL.out k hk; omega) hb)
        have p0 := NA.cell 0
        have p1 := NA.cell 1
        simp only [List.getElem?_toArray, List.getElem?_cons_succ, List.getElem?_cons_zero] at p0 p1
        clear OA NA BA
        go_upto_region 11 with fail
        go_wp2_with fail
        go_region_held3 (fun wx => wx.cell? ⟨wr.heap.size, 0, none⟩ = some (.string p.k) ∧ wx.cell? ⟨wr.heap.size, 1, none⟩ = some (.int .i64 p.v) ∧ Below w.heap.size w wx ∧ w.heap.size ≤ wx.heap.size)
          (first | exact SA.out | assumption | exact SB.out | exact SC.out | exact SD.out)
          (first
            | (go_at_call 88; refine (FC.out _ (HE.out.keep BB.out.drew)).mono ?_; rintro e w5 ⟨rfl, hb5⟩; obtain ⟨SB, SC, v6, w6, RN, HO6, SD⟩ := TP.out w5 hb5; clear hb5)
            | (refine step_append_run (by rfl) (.tmp 33) (.tmp 42) 43 43 (by rfl) (by rfl) (by rfl) RN.out ?_))
        have HZ := Lib.hid SD.out.2.2.1
        rename_i hF
        clear hF SA SB SC SD RN
        go_wp2_with fail
        go_roundw
        case rel => exact ⟨k + 1, by omega, by go_num, Lib.hid ⟨by rw [← HN.out, ← ET.out]; exact HO6.out, HZ.out⟩⟩
        case measure => simp [intOf]; omega
      · have z1 : ((⟨#[]⟩ : ByteArray)).size = 0 := rfl
        have z2 : ((⟨(fmtV p.v).toArray⟩ : ByteArray)).size = (fmtV p.v).length := Lib.size_mk _
        obtain ⟨t1, e1, m1, s1⟩ := add_ba p.k ⟨#[]⟩ (by rw [z1]; omega)
        obtain ⟨t2, e2, m2, s2⟩ := add_ba t1 ⟨(fmtV p.v).toArray⟩ (by rw [m1, z2, z1]; omega)
        have ET : Hid (t2 = ⟨(spW p).toArray⟩) := Lib.hid (by
          rw [← ba_eta t2, e2.out, e1.out]
          unfold spW fmtV sgn; simp [hv])
        clear m1 m2 e1 e2 hp hst hq1 hq2 hq3 hq4 hkl hfl z1 z2
        generalize hwa : wr.alloc (.cells #[.string p.k, .int .i64 p.v] 71) = wa at NA OA BB BA
        have hwz : w.heap.size ≤ wa.heap.size := BB.out.size
        have SA : Hid (wa.drew.cell? ⟨wr.heap.size, 0, none⟩ = some (.string p.k) ∧ wa.drew.cell? ⟨wr.heap.size, 1, none⟩ = some (.int .i64 p.v) ∧ Below w.heap.size w wa.drew ∧ w.heap.size ≤ wa.drew.heap.size) := Lib.hid ⟨NA.cell 0, NA.cell 1, BB.out.drew, BB.out.size⟩
        have TP := Lib.hid (fun (w5 : World) (hb : Below wa.drew.heap.size wa.drew w5) => txt_pack (wa := wa.drew) t2 SA.out OA.drew NA (by have := HWL.out k hk; omega) hb)
        have p0 := NA.cell 0
        have p1 := NA.cell 1
        simp only [List.getElem?_toArray, List.getElem?_cons_succ, List.getElem?_cons_zero] at p0 p1
        clear OA NA BA
        go_upto_region 11 with fail
        go_wp2_with fail
        go_region_held3 (fun wx => wx.cell? ⟨wr.heap.size, 0, none⟩ = some (.string p.k) ∧ wx.cell? ⟨wr.heap.size, 1, none⟩ = some (.int .i64 p.v) ∧ Below w.heap.size w wx ∧ w.heap.size ≤ wx.heap.size)
          (first | exact SA.out | assumption | exact SB.out | exact SC.out | exact SD.out)
          (first
            | (go_at_call 88; refine (FC.out _ (HE.out.keep BB.out.drew)).mono ?_; rintro e w5 ⟨rfl, hb5⟩; obtain ⟨SB, SC, v6, w6, RN, HO6, SD⟩ := TP.out w5 hb5; clear hb5)
            | (refine step_append_run (by rfl) (.tmp 33) (.tmp 42) 43 43 (by rfl) (by rfl) (by rfl) RN.out ?_))
        have HZ := Lib.hid SD.out.2.2.1
        rename_i hF
        clear hF SA SB SC SD RN
        go_wp2_with fail
        go_roundw
        case rel => exact ⟨k + 1, by omega, by go_num, Lib.hid ⟨by rw [← HN.out, ← ET.out]; exact HO6.out, HZ.out⟩⟩
        case measure => simp [intOf]; omega
    · obtain rfl : k = n := by omega
      have HE2 := Lib.hid ((congrArg (fun j => (wdsB d j).map (·.data.toList)) HL.out).symm.trans (wdsB_all d))
      obtain ⟨g, cp, rfl, hg1, hg2⟩ := HI.out.1.form (by rw [HWL.out k (Nat.le_refl _)]; omega)
      have hJ : Lib.join ((wdsB d k).map (·.data.toList)) [32] = textD d := by
        have := HE2.out
        rw [show (wdsB d k).map (·.data.toList) = wordsD d from this, ← joinW_eq]; rfl
      have hcp : (wdsB d k).length ≤ cp := by
        rcases HI.out.1.2 with ⟨e, _⟩ | ⟨g', cap, cur, e, _, _, hc, _⟩
        · cases e
        · cases e; exact hc
      have JN := Lib.hid (Tryz.strings_Join g 0 cp (wdsB d k) ⟨#[32]⟩ wr (fun j x hj => by
        have := HI.out.1.cells (g := g) rfl j (sV x) (by rw [List.getElem?_map, hj]; rfl)
        rw [show (⟨g, 0, none⟩ : Addr).add j = ⟨g, 0 + j, none⟩ by unfold Addr.add; split <;> simp_all] at this
        exact this) hg2 (by rw [HWL.out k (Nat.le_refl _)]; omega) hcp (by rw [show ((⟨#[32]⟩ : ByteArray).data.toList) = [32] from rfl, hJ]; have := TL.out; omega))
      rw [show ((⟨#[32]⟩ : ByteArray).data.toList) = [32] from rfl, hJ] at JN
      have HB9 := Lib.hid HI.out.2
      clear HI hJ hcp HE2 hg1 hg2
      go_wp2_with (go_at_call 19; refine JN.out.mono ?_; rintro e w7 ⟨rfl, hB7⟩)
      go_ret2
      exact ⟨Or.inl ⟨HOK.out, rfl⟩, HB9.out.trans (hB7.mono HB9.out.size)⟩
end
section
open Go.RowKit Go.Shelf

/-- A digit cut out of the ten. -/
theorem ten_cut {m : Nat} (h : m < 10) : (⟨#[48, 49, 50, 51, 52, 53, 54, 55, 56, 57]⟩ : ByteArray).extract m (m + 1) = ⟨(Lib.decDigits m).toArray⟩ := by
  match m, h with
  | 0, _ | 1, _ | 2, _ | 3, _ | 4, _ | 5, _ | 6, _ | 7, _ | 8, _ | 9, _ => decide +kernel
  | m + 10, h => omega
set_option maxRecDepth 100000 in
set_option maxHeartbeats 2000000 in
theorem rdig_any : ∀ (m : Nat) (w : World), m ≤ 9223372036854775807 →
    Calls Tryz.prog 91 #[.int .i64 (m : Int)] w fun e w' => e = .returned (.string ⟨(Lib.decDigits m).toArray⟩) ∧ w = w' := by
  intro m
  induction m using Nat.strongRecOn with
  | ind m ih =>
    intro w hm
    by_cases h : m < 10
    · have hT := Lib.hid (ten_cut h)
      have hw : IntKind.i64.wrap ((m : Int) + 1) = (m : Int) + 1 := IntWalk.i64_in _ (by omega)
      have h0 : (0 : Int) ≤ (m : Int) := by omega
      have h1 : (m : Int) < 10 := by omega
      have h2 : (m : Int) ≤ (m : Int) + 1 := by omega
      have h3 : (m : Int) + 1 ≤ 10 := by omega
      have h4 : ((m : Int) + 1).toNat = m + 1 := by omega
      clear ih
      go_enter Tryz.func91, Tryz.ntmps91
      go_wp2
      go_ret
      exact ⟨by rw [← hT.out]; rfl, rfl⟩
    · have D1 := Lib.hid (ih (m / 10) (by omega) w (by omega))
      have D2 := Lib.hid (ih (m % 10) (by omega) w (by omega))
      have hq : ((m : Int)).tdiv 10 = ((m / 10 : Nat) : Int) := by rw [Int.tdiv_eq_ediv_of_nonneg (by omega)]; omega
      have hr : ((m : Int)).tmod 10 = ((m % 10 : Nat) : Int) := by rw [Int.tmod_eq_emod_of_nonneg (by omega)]; omega
      have h1 : ¬ ((m : Int) < 10) := by omega
      obtain ⟨t, et, _, st⟩ := add_ba ⟨(Lib.decDigits (m / 10)).toArray⟩ ⟨(Lib.decDigits (m % 10)).toArray⟩ (by
        have a := nDig_le 18 (m / 10) (by omega)
        have b := nDig_le 18 (m % 10) (by omega)
        rw [Lib.size_mk, Lib.size_mk, Lib.decDigits_length, Lib.decDigits_length]; omega)
      have HT : Hid (t = ⟨(Lib.decDigits m).toArray⟩) := Lib.hid (by
        rw [← ba_eta t, et.out, Lib.decDigits_one (show m % 10 < 10 by omega)]
        conv => rhs; rw [Lib.decDigits, dif_neg h])
      clear ih et
      go_enter Tryz.func91, Tryz.ntmps91
      go_wp2_with (first
        | (go_at_call 91; go_fit D1.out; rintro e w1 ⟨rfl, rfl⟩)
        | (go_at_call 91; go_fit D2.out; rintro e w2 ⟨rfl, rfl⟩))
      go_ret
      exact ⟨by rw [← HT.out]; rfl, rfl⟩
theorem joinW_snoc : ∀ (ws : List (List UInt8)) (x : List UInt8), ws ≠ [] → joinW (ws ++ [x]) = joinW ws ++ 32 :: x
  | [], _, h => absurd rfl h
  | [a], x, _ => by simp [joinW]
  | a :: b :: l, x, _ => by
    have ih := joinW_snoc (b :: l) x (by simp)
    simp only [List.cons_append] at ih ⊢
    rw [joinW, ih, joinW]
    simp
/-- The first words of a definition's text. -/
def pfxD (d : Dv) (k : Nat) : List UInt8 := joinW ((wdsB d k).map (·.data.toList))
theorem pfxD_zero (d : Dv) : pfxD d 0 = d.n.data.toList ++ 32 :: (dgs d.r ++ 32 :: dgs d.dl) := by simp [pfxD, wdsB, joinW]
theorem pfxD_next {d : Dv} {k : Nat} {p : Sp} (h : d.s[k]? = some p) : pfxD d (k + 1) = pfxD d k ++ 32 :: (p.k.data.toList ++ sgn p.v) := by
  unfold pfxD
  rw [← wdsB_next h, List.map_append, List.map_cons, List.map_nil, joinW_snoc _ _ (by simp [wdsB])]
  rfl
theorem pfxD_all (d : Dv) : pfxD d d.s.length = textD d := by
  unfold pfxD
  rw [wdsB_all]; rfl
theorem pfxD_le {d : Dv} (h : defOk d) {k : Nat} (hk : k ≤ d.s.length) : (pfxD d k).length ≤ 451 := by
  have h1 := joinW_le (m := 40) ((wdsB d k).map (·.data.toList)) (fun w hw => by
    unfold wdsB at hw
    simp only [List.map_cons, List.map_map, List.mem_cons, List.mem_map] at hw
    rcases hw with rfl | rfl | rfl | ⟨p, hp, rfl⟩
    · have := (isName_len h.1).2.1; omega
    · have := dgs_le (a := d.r) (by have := h.2.2.1; omega); simpa using (by omega : (dgs d.r).length ≤ 40)
    · have := dgs_le (a := d.dl) (by have := h.2.2.2.2.1; omega); simpa using (by omega : (dgs d.dl).length ≤ 40)
    · simpa using spW_le (h.2.2.2.2.2.2.2.all (List.mem_of_mem_take hp)))
  have h2 := wdsB_len hk
  have h3 := h.2.2.2.2.2.2.1
  rw [List.length_map, h2] at h1
  unfold pfxD
  omega
theorem rdgs_any (a : Int) (W : World) (h0 : 0 ≤ a) (h1 : a ≤ 9223372036854775807) : Calls Tryz.prog 91 #[.int .i64 a] W fun e w' => e = .returned (.string ⟨(dgs a).toArray⟩) ∧ w' = W := by
  have h := rdig_any a.toNat W (by omega)
  rw [show ((a.toNat : Nat) : Int) = a by omega] at h
  exact h.mono (fun e w' ⟨he, hw⟩ => ⟨he, hw.symm⟩)
theorem sz_dgs (a : Int) : (⟨(dgs a).toArray⟩ : ByteArray).size = (dgs a).length := Lib.size_mk _
set_option maxRecDepth 100000 in
set_option maxHeartbeats 8000000 in
theorem refDefText_any (d : Dv) (A : Option Addr) (n c : Nat) (w : World) (h : DefAt w A n c d) :
    Calls Tryz.prog 60 #[dV d A n c] w fun e w' => TxtR d e ∧ Below w.heap.size w w' := by
  have mixed : Tryz.prog.follows Departure.mixedOrders = true := by kernel_rfl
  have b1 := (Below.refl w.heap.size w).alloc (Nat.le_refl _) (.cells #[.string d.n, .int .i64 d.r, .int .i64 d.dl, .slice A n c] 32)
  have CK := Lib.hid (refDefCheck_any d A n c _ (h.keep b1))
  have HW0 := Lib.hid (Whole.new w 32 #[.string d.n, .int .i64 d.r, .int .i64 d.dl, .slice A n c])
  have HB := Lib.hid b1
  have H := Lib.hid h
  unfold dV at CK ⊢
  clear h b1
  by_cases hok : defOk d
  case neg =>
    rw [ckD_no hok] at CK
    have HN := Lib.hid hok
    clear hok
    go_enter Tryz.func60, Tryz.ntmps60
    go_wp2_with (go_at_call 90; refine CK.out.mono ?_; rintro e w1 ⟨rfl, hb⟩)
    go_ret2
    exact ⟨Or.inr ⟨HN.out, rfl⟩, HB.out.trans (hb.mono HB.out.size)⟩
  rw [ckD_yes hok] at CK
  have HOK := Lib.hid hok
  have HL := Lib.hid H.out.len
  have PL := Lib.hid (fun k (hk : k ≤ n) => pfxD_le hok (k := k) (by rw [HL.out]; exact hk))
  have hnl : d.n.size ≤ 16 := by have := (isName_len hok.1).2.1; rw [Lib.size_eq]; omega
  obtain ⟨_, r0, r1, t0, t1, n1, n8, _⟩ := id hok
  rw [HL.out] at n1 n8
  have l1 := dgs_le (a := d.r) (by omega)
  have l2 := dgs_le (a := d.dl) (by omega)
  have z0 : (⟨#[32]⟩ : ByteArray).size = 1 := rfl
  have z1 := sz_dgs d.r
  have z2 := sz_dgs d.dl
  obtain ⟨a1, e1, m1, s1⟩ := add_ba d.n ⟨#[32]⟩ (by omega)
  obtain ⟨a2, e2, m2, s2⟩ := add_ba a1 ⟨(dgs d.r).toArray⟩ (by omega)
  obtain ⟨a3, e3, m3, s3⟩ := add_ba a2 ⟨#[32]⟩ (by omega)
  obtain ⟨a4, e4, m4, s4⟩ := add_ba a3 ⟨(dgs d.dl).toArray⟩ (by omega)
  have E4 : Hid (a4.data.toList = pfxD d 0) := Lib.hid (by rw [e4.out, e3.out, e2.out, e1.out, pfxD_zero]; simp)
  have HD := Lib.hid (fun a W h0 h1 => rdgs_any a W h0 h1)
  clear hok z0 z1 z2 m1 m2 m3 m4 e1 e2 e3 e4 l1 l2
  go_enter Tryz.func60, Tryz.ntmps60
  go_upto_region 3 with (go_at_call 90; refine CK.out.mono ?_; rintro e w1 ⟨rfl, hb⟩)
  have BW := Lib.hid (HB.out.trans (hb.mono HB.out.size))
  have HW1 := Lib.hid (HW0.out.keep hb)
  have x0 := HW1.out.cell 0
  have x1 := HW1.out.cell 1
  have x2 := HW1.out.cell 2
  simp only [List.getElem?_toArray, List.getElem?_cons_succ, List.getElem?_cons_zero] at x0 x1 x2
  clear CK hb HW0 HB
  go_quiet (exact Calls.quiet_of_same (HD.out _ _ (by omega) (by omega)))
  clear s1 s2 s3 s4 x0 x1 x2
  have J0 : Hid (a4.data.toList = pfxD d 0 ∧ Below w1.heap.size w1 (w1.drewN nq)) := Lib.hid ⟨E4.out, b_drewN (Below.refl _ _) _⟩
  have hlt := HW1.out.lt
  go_wp2_with fail
  go_loopw [4, 5] (fun v i wr => ∃ (k : Nat) (out : ByteArray), k ≤ n ∧ i = .int .i64 k ∧ v = .string out ∧ Hid (out.data.toList = pfxD d k ∧ Below w1.heap.size w1 wr)) (fun _ i _ => n - (intOf i).toNat)
  case atStart => exact ⟨0, a4, by omega, rfl, rfl, J0⟩
  case round =>
    clear J0 E4
    obtain ⟨k, out, hk, rfl, rfl, HI⟩ := hrel
    have BR := Lib.hid (BW.out.trans (HI.out.2.mono (by have := hlt; omega)))
    have x3 := (HW1.out.keep HI.out.2).cell 3
    simp only [List.getElem?_toArray, List.getElem?_cons_succ, List.getElem?_cons_zero] at x3
    by_cases hkn : k < n
    · obtain ⟨p, hp⟩ : ∃ p, d.s[k]? = some p := ⟨_, List.getElem?_eq_getElem (by rw [HL.out]; exact hkn)⟩
      obtain ⟨g, o, rfl, y0, y1⟩ := H.out.s.keep BR.out k p hp
      have hst := HOK.out.2.2.2.2.2.2.2.all (List.mem_of_getElem? hp)
      obtain ⟨hq1, hq2, hq3, hq4⟩ := stOk_parts hst
      have hkl : p.k.size ≤ 16 := by have := (isName_len hq1).2.1; rw [Lib.size_eq]; omega
      have hol : out.size ≤ 451 := by rw [Lib.size_eq, HI.out.1]; exact PL.out k hk
      have HN := Lib.hid (pfxD_next hp)
      have hk0 : (0 : Int) ≤ (k : Int) := by omega
      have hkn' : (k : Int) < (n : Int) := by omega
      have hwk : IntKind.i64.wrap ((k : Int) + 1) = (k : Int) + 1 := IntWalk.i64_in _ (by omega)
      have HPV := Lib.hid (show -1152921504606846976 ≤ p.v ∧ p.v ≤ 1152921504606846976 ∧ p.v ≠ 0 from ⟨hq3, hq4, hq2⟩)
      have NA := Whole.new wr 71 #[.string p.k, .int .i64 p.v]
      have BA := Lib.hid (HI.out.2.trans (((Below.refl _ wr).alloc (Nat.le_refl _) (.cells #[.string p.k, .int .i64 p.v] 71)).mono HI.out.2.size))
      have p0 := NA.cell 0
      have p1 := NA.cell 1
      simp only [List.getElem?_toArray, List.getElem?_cons_succ, List.getElem?_cons_zero] at p0 p1
      clear hp hst hq1 hq2 hq3 hq4 NA
      by_cases hv : 0 < p.v
      · have l3 := dgs_le (a := p.v) (by have := HPV.out; omega)
        have z0 : (⟨#[32]⟩ : ByteArray).size = 1 := rfl
        have z1 : (⟨#[43]⟩ : ByteArray).size = 1 := rfl
        have z2 := sz_dgs (p.v)
        obtain ⟨t1, e1, m1, s1⟩ := add_ba out ⟨#[32]⟩ (by omega)
        obtain ⟨t2, e2, m2, s2⟩ := add_ba t1 p.k (by omega)
        obtain ⟨t3, e3, m3, s3⟩ := add_ba t2 ⟨#[43]⟩ (by omega)
        obtain ⟨t4, e4, m4, s4⟩ := add_ba t3 ⟨(dgs (p.v)).toArray⟩ (by omega)
        have ET : Hid (t4.data.toList = pfxD d (k + 1)) := Lib.hid (by
          rw [HN.out, e4.out, e3.out, e2.out, e1.out, HI.out.1]
          unfold sgn; simp [hv])
        have hwn : IntKind.i64.wrap (-p.v) = -p.v := IntWalk.i64_in _ (by have := HPV.out; omega)
        have hv0 : 0 ≤ p.v := by have := HPV.out; omega
        have hv1 : p.v ≤ 9223372036854775807 := by have := HPV.out; omega
        clear z0 z1 z2 m1 m2 m3 m4 e1 e2 e3 e4 l3 hol hkl
        go_upto_region 9 with fail
        go_quiet (exact Calls.quiet_of_same (HD.out _ _ hv0 hv1))
        clear s1 s2 s3 s4 p0 p1 y0 y1 hv0 hv1
        go_wp2_with fail
        go_roundw
        case rel => exact ⟨k + 1, t4, by omega, by go_num, rfl, Lib.hid ⟨ET.out, b_drewN BA.out _⟩⟩
        case measure => simp [intOf]; omega
      · have l3 := dgs_le (a := -p.v) (by have := HPV.out; omega)
        have z0 : (⟨#[32]⟩ : ByteArray).size = 1 := rfl
        have z1 : (⟨#[45]⟩ : ByteArray).size = 1 := rfl
        have z2 := sz_dgs (-p.v)
        obtain ⟨t1, e1, m1, s1⟩ := add_ba out ⟨#[32]⟩ (by omega)
        obtain ⟨t2, e2, m2, s2⟩ := add_ba t1 p.k (by omega)
        obtain ⟨t3, e3, m3, s3⟩ := add_ba t2 ⟨#[45]⟩ (by omega)
        obtain ⟨t4, e4, m4, s4⟩ := add_ba t3 ⟨(dgs (-p.v)).toArray⟩ (by omega)
        have ET : Hid (t4.data.toList = pfxD d (k + 1)) := Lib.hid (by
          rw [HN.out, e4.out, e3.out, e2.out, e1.out, HI.out.1]
          unfold sgn; simp [hv])
        have hwn : IntKind.i64.wrap (-p.v) = -p.v := IntWalk.i64_in _ (by have := HPV.out; omega)
        have hv0 : 0 ≤ -p.v := by have := HPV.out; omega
        have hv1 : -p.v ≤ 9223372036854775807 := by have := HPV.out; omega
        clear z0 z1 z2 m1 m2 m3 m4 e1 e2 e3 e4 l3 hol hkl
        go_upto_region 10 with fail
        go_quiet (exact Calls.quiet_of_same (HD.out _ _ hv0 hv1))
        clear s1 s2 s3 s4 p0 p1 y0 y1 hv0 hv1
        go_wp2_with fail
        go_roundw
        case rel => exact ⟨k + 1, t4, by omega, by go_num, rfl, Lib.hid ⟨ET.out, b_drewN BA.out _⟩⟩
        case measure => simp [intOf]; omega
    · obtain rfl : k = n := by omega
      have HE := Lib.hid (show out = ⟨(textD d).toArray⟩ by
        rw [← pfxD_all d, HL.out, ← HI.out.1, ba_eta])
      clear HI
      go_wp2_with fail
      go_ret2
      exact ⟨Or.inl ⟨HOK.out, by rw [HE.out]; rfl⟩, BR.out⟩
end
section
open Go.RowKit Go.Shelf

def eqS (p q : Sp) : Bool := p.k.toList == q.k.toList && p.v == q.v
theorem eqS_iff {p q : Sp} : eqS p q = true ↔ p = q := by
  unfold eqS
  rw [Bool.and_eq_true, key_eq, beq_iff_eq]
  obtain ⟨k, v⟩ := p
  obtain ⟨k', v'⟩ := q
  simp
theorem stp_ne (p q : Sp) (W : World) : (binOp .neq 71 (.agg #[.string p.k, .int .i64 p.v]) (.agg #[.string q.k, .int .i64 q.v])).run Tryz.prog W = .ok (.bool (!(eqS p q))) W := by
  unfold eqS
  cases h1 : (p.k.toList == q.k.toList) <;> cases h2 : (p.v == q.v) <;> go_simp
theorem dv_eq {a b : Dv} : a = b ↔ (a.n = b.n ∧ a.r = b.r ∧ a.dl = b.dl ∧ a.s = b.s) := by
  obtain ⟨n, r, dl, s⟩ := a
  obtain ⟨n', r', dl', s'⟩ := b
  simp
/-- The first steps are the same. -/
def SameK (s s' : List Sp) (k : Nat) : Prop := ∀ (i : Nat) p q, i < k → s[i]? = some p → s'[i]? = some q → p = q
theorem same_all {s s' : List Sp} (hl : s.length = s'.length) (h : SameK s s' s.length) : s = s' := by
  apply List.ext_getElem?
  intro i
  cases hs : s[i]? with
  | none => rw [List.getElem?_eq_none_iff] at hs; rw [List.getElem?_eq_none (by omega)]
  | some p =>
    have hi := (List.getElem?_eq_some_iff.1 hs).1
    have hq := List.getElem?_eq_getElem (show i < s'.length by omega)
    rw [hq, h i p _ hi hs hq]
theorem same_step {s s' : List Sp} {k : Nat} {p q : Sp} (h : SameK s s' k) (hp : s[k]? = some p) (hq : s'[k]? = some q) (e : p = q) : SameK s s' (k + 1) := fun i a b hi ha hb => by
  by_cases hk : i = k
  · subst hk; rw [hp] at ha; rw [hq] at hb; cases ha; cases hb; exact e
  · exact h i a b (by omega) ha hb
set_option maxRecDepth 100000 in
set_option maxHeartbeats 2000000 in
theorem slEqual_any (A A' : Option Addr) (n n' c c' : Nat) (s s' : List Sp) (w : World) (hs : SlD w A s) (hs' : SlD w A' s') (hn : s.length = n) (hn' : s'.length = n') (hb : n ≤ 1000000000000) :
    Calls Tryz.prog 98 #[.slice A n c, .slice A' n' c'] w fun e w' => (∃ b : Bool, e = .returned (.bool b) ∧ (b = true ↔ s = s')) ∧ Below w.heap.size w w' := by
  have mixed : Tryz.prog.follows Departure.mixedOrders = true := by kernel_rfl
  have HS := Lib.hid hs
  have HS' := Lib.hid hs'
  have HN := Lib.hid hn
  have HN' := Lib.hid hn'
  clear hs hs' hn hn'
  by_cases hnn : n = n'
  · subst hnn
    go_enter Tryz.func98, Tryz.ntmps98
    go_wp2_with fail
    go_loopw [13] (fun i wr => ∃ k : Nat, k ≤ n ∧ i = .int .i64 k ∧ Hid (Below w.heap.size w wr ∧ SameK s s' k)) (fun i _ => n - (intOf i).toNat)
    case atStart => exact ⟨0, by omega, rfl, Lib.hid ⟨Below.refl _ _, fun i p q h => absurd h (by omega)⟩⟩
    case round =>
      obtain ⟨k, hk, rfl, HI⟩ := hrel
      by_cases hkn : k < n
      · obtain ⟨p, hp⟩ : ∃ p, s[k]? = some p := ⟨_, List.getElem?_eq_getElem (by rw [HN.out]; exact hkn)⟩
        obtain ⟨q, hq⟩ : ∃ q, s'[k]? = some q := ⟨_, List.getElem?_eq_getElem (by rw [HN'.out]; exact hkn)⟩
        obtain ⟨g, o, rfl, y0, y1⟩ := HS.out.keep HI.out.1 k p hp
        obtain ⟨g', o', rfl, z0, z1⟩ := HS'.out.keep HI.out.1 k q hq
        have hne := fun W => stp_ne p q W
        have HP := Lib.hid (And.intro hp hq)
        have hk0 : (0 : Int) ≤ (k : Int) := by omega
        have hkn' : (k : Int) < (n : Int) := by omega
        have hwk : IntKind.i64.wrap ((k : Int) + 1) = (k : Int) + 1 := IntWalk.i64_in _ (by omega)
        clear hp hq
        cases he : eqS p q with
        | true =>
          rw [he] at hne
          have HK := Lib.hid (same_step HI.out.2 HP.out.1 HP.out.2 (eqS_iff.1 he))
          clear he
          go_upto_region 6 with fail
          go_quiet (fail)
          go_wp2_with fail
          go_roundw
          case rel => exact ⟨k + 1, by omega, by go_num, Lib.hid ⟨b_drewN HI.out.1 _, HK.out⟩⟩
          case measure => simp [intOf]; omega
        | false =>
          rw [he] at hne
          have HK : Hid (s ≠ s') := Lib.hid (fun e => by
            subst e
            have h1 := HP.out.1.symm.trans HP.out.2
            cases h1
            rw [eqS_iff.2 rfl] at he; cases he)
          clear he
          go_upto_region 6 with fail
          go_quiet (fail)
          go_wp2_with fail
          go_ret
          exact ⟨⟨false, rfl, by simp [HK.out]⟩, b_drewN HI.out.1 _⟩
      · obtain rfl : k = n := by omega
        have HE : Hid (s = s') := Lib.hid (same_all (HN.out.trans HN'.out.symm) (by rw [HN.out]; exact HI.out.2))
        go_wp2_with fail
        go_ret
        exact ⟨⟨true, rfl, by simp [HE.out]⟩, HI.out.1⟩
  · have hne : ((n : Int) == (n' : Int)) = false := by rw [beq_eq_false_iff_ne]; omega
    have HE : Hid (s ≠ s') := Lib.hid (fun e => hnn (by rw [← HN.out, ← HN'.out, e]))
    clear hnn
    go_enter Tryz.func98, Tryz.ntmps98
    go_wp2_with fail
    go_ret
    exact ⟨⟨false, rfl, by simp [HE.out]⟩, Below.refl _ _⟩
set_option maxRecDepth 100000 in
set_option maxHeartbeats 2000000 in
theorem defEqual_any (a b : Dv) (A A' : Option Addr) (n n' c c' : Nat) (w : World) (h : DefAt w A n c a) (h' : DefAt w A' n' c' b) :
    Calls Tryz.prog 64 #[dV a A n c, dV b A' n' c'] w fun e w' => (∃ q : Bool, e = .returned (.bool q) ∧ (q = true ↔ a = b)) ∧ Below w.heap.size w w' := by
  have b2 := ((Below.refl w.heap.size w).alloc (Nat.le_refl _) (.cells #[.string a.n, .int .i64 a.r, .int .i64 a.dl, .slice A n c] 32)).alloc (by simp) (.cells #[.string b.n, .int .i64 b.r, .int .i64 b.dl, .slice A' n' c'] 32)
  have SE := Lib.hid (slEqual_any A A' n n' c c' a.s b.s _ (h.keep b2).s (h'.keep b2).s h.len h'.len h.big)
  have HB := Lib.hid b2
  have HD := Lib.hid (dv_eq (a := a) (b := b))
  clear h h' b2
  unfold dV
  cases h1 : (a.n.toList == b.n.toList) with
  | false =>
    have HE : Hid (a ≠ b) := Lib.hid (fun e => key_ne.1 h1 (HD.out.1 e).1)
    go_enter Tryz.func64, Tryz.ntmps64
    go_wp2_with fail
    go_ret
    exact ⟨⟨false, rfl, by simp [HE.out]⟩, HB.out⟩
  | true =>
    cases h2 : (a.r == b.r) with
    | false =>
      have HE : Hid (a ≠ b) := Lib.hid (fun e => beq_eq_false_iff_ne.1 h2 (HD.out.1 e).2.1)
      go_enter Tryz.func64, Tryz.ntmps64
      go_wp2_with fail
      go_ret
      exact ⟨⟨false, rfl, by simp [HE.out]⟩, HB.out⟩
    | true =>
      cases h3 : (a.dl == b.dl) with
      | false =>
        have HE : Hid (a ≠ b) := Lib.hid (fun e => beq_eq_false_iff_ne.1 h3 (HD.out.1 e).2.2.1)
        go_enter Tryz.func64, Tryz.ntmps64
        go_wp2_with fail
        go_ret
        exact ⟨⟨false, rfl, by simp [HE.out]⟩, HB.out⟩
      | true =>
        have HE : Hid (a = b ↔ a.s = b.s) := Lib.hid (HD.out.trans ⟨fun h => h.2.2.2, fun h => ⟨key_eq.1 h1, beq_iff_eq.1 h2, beq_iff_eq.1 h3, h⟩⟩)
        go_enter Tryz.func64, Tryz.ntmps64
        go_wp2_with (go_at_call 98; refine SE.out.mono ?_; rintro e w1 ⟨⟨q, rfl, hq⟩, hb1⟩)
        go_ret
        exact ⟨⟨q, rfl, hq.trans HE.out.symm⟩, HB.out.trans (hb1.mono HB.out.size)⟩
end
section
open Go.RowKit Go.Shelf

theorem def_cells {W : World} {b : Nat} {t : TypeId} {x y z u : Value} (h : Whole W b t #[x, y, z, u]) : W.cell? ⟨b, 0, none⟩ = some x ∧ W.cell? ⟨b, 1, none⟩ = some y ∧ W.cell? ⟨b, 2, none⟩ = some z ∧ W.cell? ⟨b, 3, none⟩ = some u :=
  ⟨h.cell 0, h.cell 1, h.cell 2, h.cell 3⟩
set_option maxRecDepth 100000 in
set_option maxHeartbeats 4000000 in
theorem refEqual_any (a b : Dv) (A A' : Option Addr) (n n' c c' : Nat) (w : World) (h : DefAt w A n c a) (h' : DefAt w A' n' c' b) :
    Calls Tryz.prog 65 #[dV a A n c, dV b A' n' c'] w fun e w' => (∃ q : Bool, e = .returned (.bool q) ∧ (q = true ↔ a = b)) ∧ Below w.heap.size w w' := by
  have mixed : Tryz.prog.follows Departure.mixedOrders = true := by kernel_rfl
  have W1 := Lib.hid ((Whole.new w 32 #[.string a.n, .int .i64 a.r, .int .i64 a.dl, .slice A n c]).alloc (.cells #[.string b.n, .int .i64 b.r, .int .i64 b.dl, .slice A' n' c'] 32))
  have W2 := Lib.hid (Whole.new (w.alloc (.cells #[.string a.n, .int .i64 a.r, .int .i64 a.dl, .slice A n c] 32)) 32 #[.string b.n, .int .i64 b.r, .int .i64 b.dl, .slice A' n' c'])
  have HB := Lib.hid (((Below.refl w.heap.size w).alloc (Nat.le_refl _) (.cells #[.string a.n, .int .i64 a.r, .int .i64 a.dl, .slice A n c] 32)).alloc (by simp) (.cells #[.string b.n, .int .i64 b.r, .int .i64 b.dl, .slice A' n' c'] 32))
  have HD := Lib.hid (dv_eq (a := a) (b := b))
  have HL := Lib.hid (And.intro h.len h'.len)
  have hbig := h.big
  have HS := Lib.hid (And.intro (h.keep HB.out).s (h'.keep HB.out).s)
  clear h h'
  unfold dV
  cases h1 : (a.n.toList == b.n.toList) with
  | false =>
    have HE : Hid (a ≠ b) := Lib.hid (fun e => key_ne.1 h1 (HD.out.1 e).1)
    have g1 : (a.n.toList = b.n.toList) = False := by rw [beq_eq_false_iff_ne] at h1; simp [h1]
    go_enter Tryz.func65, Tryz.ntmps65
    go_wp2_with fail
    go_ret
    exact ⟨⟨false, rfl, by simp [HE.out]⟩, HB.out⟩
  | true =>
    have g1 : (a.n.toList = b.n.toList) = True := by rw [beq_iff_eq] at h1; simp [h1]
    cases h2 : (a.r == b.r) with
    | false =>
      have HE : Hid (a ≠ b) := Lib.hid (fun e => beq_eq_false_iff_ne.1 h2 (HD.out.1 e).2.1)
      have g2 : (a.r = b.r) = False := by rw [beq_eq_false_iff_ne] at h2; simp [h2]
      have g3 : (a.r != b.r) = true := by simp [bne, h2]
      go_enter Tryz.func65, Tryz.ntmps65
      go_wp2_with fail
      go_ret
      exact ⟨⟨false, rfl, by simp [HE.out]⟩, HB.out⟩
    | true =>
      have g2 : (a.r = b.r) = True := by rw [beq_iff_eq] at h2; simp [h2]
      have g3 : (a.r != b.r) = false := by simp [bne, h2]
      cases h3 : (a.dl == b.dl) with
      | false =>
        have HE : Hid (a ≠ b) := Lib.hid (fun e => beq_eq_false_iff_ne.1 h3 (HD.out.1 e).2.2.1)
        have g4 : (a.dl = b.dl) = False := by rw [beq_eq_false_iff_ne] at h3; simp [h3]
        have g5 : (a.dl != b.dl) = true := by simp [bne, h3]
        go_enter Tryz.func65, Tryz.ntmps65
        go_wp2_with fail
        go_ret
        exact ⟨⟨false, rfl, by simp [HE.out]⟩, HB.out⟩
      | true =>
        have g4 : (a.dl = b.dl) = True := by rw [beq_iff_eq] at h3; simp [h3]
        have g5 : (a.dl != b.dl) = false := by simp [bne, h3]
        have HE : Hid (a = b ↔ a.s = b.s) := Lib.hid (HD.out.trans ⟨fun h => h.2.2.2, fun h => ⟨key_eq.1 h1, beq_iff_eq.1 h2, beq_iff_eq.1 h3, h⟩⟩)
        by_cases hnn : n = n'
        · subst hnn
          have g6 : ((n : Int) != (n : Int)) = false := by simp
          go_enter Tryz.func65, Tryz.ntmps65
          go_upto_region 3 with fail
          clear g1 g2 g3 g4 g5 g6 h1 h2 h3
          generalize hw2 : (w.alloc (.cells #[.string a.n, .int .i64 a.r, .int .i64 a.dl, .slice A n c] 32)).alloc (.cells #[.string b.n, .int .i64 b.r, .int .i64 b.dl, .slice A' n c'] 32) = w2 at W1 W2 HB HS ⊢
          have hsz : w2.heap.size = w.heap.size + 2 := by rw [← hw2]; simp
          simp only [World.size_alloc] at W2
          clear hw2
          go_wp2_with fail
          go_loopw [5] (fun i wr => ∃ k : Nat, k ≤ n ∧ i = .int .i64 k ∧ Hid (Below w2.heap.size w2 wr ∧ SameK a.s b.s k)) (fun i _ => n - (intOf i).toNat)
          case atStart => exact ⟨0, by omega, rfl, Lib.hid ⟨Below.refl _ _, fun i p q h => absurd h (by omega)⟩⟩
          case round =>
            obtain ⟨k, hk, rfl, HI⟩ := hrel
            have BW := Lib.hid (HB.out.trans (HI.out.1.mono (by omega)))
            obtain ⟨x0, x1, x2, x3⟩ := def_cells (W1.out.keep HI.out.1)
            obtain ⟨v0, v1, v2, v3⟩ := def_cells (W2.out.keep HI.out.1)
            clear x0 x1 x2 v0 v1 v2
            by_cases hkn : k < n
            · obtain ⟨p, hp⟩ : ∃ p, a.s[k]? = some p := ⟨_, List.getElem?_eq_getElem (by rw [HL.out.1]; exact hkn)⟩
              obtain ⟨q, hq⟩ : ∃ q, b.s[k]? = some q := ⟨_, List.getElem?_eq_getElem (by rw [HL.out.2]; exact hkn)⟩
              obtain ⟨g, o, rfl, y0, y1⟩ := HS.out.1.keep HI.out.1 k p hp
              obtain ⟨g', o', rfl, z0, z1⟩ := HS.out.2.keep HI.out.1 k q hq
              have hne := fun W => stp_ne p q W
              have HP := Lib.hid (And.intro hp hq)
              have hk0 : (0 : Int) ≤ (k : Int) := by omega
              have hkn' : (k : Int) < (n : Int) := by omega
              have hwk : IntKind.i64.wrap ((k : Int) + 1) = (k : Int) + 1 := IntWalk.i64_in _ (by omega)
              clear hp hq
              cases he : eqS p q with
              | true =>
                rw [he] at hne
                have HK := Lib.hid (same_step HI.out.2 HP.out.1 HP.out.2 (eqS_iff.1 he))
                clear he
                go_upto_region 6 with fail
                go_quiet (fail)
                go_wp2_with fail
                go_roundw
                case rel => exact ⟨k + 1, by omega, by go_num, Lib.hid ⟨b_drewN HI.out.1 _, HK.out⟩⟩
                case measure => simp [intOf]; omega
              | false =>
                rw [he] at hne
                have HK : Hid (a.s ≠ b.s) := Lib.hid (fun e => by
                  rw [← e] at HP
                  have h1 := HP.out.1.symm.trans HP.out.2
                  cases h1
                  rw [eqS_iff.2 rfl] at he; cases he)
                clear he
                go_upto_region 6 with fail
                go_quiet (fail)
                go_wp2_with fail
                go_ret
                exact ⟨⟨false, rfl, by rw [HE.out]; simp [HK.out]⟩, b_drewN BW.out _⟩
            · obtain rfl : k = n := by omega
              have HA : Hid (a.s = b.s) := Lib.hid (same_all (HL.out.1.trans HL.out.2.symm) (by rw [HL.out.1]; exact HI.out.2))
              go_wp2_with fail
              go_ret
              exact ⟨⟨true, rfl, by rw [HE.out]; simp [HA.out]⟩, BW.out⟩
        · have g6 : ((n : Int) != (n' : Int)) = true := by rw [bne_iff_ne]; omega
          have g7 : ((n : Int) == (n' : Int)) = false := by rw [beq_eq_false_iff_ne]; omega
          have HN : Hid (a.s ≠ b.s) := Lib.hid (fun e => hnn (by rw [← HL.out.1, ← HL.out.2, e]))
          clear hnn
          go_enter Tryz.func65, Tryz.ntmps65
          go_wp2_with fail
          go_ret
          exact ⟨⟨false, rfl, by rw [HE.out]; simp [HN.out]⟩, HB.out⟩
end
end Go.Proofs.YtojodekmmkemgaaGreatDoor
