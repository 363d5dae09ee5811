/- Merged by program: PlCov, PlCov2, PlCov3, RngE, Cover, CoverAll, CoverAll2, CoverAll3, CoverSort, PlOnce, PtOnce. -/
import Derived.Test.YtkkkppbcjmeapaaDoorRtA
import Derived.Test.YtkkkppbcjmeapaaDoorWithout
import Derived.Test.YtkkkppbcjmeapaaDoorShelfG
import Derived.Shelf.SlSortCmp.WholeK
import Derived.Test.YtkkkppbcjmeapaaDoorRtB
import Derived.Test.YtkkkppbcjmeapaaDoorPtGho
namespace Go.Proofs.YtkkkppbcjmeapaaDoor
section

abbrev LR' := List UInt8 × List UInt8
/-- What Cover looks at, behind the sort. -/
def coverB : List UInt8 → List LR' → Bool
  | _, [] => true
  | at', p :: l => p.1 == at' && ((p.2 == []) == l.isEmpty && coverB p.2 l)
/-- Ranges one behind the other, cut at these ends. -/
def chainL : List UInt8 → List (List UInt8) → List LR'
  | at', [] => [(at', [])]
  | at', e :: es => (at', e) :: chainL e es
/-- Ends that ascend. -/
def Asc : List UInt8 → List (List UInt8) → Prop
  | _, [] => True
  | at', e :: es => Op.bytesLess at' e = true ∧ Asc e es
/-- Sorted, no beginning twice. -/
def Srt : List LR' → Prop
  | [] => True
  | p :: l => (∀ q ∈ l, Op.bytesLess p.1 q.1 = true) ∧ Srt l

theorem asc_lt : ∀ {at' : List UInt8} {es : List (List UInt8)}, Asc at' es → ∀ e ∈ es, Op.bytesLess at' e = true
  | _, _ :: _, h, e, he => by
    rcases List.mem_cons.1 he with rfl | he
    · exact h.1
    · exact bl_trans h.1 (asc_lt h.2 e he)
theorem chain_fst : ∀ {at' : List UInt8} {es : List (List UInt8)} {q : LR'}, q ∈ chainL at' es → q.1 = at' ∨ q.1 ∈ es
  | _, [], q, h => by
    rw [chainL, List.mem_singleton] at h
    rw [h]; exact Or.inl rfl
  | _, e :: es, q, h => by
    rw [chainL, List.mem_cons] at h
    rcases h with rfl | h
    · exact Or.inl rfl
    · rcases chain_fst h with h | h
      · exact Or.inr (by rw [h]; exact List.mem_cons_self ..)
      · exact Or.inr (List.mem_cons_of_mem _ h)
theorem chain_srt : ∀ {at' : List UInt8} {es : List (List UInt8)}, Asc at' es → Srt (chainL at' es)
  | _, [], _ => ⟨(fun _ h => by cases h), trivial⟩
  | at', e :: es, h => by
    refine ⟨fun q hq => ?_, chain_srt h.2⟩
    rcases chain_fst hq with h1 | h1
    · rw [h1]; exact h.1
    · exact bl_trans h.1 (asc_lt h.2 _ h1)
theorem lt_ne {x : List UInt8} {y : List UInt8} (h : Op.bytesLess x y = true) : y ≠ [] := fun e => by
  rw [e, bl_nil] at h; cases h
theorem chain_cover : ∀ {at' : List UInt8} {es : List (List UInt8)}, Asc at' es → coverB at' (chainL at' es) = true
  | _, [], _ => by simp [chainL, coverB]
  | at', e :: es, h => by
    rw [chainL, coverB, chain_cover h.2]
    have h1 : (e == ([] : List UInt8)) = false := beq_eq_false_iff_ne.2 (lt_ne h.1)
    have h2 : (chainL e es).isEmpty = false := by cases es <;> rfl
    simp [h1, h2]
/-- Two lists that are sorted, and have the same ranges, are one. -/
theorem srt_eq : ∀ {l m : List LR'}, Srt l → Srt m → l.Perm m → l = m
  | [], _, _, _, hp => (List.nil_perm.1 hp).symm ▸ rfl
  | p :: l, [], _, _, hp => by cases List.perm_nil.1 hp
  | p :: l, q :: m, h1, h2, hp => by
    have e : p = q := by
      have hpm : p ∈ q :: m := hp.subset (List.mem_cons_self ..)
      have hqm : q ∈ p :: l := hp.symm.subset (List.mem_cons_self ..)
      rcases List.mem_cons.1 hpm with h | h
      · exact h
      · rcases List.mem_cons.1 hqm with h' | h'
        · exact h'.symm
        · have a := h1.1 q h'
          have b := h2.1 p h
          have := bl_trans a b
          rw [bl_irr] at this
          cases this
    subst e
    rw [srt_eq h1.2 h2.2 (List.Perm.cons_inv hp)]
theorem srt_erase : ∀ {l : List LR'} (q : LR'), Srt l → Srt (l.erase q)
  | [], _, _ => trivial
  | p :: l, q, h => by
    rw [List.erase_cons]
    split
    · exact h.2
    · exact ⟨fun x hx => h.1 x (List.mem_of_mem_erase hx), srt_erase q h.2⟩
/-- Without one of them they are no cover. -/
theorem chain_erase : ∀ {at' : List UInt8} {es : List (List UInt8)} {q : LR'}, Asc at' es → q ∈ chainL at' es → (decide (((chainL at' es).erase q).length > 0) && coverB at' ((chainL at' es).erase q)) = false
  | at', [], q, _, hq => by
    rw [chainL, List.mem_singleton] at hq
    subst hq
    simp [chainL]
  | at', e :: es, q, h, hq => by
    rw [chainL, List.mem_cons] at hq
    rw [chainL, List.erase_cons]
    split
    · rename_i hc
      have h3 : ∃ t l, chainL e es = (e, t) :: l := by cases es <;> exact ⟨_, _, rfl⟩
      obtain ⟨t, l, h3⟩ := h3
      rw [h3, coverB]
      have h4 : ((e, t).1 == at') = false := beq_eq_false_iff_ne.2 (fun h5 => by have := h.1; rw [show e = at' from h5, bl_irr] at this; cases this)
      rw [h4]; simp
    · rename_i hc
      have hq' : q ∈ chainL e es := by
        rcases hq with rfl | hq
        · exact absurd (by simp) hc
        · exact hq
      have ih := chain_erase h.2 hq'
      have h1 : (e == ([] : List UInt8)) = false := beq_eq_false_iff_ne.2 (lt_ne h.1)
      rw [coverB]
      cases hE : (chainL e es).erase q with
      | nil => simp [h1]
      | cons x y =>
        rw [hE] at ih
        simp only [List.length_cons, gt_iff_lt, Nat.zero_lt_succ, decide_true, Bool.true_and] at ih
        simp [h1, ih]
end
section

theorem okS_nil' : okS ⟨([] : List UInt8).toArray⟩ = true := by unfold okS; rw [ByteArray.toList_mk]; rfl
theorem okR_chain {a e : List UInt8} (h1 : okS ⟨a.toArray⟩ = true) (h2 : okS ⟨e.toArray⟩ = true) (h : e = [] ∨ Op.bytesLess a e = true) : okR ⟨a.toArray⟩ ⟨e.toArray⟩ = true := by
  unfold okR
  rw [h1, h2, ByteArray.toList_mk, ByteArray.toList_mk]
  rcases h with rfl | h
  · rfl
  · rw [h]; simp
theorem okS_name {e : List UInt8} (h : isName e = true) : okS ⟨e.toArray⟩ = true := by
  unfold okS
  show ((⟨e.toArray⟩ : ByteArray).toList == ([] : List UInt8) || isName e) = true
  rw [h]; simp
theorem name_ne {k : ByteArray} (h : isName k.data.toList = true) : (k.toList == ([] : List UInt8)) = false := by
  rw [beq_eq_false_iff_ne, ByteArray.toList_eq]
  intro e
  rw [e] at h
  cases h
theorem hasR_mid {a e : List UInt8} {k : ByteArray} (hok : okR ⟨a.toArray⟩ ⟨e.toArray⟩ = true) (he : e ≠ []) : hasR ⟨a.toArray⟩ ⟨e.toArray⟩ k = (isName k.data.toList && (!Op.bytesLess k.toList a && Op.bytesLess k.toList e)) := by
  unfold hasR endLt
  rw [hok, ByteArray.toList_mk a, ByteArray.toList_mk e, Bool.true_and]
  cases hn : isName k.data.toList with
  | false => rfl
  | true =>
    rw [name_ne hn, beq_eq_false_iff_ne.2 he]
    cases hl : Op.bytesLess k.toList e with
    | false => simp
    | true =>
      have hne : (k.toList == e) = false := beq_eq_false_iff_ne.2 (fun h => by rw [h, bl_irr] at hl; cases hl)
      rw [hne]
      rfl
theorem hasR_last {a : List UInt8} {k : ByteArray} (hok : okR ⟨a.toArray⟩ ⟨([] : List UInt8).toArray⟩ = true) : hasR ⟨a.toArray⟩ ⟨([] : List UInt8).toArray⟩ k = (isName k.data.toList && !Op.bytesLess k.toList a) := by
  unfold hasR endLt
  rw [hok, ByteArray.toList_mk a, ByteArray.toList_mk ([] : List UInt8), Bool.true_and]
  cases hn : isName k.data.toList with
  | false => rfl
  | true =>
    rw [name_ne hn]
    simp
theorem chain_count : ∀ {a : List UInt8} {es : List (List UInt8)} (k : ByteArray), Asc a es → okS ⟨a.toArray⟩ = true → (∀ e ∈ es, isName e = true) →
    ((chainL a es).filter fun p => hasR ⟨p.1.toArray⟩ ⟨p.2.toArray⟩ k).length = if (isName k.data.toList && !Op.bytesLess k.toList a) = true then 1 else 0
  | a, [], k, _, ha, _ => by
    have h := hasR_last (k := k) (okR_chain ha okS_nil' (Or.inl rfl))
    unfold chainL
    rw [List.filter_cons, h]
    split <;> simp
  | a, e :: es, k, h, ha, hn => by
    have hne := lt_ne h.1
    have hoe := okS_name (hn e (List.mem_cons_self ..))
    have h1 := hasR_mid (k := k) (okR_chain ha hoe (Or.inr h.1)) hne
    have ih := chain_count k h.2 hoe (fun x hx => hn x (List.mem_cons_of_mem _ hx))
    unfold chainL
    rw [List.filter_cons, h1]
    cases hN : isName k.data.toList with
    | false =>
      rw [hN] at ih
      simpa using ih
    | true =>
      rw [hN] at ih
      cases hl : Op.bytesLess k.toList e with
      | true =>
        rw [hl] at ih
        cases hb : Op.bytesLess k.toList a <;> simp_all
      | false =>
        have hb : Op.bytesLess k.toList a = false := by
          cases hb : Op.bytesLess k.toList a with
          | false => rfl
          | true => rw [bl_trans hb h.1] at hl; cases hl
        rw [hl] at ih
        rw [hb]
        simpa using ih
end
section

/-- The ranges ahead of the last one. -/
def pfx : List UInt8 → List (List UInt8) → List LR'
  | _, [] => []
  | a, e :: es => (a, e) :: pfx e es
def lastE : List UInt8 → List (List UInt8) → List UInt8
  | a, [] => a
  | _, e :: es => lastE e es
theorem chain_pfx : ∀ (a : List UInt8) (es : List (List UInt8)), chainL a es = pfx a es ++ [(lastE a es, [])]
  | _, [] => rfl
  | a, e :: es => by
    rw [chainL, pfx, lastE, chain_pfx e es]
    rfl
theorem pfx_snoc : ∀ (a : List UInt8) (es : List (List UInt8)) (e : List UInt8), pfx a (es ++ [e]) = pfx a es ++ [(lastE a es, e)]
  | _, [], _ => rfl
  | a, x :: es, e => by
    rw [List.cons_append, pfx, pfx, lastE, pfx_snoc x es e]
    rfl
theorem lastE_snoc : ∀ (a : List UInt8) (es : List (List UInt8)) (e : List UInt8), lastE a (es ++ [e]) = e
  | _, [], _ => rfl
  | a, x :: es, e => by
    rw [List.cons_append, lastE, lastE_snoc x es e]
theorem asc_snoc : ∀ {a : List UInt8} {es : List (List UInt8)} {e : List UInt8}, Asc a es → Op.bytesLess (lastE a es) e = true → Asc a (es ++ [e])
  | _, [], _, _, h => ⟨h, trivial⟩
  | _, _ :: _, _, h, h2 => ⟨h.1, asc_snoc h.2 h2⟩
theorem pfx_len : ∀ (a : List UInt8) (es : List (List UInt8)), (pfx a es).length = es.length
  | _, [] => rfl
  | a, x :: es => by rw [pfx, List.length_cons, List.length_cons, pfx_len x es]
theorem lastE_ok (a : List UInt8) (es : List (List UInt8)) (h0 : okS ⟨a.toArray⟩ = true) (h : ∀ e ∈ es, isName e = true) : okS ⟨(lastE a es).toArray⟩ = true := by
  induction es generalizing a with
  | nil => exact h0
  | cons x es ih =>
    rw [lastE]
    exact ih x (okS_name (h x (List.mem_cons_self ..))) (fun e he => h e (List.mem_cons_of_mem _ he))
/-- An end that goes on behind the last one. -/
theorem next_end {a e : List UInt8} (h : okR ⟨a.toArray⟩ ⟨e.toArray⟩ = true) (he : e ≠ []) : isName e = true ∧ Op.bytesLess a e = true := by
  unfold okR okS at h
  rw [ByteArray.toList_mk a, ByteArray.toList_mk e, beq_eq_false_iff_ne.2 he] at h
  simp only [Bool.false_or, Bool.and_eq_true] at h
  exact ⟨h.2.1, h.2.2⟩
/-- All ranges of a chain are allowed. -/
theorem chain_ok : ∀ {a : List UInt8} {es : List (List UInt8)}, Asc a es → okS ⟨a.toArray⟩ = true → (∀ e ∈ es, isName e = true) → ∀ p ∈ chainL a es, okR ⟨p.1.toArray⟩ ⟨p.2.toArray⟩ = true
  | a, [], _, ha, _, p, hp => by
    rw [chainL, List.mem_singleton] at hp
    rw [hp]
    exact okR_chain ha okS_nil' (Or.inl rfl)
  | a, e :: es, h, ha, hn, p, hp => by
    have hoe := okS_name (hn e (List.mem_cons_self ..))
    rw [chainL, List.mem_cons] at hp
    rcases hp with rfl | hp
    · exact okR_chain ha hoe (Or.inr h.1)
    · exact chain_ok h.2 hoe (fun x hx => hn x (List.mem_cons_of_mem _ hx)) p hp
end
section
open Go.RowKit

theorem rng_eq (a b c d : ByteArray) (W : World) : (binOp .eql 30 (.agg #[.string a, .string b]) (.agg #[.string c, .string d])).run Tryd.prog W = .ok (.bool (a.toList == c.toList && b.toList == d.toList)) W := by
  cases h1 : (a.toList == c.toList) <;> cases h2 : (b.toList == d.toList) <;> go_simp
theorem rng_ne (a b c d : ByteArray) (W : World) : (binOp .neq 30 (.agg #[.string a, .string b]) (.agg #[.string c, .string d])).run Tryd.prog W = .ok (.bool (!(a.toList == c.toList && b.toList == d.toList))) W := by
  cases h1 : (a.toList == c.toList) <;> cases h2 : (b.toList == d.toList) <;> go_simp
end
section
open Go.RowKit Go.Sort

abbrev LR := List UInt8 × List UInt8
def encR (p : LR) : List Value := [.string ⟨p.1.toArray⟩, .string ⟨p.2.toArray⟩]
def cmpL (x y : List UInt8) : Int := if Op.bytesLess x y then -1 else if x == y then 0 else 1
theorem cmpS_mk (x y : List UInt8) : cmpS ⟨x.toArray⟩ ⟨y.toArray⟩ = cmpL x y := by
  unfold cmpS cmpL
  rw [ByteArray.toList_mk, ByteArray.toList_mk]
def cfR (x y : LR) : Int := cmpL x.1 y.1

set_option maxHeartbeats 1000000 in
theorem coverFn (x y : LR) (W : World) : Calls Tryd.prog 64 #[.agg #[.string ⟨x.1.toArray⟩, .string ⟨x.2.toArray⟩], .agg #[.string ⟨y.1.toArray⟩, .string ⟨y.2.toArray⟩]] W fun e w' => e = .returned (.int .i64 (cfR x y)) ∧ ∃ q os', w' = grow (W.drewN q) os' := by
  have hcon := fun W' => compare_any ⟨x.1.toArray⟩ ⟨y.1.toArray⟩ W'
  rw [cmpS_mk, show cmpL x.1 y.1 = cfR x y from rfl] at hcon
  generalize cfR x y = r at hcon ⊢
  go_enter Tryd.func64, Tryd.ntmps64
  go_wp2_with (go_at_call 65; refine (hcon _).mono ?_; rintro e w' ⟨rfl, rfl⟩)
  go_ret
  exact ⟨rfl, 0, _, by rw [alloc_eq_grow, alloc_eq_grow, grow_grow]; rfl⟩
theorem hlen (n : Nat) (W : World) (h : n ≤ 12) : Calls Tryd.prog 81 #[.int .u64 n] W fun e w' => (∃ l : Int, e = .returned (.int .i64 l)) ∧ w' = W :=
  (Any.bits_Len Tryd.bitsLen n W (by omega) (by omega)).mono fun _ _ ⟨he, hw⟩ => ⟨⟨_, he⟩, hw⟩

theorem below_sort {enc : LR → List Value} {w : World} {blk off m k : Nat} {dk : Array LR} {os : Array Obj} (hg : blk < w.heap.size) : Below blk w (sortWorldK enc k w blk off m dk os) := by
  refine ⟨rfl, rfl, rfl, size_sortWorldK_c _ _ _ _ _ _ _ _, fun j hj => ?_⟩
  show ((mapBlock (Sort.ahead w m) blk _).heap ++ os)[j]? = w.heap[j]?
  rw [Array.getElem?_append_left (by show j < (w.heap.modify blk _).size; rw [Array.size_modify]; omega)]
  show (w.heap.modify blk _)[j]? = _
  rw [Array.getElem?_modify, if_neg (by omega)]
theorem sort_any (g cap : Nat) (d : Array LR) (w : World) (hH : HoldsK encR 2 w g 0 d) (hg : g < w.heap.size) (h12 : d.size ≤ 12) :
    Calls Tryd.prog 63 #[.slice (some ⟨g, 0, none⟩) d.size cap, .func (.func 64) #[] #[]] w fun e w' => e = .returned (.tuple #[]) ∧ ∃ n os, w' = sortWorldK encR 2 w g 0 n (insertionSort (ltOf cfR) d 0 d.size) os := by
  have eg : ∀ args w, (callFunc 64 args).run Tryd.prog w = .ok (.enter 64 args) w := enters_of Tryd.func64 (by kernel_rfl) rfl
  exact AnyQ.slices_SortFunc_small Tryd.sortR 2 Tryd.isAgg30 Tryd.sizeOf30 encR (fun _ => rfl) (fun x v hv => by simp [encR] at hv; rcases hv with rfl | rfl <;> rfl) cfR 64 #[] g 0 cap d w eg (fun _ _ _ _ x y => coverFn x y _) hH hg h12 hlen
theorem clone_rngs (b n cap : Nat) (news : List Value) (w : World) (hl : news.length = n * 2) (hn : n ≤ 1000) (hc : ∀ j u, news[j]? = some u → w.cell? ⟨b, j, none⟩ = some u) (h1 : ∀ u ∈ news, u.oneCell' = true) :
    Calls Tryd.prog 37 #[.slice (some ⟨b, 0, none⟩) n cap] w fun e w' => ∃ v', e = .returned v' ∧ w'.ownsRow w.heap.size 30 2 v' n news ∧ v' ≠ .slice none 0 0 ∧ Below w.heap.size w w' := by
  obtain ⟨i0, hi, hz0, hz1, hz2⟩ := info_parts infoR
  exact AnyE.slices_Clone Tryd.cloneR i0 (.agg #[.string ⟨#[]⟩, .string ⟨#[]⟩]) 2 32 hi hz0 hz1 hz2 rfl (by decide) Tryd.sizeOf30 b 0 n cap news w hl (by unfold maxLen; omega) (by omega) (fun j u h => by rw [Nat.zero_add]; exact hc j u h) h1

def cov0 : List (ByteArray × ByteArray) := [(⟨#[109]⟩, ⟨#[]⟩), (⟨#[]⟩, ⟨#[99]⟩), (⟨#[99]⟩, ⟨#[109]⟩)]
def covD : Array LR := #[([109], []), ([], [99]), ([99], [109])]
theorem cov_sorted : insertionSort (ltOf cfR) covD 0 covD.size = #[([], [99]), ([99], [109]), ([109], [])] := by decide +kernel
theorem cov_ok : cov0.all okP = true := by
  unfold cov0
  simp only [List.all_cons, List.all_nil, okP, okR, okS, ByteArray.toList_eq]
  decide
def Cov (w : World) (g : Nat) : Prop := w.cell? ⟨g, 0, none⟩ = some (.string ⟨#[]⟩) ∧ w.cell? ⟨g, 1, none⟩ = some (.string ⟨#[99]⟩) ∧ w.cell? ⟨g, 2, none⟩ = some (.string ⟨#[99]⟩) ∧ w.cell? ⟨g, 3, none⟩ = some (.string ⟨#[109]⟩) ∧ w.cell? ⟨g, 4, none⟩ = some (.string ⟨#[109]⟩) ∧ w.cell? ⟨g, 5, none⟩ = some (.string ⟨#[]⟩)
theorem Cov.alloc {w : World} {g : Nat} (h : Cov w g) (hg : g < w.heap.size) (o : Obj) : Cov (w.alloc o) g := by
  obtain ⟨h0, h1, h2, h3, h4, h5⟩ := h
  have hb := (Below.refl w.heap.size w).alloc (Nat.le_refl _) o
  exact ⟨(hb.cell hg).trans h0, (hb.cell hg).trans h1, (hb.cell hg).trans h2, (hb.cell hg).trans h3, (hb.cell hg).trans h4, (hb.cell hg).trans h5⟩
theorem ne_self (a b : ByteArray) (W : World) : (binOp .neq 30 (.agg #[.string a, .string b]) (.agg #[.string a, .string b])).run Tryd.prog W = .ok (.bool false) W := by
  rw [rng_ne]; simp

set_option maxRecDepth 100000 in
set_option maxHeartbeats 4000000 in
theorem w_cover (b : Nat) (w : World) (hc : CellsR w b 0 cov0) :
    Calls Tryd.prog 40 #[.slice (some ⟨b, 0, none⟩) 3 3] w fun e w' => e = .returned (.tuple #[.bool true, .int .i64 0]) ∧ Below w.heap.size w w' := by
  have E := ends_any b 0 3 3 cov0 w rfl (by decide) hc (fun p hp => by unfold cov0 at hp; simp at hp; rcases hp with rfl | rfl | rfl <;> exact ⟨by decide, by decide⟩)
  rw [cov_ok] at E
  simp only [fnV, ckI] at E
  have HC := Lib.hid hc
  have N1 := fun a b W => ne_self a b W
  clear hc
  go_enter Tryd.func40, Tryd.ntmps40
  go_wp2_with fail
  refine E.mono ?_
  rintro e w1 ⟨rfl, hb⟩
  have c1 : CellsR w1 b 0 cov0 := HC.out.below hb (Nat.le_refl _)
  have C := clone_rngs b 3 3 [.string ⟨#[109]⟩, .string ⟨#[]⟩, .string ⟨#[]⟩, .string ⟨#[99]⟩, .string ⟨#[99]⟩, .string ⟨#[109]⟩] w1 rfl (by decide) (fun j u hj => by
    match j with
    | 0 => cases hj; exact (c1 0 _ rfl).1
    | 1 => cases hj; exact (c1 0 _ rfl).2
    | 2 => cases hj; exact (c1 1 _ rfl).1
    | 3 => cases hj; exact (c1 1 _ rfl).2
    | 4 => cases hj; exact (c1 2 _ rfl).1
    | 5 => cases hj; exact (c1 2 _ rfl).2
    | j + 6 => cases hj) (fun u hu => by simp at hu; rcases hu with rfl | rfl | rfl | rfl | rfl | rfl <;> rfl)
  clear c1 HC E
  go_wp2_with fail
  refine C.mono ?_
  rintro e w2 ⟨v, rfl, ho, hnil, hb2⟩
  have hbs := hb.size
  obtain ⟨_, ⟨rfl, h⟩ | ⟨g, cap, cur, rfl, hg, _⟩⟩ := id ho
  · cases h
  have hgs : g < w2.heap.size := lt_of_cellR (ho.cellAt 0 (by decide) : w2.cell? ⟨g, 0, none⟩ = some _)
  have hH : HoldsK encR 2 w2 g 0 covD := fun j hj => by
    have h6 : j < 3 * 2 := by simpa [flatK, covD] using hj
    rw [Nat.zero_add]
    refine ⟨?_, ho.frozenAt j⟩
    rw [ho.cellAt j h6, show (flatK encR 2 covD)[j]! = (encR covD[j / 2]!)[j % 2]! from get_flatK _ _ _ j h6]
    match j, h6 with
    | 0, _ => rfl
    | 1, _ => rfl
    | 2, _ => rfl
    | 3, _ => rfl
    | 4, _ => rfl
    | 5, _ => rfl
  have S := sort_any g cap covD w2 hH hgs (by decide)
  rw [cov_sorted, show covD.size = 3 from rfl] at S
  have b2 := hb.trans (hb2.mono hb.size)
  clear C ho hnil hb hb2
  go_wp2_with fail
  refine S.mono ?_
  rintro e w3 ⟨rfl, nn, os, rfl⟩
  have hb3 := below_sort (enc := encR) (k := 2) (off := 0) (m := nn) (dk := #[([], [99]), ([99], [109]), ([109], [])]) (os := os) hgs
  have hH3 := holdsK_sortWorldK_c encR 2 w2 g 0 covD #[([], [99]), ([99], [109]), ([109], [])] nn os hH hgs rfl
  generalize sortWorldK encR 2 w2 g 0 nn #[([], [99]), ([99], [109]), ([109], [])] os = w3 at hb3 hH3 ⊢
  have k3 : Cov w3 g := ⟨(hH3.cell (i := 0) (c := 0) (by decide) (by decide)).1, (hH3.cell (i := 0) (c := 1) (by decide) (by decide)).1, (hH3.cell (i := 1) (c := 0) (by decide) (by decide)).1, (hH3.cell (i := 1) (c := 1) (by decide) (by decide)).1, (hH3.cell (i := 2) (c := 0) (by decide) (by decide)).1, (hH3.cell (i := 2) (c := 1) (by decide) (by decide)).1⟩
  have hg3 : g < w3.heap.size := Nat.lt_of_lt_of_le hgs hb3.size
  have b3 : Below w.heap.size w w3 := b2.trans (hb3.mono (by omega))
  clear hb3 hH3 S hH hgs b2
  go_wp2_with fail
  go_loopw [26, 6] (fun v at' wr => Below w.heap.size w wr ∧ Cov wr g ∧ g < wr.heap.size ∧ ((v = .int .i64 0 ∧ at' = .string ⟨#[]⟩) ∨ (v = .int .i64 1 ∧ at' = .string ⟨#[99]⟩) ∨ (v = .int .i64 2 ∧ at' = .string ⟨#[109]⟩) ∨ (v = .int .i64 3 ∧ at' = .string ⟨#[]⟩))) (fun v _ _ => (3 - intOf v).toNat)
  case atStart => exact ⟨b3, k3, hg3, Or.inl ⟨rfl, rfl⟩⟩
  case round =>
    clear b3 k3 hg3
    obtain ⟨b4, k4, hg4, hrel⟩ := hrel
    rcases hrel with ⟨rfl, rfl⟩ | ⟨rfl, rfl⟩ | ⟨rfl, rfl⟩ | ⟨rfl, rfl⟩
    · have x0 := k4.1
      have x1 := k4.2.1
      have bn := b4.alloc b4.size (.cells #[.string ⟨#[]⟩, .string ⟨#[99]⟩] 30)
      have kn := k4.alloc hg4 (.cells #[.string ⟨#[]⟩, .string ⟨#[99]⟩] 30)
      have N := N1 ⟨#[]⟩ ⟨#[99]⟩
      have hgn := hg4
      clear b4 k4
      go_wp2_with fail
      go_roundw
      case rel => exact ⟨bn, kn, by simp; omega, Or.inr (Or.inl ⟨rfl, rfl⟩)⟩
      case measure => simp [intOf]
    · have x0 := k4.2.2.1
      have x1 := k4.2.2.2.1
      have bn := b4.alloc b4.size (.cells #[.string ⟨#[99]⟩, .string ⟨#[109]⟩] 30)
      have kn := k4.alloc hg4 (.cells #[.string ⟨#[99]⟩, .string ⟨#[109]⟩] 30)
      have N := N1 ⟨#[99]⟩ ⟨#[109]⟩
      have hgn := hg4
      clear b4 k4
      go_wp2_with fail
      go_roundw
      case rel => exact ⟨bn, kn, by simp; omega, Or.inr (Or.inr (Or.inl ⟨rfl, rfl⟩))⟩
      case measure => simp [intOf]
    · have x0 := k4.2.2.2.2.1
      have x1 := k4.2.2.2.2.2
      have bn := b4.alloc b4.size (.cells #[.string ⟨#[109]⟩, .string ⟨#[]⟩] 30)
      have kn := k4.alloc hg4 (.cells #[.string ⟨#[109]⟩, .string ⟨#[]⟩] 30)
      have N := N1 ⟨#[109]⟩ ⟨#[]⟩
      have hgn := hg4
      clear b4 k4
      go_wp2_with fail
      go_roundw
      case rel => exact ⟨bn, kn, by simp; omega, Or.inr (Or.inr (Or.inr ⟨rfl, rfl⟩))⟩
      case measure => simp [intOf]
    · go_wp2_with fail
      go_ret2
      exact ⟨rfl, b4⟩
end
section
open Go.RowKit Go.Sort

theorem ltOf_eq (x y : LR) : ltOf cfR x y = Op.bytesLess x.1 y.1 := by
  unfold ltOf cfR cmpL
  cases h1 : Op.bytesLess x.1 y.1 <;> cases h2 : (x.1 == y.1) <;> decide
theorem swoR : SWO (ltOf cfR) where
  irrefl x := by rw [ltOf_eq]; exact bl_irr _
  trans x y z h1 h2 := by rw [ltOf_eq] at *; exact bl_trans h1 h2
  ntrans x y z h1 h2 := by
    rw [ltOf_eq] at *
    cases h : Op.bytesLess x.1 z.1 with
    | false => rfl
    | true =>
      cases h3 : Op.bytesLess y.1 x.1 with
      | true => rw [bl_trans h3 h] at h2; cases h2
      | false => rw [bl_tot h1 h3, h2] at h; cases h
theorem srt_lt : ∀ {s : List LR}, Srt s → ∀ {x y : LR}, x ∈ s → y ∈ s → x ≠ y → Op.bytesLess x.1 y.1 = true ∨ Op.bytesLess y.1 x.1 = true
  | p :: l, h, x, y, hx, hy, hne => by
    rcases List.mem_cons.1 hx with ex | hx' <;> rcases List.mem_cons.1 hy with ey | hy'
    · exact absurd (ex.trans ey.symm) hne
    · exact Or.inl (ex ▸ h.1 _ hy')
    · exact Or.inr (ey ▸ h.1 _ hx')
    · exact srt_lt h.2 hx' hy' hne
theorem srt_nodup : ∀ {s : List LR}, Srt s → s.Nodup
  | [], _ => List.nodup_nil
  | p :: l, h => by
    rw [List.nodup_cons]
    refine ⟨fun hm => ?_, srt_nodup h.2⟩
    have := h.1 p hm
    rw [bl_irr] at this
    cases this
theorem srt_of : ∀ {l : List LR}, l.Nodup → (∀ x ∈ l, ∀ y ∈ l, x ≠ y → Op.bytesLess x.1 y.1 = true ∨ Op.bytesLess y.1 x.1 = true) → l.Pairwise (fun x y => Op.bytesLess y.1 x.1 = false) → Srt l
  | [], _, _, _ => trivial
  | p :: l, hn, ht, hw => by
    rw [List.nodup_cons] at hn
    rw [List.pairwise_cons] at hw
    refine ⟨fun q hq => ?_, srt_of hn.2 (fun x hx y hy => ht x (List.mem_cons_of_mem _ hx) y (List.mem_cons_of_mem _ hy)) hw.2⟩
    rcases ht p (List.mem_cons_self ..) q (List.mem_cons_of_mem _ hq) (fun e => hn.1 (e ▸ hq)) with h | h
    · exact h
    · rw [hw.1 q hq] at h; cases h
/-- What the sort lays is the list that is sorted. -/
theorem sorted_is {s : List LR} {d d' : Array LR} (hs : Srt s) (hp : s.Perm d.toList) (h1 : PermIn 0 d.size d d') (h2 : SortedIn (ltOf cfR) 0 d.size d') : d'.toList = s := by
  obtain ⟨hsz, _, hpm⟩ := h1
  have e1 : (d'.extract 0 d.size).toList = d'.toList := by rw [← hsz]; simp
  have e2 : (d.extract 0 d.size).toList = d.toList := by simp
  rw [e1, e2] at hpm
  have hpp : d'.toList.Perm s := hpm.trans hp.symm
  refine srt_eq (srt_of (hpp.nodup_iff.2 (srt_nodup hs)) (fun x hx y hy => srt_lt hs (hpp.subset hx) (hpp.subset hy)) ?_) hs hpp
  rw [List.pairwise_iff_getElem]
  intro i j hi hj hij
  have hj' : j < d'.size := by simpa using hj
  have hi' : i < d'.size := by simpa using hi
  have h := h2 i j (Nat.zero_le _) hij (by omega)
  rw [ltOf_eq, getElem!_pos d' j hj', getElem!_pos d' i hi'] at h
  simpa using h
theorem clone_all (b o n cap : Nat) (news : List Value) (w : World) (hl : news.length = n * 2) (hn : n ≤ 1000) (hc : ∀ j u, news[j]? = some u → w.cell? ⟨b, o + j, none⟩ = some u) (h1 : ∀ u ∈ news, u.oneCell' = true) :
    Calls Tryd.prog 37 #[.slice (some ⟨b, o, none⟩) n cap] w fun e w' => ∃ v', e = .returned v' ∧ w'.ownsRow w.heap.size 30 2 v' n news ∧ v' ≠ .slice none 0 0 ∧ Below w.heap.size w w' := by
  obtain ⟨i0, hi, hz0, hz1, hz2⟩ := info_parts infoR
  exact AnyE.slices_Clone Tryd.cloneR i0 (.agg #[.string ⟨#[]⟩, .string ⟨#[]⟩]) 2 32 hi hz0 hz1 hz2 rfl (by decide) Tryd.sizeOf30 b o n cap news w hl (by unfold maxLen; omega) (by omega) hc h1

/-- A list's cells. -/
def flatR (d : List LR) : List Value := d.flatMap encR
theorem flatR_len : ∀ d : List LR, (flatR d).length = d.length * 2
  | [] => rfl
  | p :: d => by
    show (encR p ++ flatR d).length = _
    rw [List.length_append, flatR_len d]
    simp [encR]; omega
theorem flatR_get : ∀ (d : List LR) (j : Nat) (_ : j < d.length * 2), (flatR d)[j]? = some ((encR (d.toArray[j / 2]!))[j % 2]!)
  | [], j, h => absurd h (by simp)
  | p :: d, 0, _ => by simp [flatR, encR]
  | p :: d, 1, _ => by simp [flatR, encR]
  | p :: d, j + 2, h => by
    have ih := flatR_get d j (by simp at h; omega)
    show (encR p ++ flatR d)[j + 2]? = _
    rw [show encR p = [.string ⟨p.1.toArray⟩, .string ⟨p.2.toArray⟩] from rfl]
    show (flatR d)[j]? = _
    rw [ih, show (j + 2) / 2 = j / 2 + 1 by omega, show (j + 2) % 2 = j % 2 by omega]
    have h1 : j / 2 < d.length := by simp at h; omega
    rw [getElem!_pos d.toArray (j / 2) (by simpa using h1), getElem!_pos (p :: d).toArray (j / 2 + 1) (by simp; omega)]
    simp
end
section
open Go.RowKit Go.Sort

def toBA (p : LR) : ByteArray × ByteArray := (⟨p.1.toArray⟩, ⟨p.2.toArray⟩)
theorem half_lt {j n : Nat} (h : j < n * 2) : j / 2 < n := by omega
theorem cells_flat {w : World} {b o : Nat} {d : List LR} (h : CellsR w b o (d.map toBA)) : ∀ j u, (flatR d)[j]? = some u → w.cell? ⟨b, o + j, none⟩ = some u := fun j u hj => by
  have hlt : j < d.length * 2 := by
    have := (List.getElem?_eq_some_iff.1 hj).1
    rw [flatR_len] at this
    exact this
  rw [flatR_get d j hlt] at hj
  have hi := half_lt hlt
  obtain ⟨h0, h1⟩ := h (j / 2) (toBA d[j / 2]) (by rw [List.getElem?_map, List.getElem?_eq_getElem hi]; rfl)
  rw [getElem!_pos d.toArray (j / 2) (by simpa using hi)] at hj
  have e1 : d.toArray[j / 2]'(by simpa using hi) = d[j / 2] := by simp
  rw [e1] at hj
  rw [← hj]
  rcases Nat.mod_two_eq_zero_or_one j with e | e
  · rw [e, show o + j = o + j / 2 * 2 by omega]
    exact h0
  · rw [e, show o + j = o + j / 2 * 2 + 1 by omega]
    exact h1
theorem cells_of_holds {w : World} {g : Nat} {d' : Array LR} {s : List LR} (h : HoldsK encR 2 w g 0 d') (hs : d'.toList = s) : CellsR w g 0 (s.map toBA) := fun i p hi => by
  subst hs
  rw [List.getElem?_map] at hi
  obtain ⟨q, hq, rfl⟩ := Option.map_eq_some_iff.1 hi
  obtain ⟨hlt, he⟩ := List.getElem?_eq_some_iff.1 hq
  have hlt' : i < d'.size := by simpa using hlt
  have h0 := (h.cell (i := i) (c := 0) hlt' (by decide)).1
  have h1 := (h.cell (i := i) (c := 1) hlt' (by decide)).1
  rw [getElem!_pos d' i hlt'] at h0 h1
  have e1 : d'[i] = q := by rw [← he]; simp
  rw [e1] at h0 h1
  exact ⟨by rw [show 0 + i * 2 = 0 + i * 2 + 0 by omega]; exact h0, h1⟩
end
section
open Go.RowKit Go.Sort

def SortAll : Prop := ∀ (g cap : Nat) (d : Array LR) (w : World), HoldsK encR 2 w g 0 d → g < w.heap.size → d.size ≤ 64 →
    Calls Tryd.prog 63 #[.slice (some ⟨g, 0, none⟩) d.size cap, .func (.func 64) #[] #[]] w fun e w' => e = .returned (.tuple #[]) ∧ ∃ d' n os, PermIn 0 d.size d d' ∧ SortedIn (ltOf cfR) 0 d.size d' ∧ w' = sortWorldK encR 2 w g 0 n d' os

theorem holds_of_own {w : World} {B g cap n : Nat} {d : List LR} (h : w.ownsRow B 30 2 (.slice (some ⟨g, 0, none⟩) n cap) n (flatR d)) (hn : d.length = n) : HoldsK encR 2 w g 0 d.toArray := fun j hj => by
  have h2 : j < d.toArray.size * 2 := by simpa [flatK] using hj
  have h3 : j < d.length * 2 := by simpa using h2
  rw [Nat.zero_add]
  refine ⟨?_, h.frozenAt j⟩
  rw [h.cellAt j (by omega), flatR_get d j h3, show (flatK encR 2 d.toArray)[j]! = (encR d.toArray[j / 2]!)[j % 2]! from get_flatK _ _ _ j h2]
  rfl
theorem flatR_one (d : List LR) : ∀ u ∈ flatR d, u.oneCell' = true := fun u hu => by
  unfold flatR at hu
  obtain ⟨p, _, hp⟩ := List.mem_flatMap.1 hu
  simp [encR] at hp
  rcases hp with rfl | rfl <;> rfl

set_option maxRecDepth 100000 in
set_option maxHeartbeats 4000000 in
theorem cover_all (HSORT : SortAll) (b o n cap : Nat) (d s : List LR) (w : World) (hn : d.length = n) (hn64 : n ≤ 64) (hc : CellsR w b o (d.map toBA)) (hok : (d.map toBA).all okP = true) (hfit : ∀ p ∈ d.map toBA, fitR p) (hs : Srt s) (hp : s.Perm d) :
    Calls Tryd.prog 40 #[.slice (some ⟨b, o, none⟩) n cap] w fun e w' => e = .returned (.tuple #[.bool (decide ((n : Int) > 0) && coverB [] s), .int .i64 0]) ∧ Below w.heap.size w w' := by
  have E := ends_any b o n cap (d.map toBA) w (by rw [List.length_map]; exact hn) (by omega) hc hfit
  rw [hok] at E
  simp only [fnV, ckI] at E
  have HC := Lib.hid hc
  have HSO := Lib.hid (fun g cap w hH hg => HSORT g cap d.toArray w hH hg (by simp; omega))
  have HN := Lib.hid hn
  have HP := Lib.hid hp
  have HSS := Lib.hid hs
  have hsn : s.length = n := by rw [hp.length_eq]; exact hn
  have HSN := Lib.hid hsn
  have hn64' : ((n : Nat) : Int) ≤ 64 := by omega
  generalize hr : coverB [] s = r
  have HR := Lib.hid hr
  clear hc hok hfit hs hp hn HSORT hsn hr
  go_enter Tryd.func40, Tryd.ntmps40
  go_wp2_with fail
  refine E.mono ?_
  rintro e w1 ⟨rfl, hb⟩
  have c1 : CellsR w1 b o (d.map toBA) := fun i p hi => ⟨(hb.cell (lt_of_cellR (HC.out i p hi).1)).trans (HC.out i p hi).1, (hb.cell (lt_of_cellR (HC.out i p hi).2)).trans (HC.out i p hi).2⟩
  have C := clone_all b o n cap (flatR d) w1 (by rw [flatR_len, HN.out]) (by omega) (cells_flat c1) (flatR_one d)
  clear c1 HC E
  go_wp2_with fail
  refine C.mono ?_
  rintro e w2 ⟨v, rfl, ho, hnil, hb2⟩
  obtain ⟨g, cap2, rfl, hg, hgs⟩ : ∃ g cap2, v = .slice (some ⟨g, 0, none⟩) n cap2 ∧ w1.heap.size ≤ g ∧ g < w2.heap.size := by
    rcases ho.2 with ⟨h, _⟩ | ⟨g, cap2, cur, h, h3, h4, _⟩
    · exact absurd h hnil
    · refine ⟨g, cap2, h, h3, ?_⟩
      rcases Nat.lt_or_ge g w2.heap.size with hlt | hge
      · exact hlt
      · rw [Array.getElem?_eq_none hge] at h4; cases h4
  have hH := holds_of_own ho HN.out
  have hbs := hb.size
  have b2 := hb.trans (hb2.mono hb.size)
  have S := HSO.out g cap2 w2 hH hgs
  rw [show d.toArray.size = n by rw [List.size_toArray]; exact HN.out] at S
  clear C ho hnil hb hb2
  go_wp2_with fail
  refine S.mono ?_
  rintro e w3 ⟨rfl, d', nn, os, hpm, hst, rfl⟩
  have hdn : d.toArray.size = n := by rw [List.size_toArray]; exact HN.out
  have hds := sorted_is (d := d.toArray) (d' := d') HSS.out (by simpa using HP.out) (by rw [hdn]; exact hpm) (by rw [hdn]; exact hst)
  have hb3 := below_sort (enc := encR) (k := 2) (off := 0) (m := nn) (dk := d') (os := os) hgs
  have hH3 := holdsK_sortWorldK_c encR 2 w2 g 0 d.toArray d' nn os hH hgs (by rw [hdn]; have := congrArg List.length hds; rw [HSN.out] at this; simpa using this)
  have c3 := Lib.hid (cells_of_holds hH3 hds)
  generalize sortWorldK encR 2 w2 g 0 nn d' os = w3 at hb3 c3 ⊢
  have b3 : Below w.heap.size w w3 := b2.trans (hb3.mono (by omega))
  clear hb3 hH3 S hH hgs b2 hpm hst hds HSO hdn
  go_wp2_with fail
  go_loopw [26, 6] (fun v at' wr => Below w.heap.size w wr ∧ Hid (CellsR wr g 0 (s.map toBA)) ∧ ∃ (k : Nat) (ab : List UInt8), k ≤ n ∧ v = .int .i64 k ∧ at' = .string ⟨ab.toArray⟩ ∧ Hid (coverB ab (s.drop k) = r)) (fun v _ _ => n - (intOf v).toNat)
  case atStart => exact ⟨b3, c3, 0, [], Nat.zero_le _, rfl, rfl, Lib.hid (by rw [List.drop_zero]; exact HR.out)⟩
  case round =>
    clear b3 c3
    obtain ⟨b4, c4, k, ab, hk, rfl, rfl, hcr⟩ := hrel
    by_cases hlt : k < n
    · have hlt' : k < s.length := by rw [HSN.out]; exact hlt
      obtain ⟨x0, x1⟩ := c4.out k (toBA s[k]) (by rw [List.getElem?_map, List.getElem?_eq_getElem hlt']; rfl)
      have hd0 := List.drop_eq_getElem_cons hlt'
      have hcr' := hcr.out
      rw [hd0] at hcr'
      have hie : (s.drop (k + 1)).isEmpty = ((k : Int) == (n : Int) - 1) := by
        rw [Bool.eq_iff_iff, List.isEmpty_iff, List.drop_eq_nil_iff, HSN.out, beq_iff_eq]
        omega
      generalize s[k] = p at x0 x1 hcr'
      obtain ⟨f, t⟩ := p
      simp only [Nat.zero_add, toBA] at x0 x1
      rw [coverB, hie] at hcr'
      dsimp only at hcr'
      have N : ∀ W : World, (binOp .neq 30 (.agg #[.string ⟨f.toArray⟩, .string ⟨t.toArray⟩]) (.agg #[.string ⟨ab.toArray⟩, .string ⟨t.toArray⟩])).run Tryd.prog W = .ok (.bool (!(f == ab))) W := fun W => by
        rw [rng_ne, ByteArray.toList_mk, ByteArray.toList_mk, ByteArray.toList_mk]
        simp
      have hT : ((⟨t.toArray⟩ : ByteArray).toList == ([] : List UInt8)) = (t == []) := by rw [ByteArray.toList_mk]
      generalize hfb : (⟨f.toArray⟩ : ByteArray) = FB at x0 N
      generalize htb : (⟨t.toArray⟩ : ByteArray) = TB at x1 N hT
      generalize hab : (⟨ab.toArray⟩ : ByteArray) = AB' at N ⊢
      have HTB := Lib.hid htb
      generalize hb1 : (f == ab) = q1 at N hcr'
      generalize hb2 : (t == []) = q2 at hT hcr'
      generalize hb3 : ((k : Int) == (n : Int) - 1) = q3 at hcr'
      have hgw : g < wr.heap.size := lt_of_cellR x0
      have bn := b4.alloc b4.size (.cells #[.string FB, .string TB] 30)
      have cn := Lib.hid (c4.out.below ((Below.refl _ _).alloc (Nat.le_refl _) (.cells #[.string FB, .string TB] 30)) (Nat.le_refl _))
      clear hfb htb hab hb1 hb2 c4 hcr b4 hie hd0
      cases q1 with
      | false =>
        obtain rfl : r = false := by rw [← hcr']; rfl
        clear hcr'
        go_wp2_with fail
        go_ret2
        exact ⟨by simp, bn⟩
      | true =>
        cases q2 <;> cases q3
        · have hc' := Lib.hid (show coverB t (s.drop (k + 1)) = r by rw [← hcr']; rfl)
          clear hcr'
          go_wp2_with fail
          go_roundw
          case rel => exact ⟨bn, cn, k + 1, t, by omega, by go_num, by rw [HTB.out], hc'⟩
          case measure => simp [intOf]; omega
        · obtain rfl : r = false := by rw [← hcr']; rfl
          clear hcr'
          go_wp2_with fail
          go_ret2
          exact ⟨by simp, bn⟩
        · obtain rfl : r = false := by rw [← hcr']; rfl
          clear hcr'
          go_wp2_with fail
          go_ret2
          exact ⟨by simp, bn⟩
        · have hc' := Lib.hid (show coverB t (s.drop (k + 1)) = r by rw [← hcr']; rfl)
          clear hcr'
          go_wp2_with fail
          go_roundw
          case rel => exact ⟨bn, cn, k + 1, t, by omega, by go_num, by rw [HTB.out], hc'⟩
          case measure => simp [intOf]; omega
    · obtain rfl : k = n := by omega
      have hre : r = true := by
        have := hcr.out
        rw [List.drop_eq_nil_iff.2 (by rw [HSN.out]; exact Nat.le_refl _)] at this
        rw [← this]; rfl
      subst hre
      clear hcr c4
      go_wp2_with fail
      go_ret2
      exact ⟨by simp, b4⟩
end
section
open Go.RowKit Go.Sort

theorem sort_all (g cap : Nat) (d : Array LR) (w : World) (hH : HoldsK encR 2 w g 0 d) (hg : g < w.heap.size) (hsz : d.size ≤ 64) :
    Calls Tryd.prog 63 #[.slice (some ⟨g, 0, none⟩) d.size cap, .func (.func 64) #[] #[]] w fun e w' => e = .returned (.tuple #[]) ∧ ∃ d' n os, PermIn 0 d.size d d' ∧ SortedIn (ltOf cfR) 0 d.size d' ∧ w' = sortWorldK encR 2 w g 0 n d' os := by
  have eg : ∀ args w, (callFunc 64 args).run Tryd.prog w = .ok (.enter 64 args) w := enters_of Tryd.func64 (by kernel_rfl) rfl
  exact AnyQ.slices_SortFunc Tryd.sortR 2 Tryd.isAgg30 Tryd.sizeOf30 encR (fun _ => rfl) (fun x v hv => by simp [encR] at hv; rcases hv with rfl | rfl <;> rfl) cfR swoR 64 #[] g 0 cap d w eg (fun _ _ _ _ x y => coverFn x y _) hH hg (by omega)
end
section

def lrD (d : List Pt) : List LR' := d.map fun p => (p.f.data.toList, p.t.data.toList)
theorem mk_data (x : ByteArray) : (⟨x.data.toList.toArray⟩ : ByteArray) = x := by cases x; simp
theorem chT_chain : ∀ {d : List Pt} {a : ByteArray}, ChT a d → ∃ es, lrD d = chainL a.data.toList es ∧ Asc a.data.toList es ∧ ∀ e ∈ es, isName e = true
  | [], _, h => h.elim
  | p :: d, a, ⟨h1, h2, h3⟩ => by
    subst h1
    rcases h3 with ⟨rfl, h4⟩ | ⟨h4, h5, h6⟩
    · exact ⟨[], by simp [lrD, chainL, h4], trivial, by simp⟩
    · obtain ⟨es, e1, e2, e3⟩ := chT_chain h6
      have hne : p.t.data.toList ≠ [] := fun e => h5 (by rw [← mk_data p.t, e])
      have hx := next_end (a := p.f.data.toList) (e := p.t.data.toList) (by rw [mk_data, mk_data]; exact h2) hne
      exact ⟨p.t.data.toList :: es, by rw [chainL, ← e1]; rfl, ⟨hx.2, e2⟩, by simpa using ⟨hx.1, e3⟩⟩
theorem one_part {d : List Pt} (h : ChT ⟨#[]⟩ d) {k : ByteArray} (hk : isName k.data.toList = true) : (d.filter fun p => hasR p.f p.t k).length = 1 := by
  obtain ⟨es, e1, e2, e3⟩ := chT_chain h
  have h1 := chain_count k e2 okS_nil' e3
  rw [← e1] at h1
  rw [show (⟨#[]⟩ : ByteArray).data.toList = ([] : List UInt8) from rfl, bl_nil, hk] at h1
  unfold lrD at h1
  rw [List.filter_map, List.length_map] at h1
  refine Eq.trans (congrArg List.length (List.filter_congr fun p _ => ?_)) h1
  show _ = hasR ⟨p.f.data.toList.toArray⟩ ⟨p.t.data.toList.toArray⟩ k
  rw [mk_data, mk_data]
/-- How many of the first parts have a key. -/
def cntK (d : List Pt) (key : ByteArray) (n : Nat) : Nat := ((d.take n).filter fun p => hasR p.f p.t key).length
theorem cntK_yes {d : List Pt} {key : ByteArray} {n : Nat} {p : Pt} (hp : d[n]? = some p) (h : hasR p.f p.t key = true) : cntK d key (n + 1) = cntK d key n + 1 := by
  unfold cntK
  rw [List.take_add_one, hp, List.filter_append]
  simp [h]
theorem cntK_no {d : List Pt} {key : ByteArray} {n : Nat} {p : Pt} (hp : d[n]? = some p) (h : hasR p.f p.t key = false) : cntK d key (n + 1) = cntK d key n := by
  unfold cntK
  rw [List.take_add_one, hp, List.filter_append]
  simp [h]
theorem cntK_le (d : List Pt) (key : ByteArray) (n : Nat) : cntK d key n ≤ n := by
  unfold cntK
  exact Nat.le_trans (List.length_filter_le _ _) (by rw [List.length_take]; omega)
theorem cntK_all {d : List Pt} (h : ChT ⟨#[]⟩ d) {key : ByteArray} (hk : isName key.data.toList = true) : cntK d key d.length = 1 := by
  unfold cntK
  rw [List.take_length]
  exact one_part h hk
/-- The part that has a key is the one that is found. -/
theorem acc_of {E : Int} {d : List Pt} {acc : Nat → Int × Int} (h : Acc E d acc) {k : Nat} (hk : k < 64) {p : Pt} (hp : p ∈ d) (hh : hasR p.f p.t (nmS k) = true) : acc k = (p.g, p.e) := by
  obtain ⟨q, hq1, hq2⟩ := h.at' k hk
  rw [chT_find_eq h.ch (nm_isName k) hp hh] at hq1
  cases hq1
  exact hq2
end
section
open Go.RowKit Go.Sort

theorem toBA_lr (d : List Pt) : (lrD d).map toBA = rgs d := by
  unfold lrD rgs
  rw [List.map_map]
  refine List.map_congr_left fun p _ => ?_
  show ((⟨p.f.data.toList.toArray⟩ : ByteArray), (⟨p.t.data.toList.toArray⟩ : ByteArray)) = _
  rw [mk_data, mk_data]
theorem cover_map (d : List Pt) (a : Option Addr) (n c : Nat) (w : World) (hn : d.length = n) (hn64 : n ≤ 64) (h : SlR w (.slice a n c) (rgs d)) (hd : ChT ⟨#[]⟩ d) (hs : SmallP d) :
    Calls Tryd.prog 40 #[.slice a n c] w fun e w' => e = .returned (.tuple #[.bool true, .int .i64 0]) ∧ Below w.heap.size w w' := by
  obtain ⟨es, e1, e2, e3⟩ := chT_chain hd
  have hne : 0 < n := by
    have := List.length_pos_iff.2 (chT_ok hd).1
    omega
  obtain ⟨p, hp⟩ : ∃ p, (rgs d)[0]? = some p := ⟨_, List.getElem?_eq_getElem (show 0 < (rgs d).length by rw [rgs, List.length_map]; omega)⟩
  obtain ⟨g, o, rfl, _⟩ := h.get hp
  have hc : CellsR w g o ((lrD d).map toBA) := fun i p hi => by
    rw [toBA_lr] at hi
    obtain ⟨g', o', he, h1, h2⟩ := h.get hi
    cases he
    exact ⟨h1, h2⟩
  refine (cover_all sort_all g o n c (lrD d) (lrD d) w (by unfold lrD; rw [List.length_map]; exact hn) hn64 hc ?_ ?_ ?_ (List.Perm.refl _)).mono ?_
  · rw [toBA_lr, rgs, List.all_map, List.all_eq_true]
    exact fun p hp => (chT_ok hd).2 p hp
  · intro p hp
    rw [toBA_lr] at hp
    obtain ⟨q, hq, rfl⟩ := List.mem_map.1 hp
    exact hs.2 q hq
  · rw [e1]; exact chain_srt e2
  · rintro e w' ⟨rfl, hb⟩
    have hcv : coverB [] (lrD d) = true := by rw [e1]; exact chain_cover e2
    rw [hcv, decide_eq_true (show ((n : Int) > 0) by omega)]
    exact ⟨rfl, hb⟩
end
end Go.Proofs.YtkkkppbcjmeapaaDoor
