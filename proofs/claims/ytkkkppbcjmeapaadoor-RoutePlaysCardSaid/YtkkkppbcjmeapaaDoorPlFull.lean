/- A move within one part of a map; the map that has room for no more parts. No condition. -/
import Derived.Test.YtkkkppbcjmeapaaDoorPlNm
namespace Go.Proofs.YtkkkppbcjmeapaaDoor

theorem cut_one {α : Type} {q : α → Bool} {p : α} (hp : q p = true) : ∀ {pre pre' post post' : List α}, pre ++ p :: post = pre' ++ p :: post' → (∀ a ∈ pre, q a = false) → (∀ a ∈ pre', q a = false) → pre = pre' ∧ post = post'
  | [], [], post, post', h, _, _ => by simpa using h
  | [], b :: pre', post, post', h, _, h2 => by
    simp only [List.nil_append, List.cons_append, List.cons.injEq] at h
    have := h2 b (by simp)
    rw [← h.1, hp] at this; cases this
  | a :: pre, [], post, post', h, h1, _ => by
    simp only [List.nil_append, List.cons_append, List.cons.injEq] at h
    have := h1 a (by simp)
    rw [h.1, hp] at this; cases this
  | a :: pre, b :: pre', post, post', h, h1, h2 => by
    simp only [List.cons_append, List.cons.injEq] at h
    obtain ⟨e1, e2⟩ := cut_one hp h.2 (fun c hc => h1 c (List.mem_cons_of_mem _ hc)) (fun c hc => h2 c (List.mem_cons_of_mem _ hc))
    exact ⟨by rw [h.1, e1], e2⟩
theorem move_in {d pre post : List Pt} {p : Pt} {x y : ByteArray} (g : Int) (hd : ChT ⟨#[]⟩ d) (hp : d = pre ++ p :: post) (hr : okR x y = true) (h1 : Op.bytesLess x.toList p.f.toList = false) (h2 : endLt p.t y = false) :
    d.filter (tch x y) = [p] ∧ epL (tl d x y d.length) = max 0 p.e ∧ newL d x y g = pre ++ (if p.f = x then [] else [⟨p.f, x, p.g, p.e⟩]) ++ [⟨x, y, g, min (max 0 p.e + 1) 2147483648⟩] ++ (if y = p.t then [] else [⟨y, p.t, p.g, p.e⟩]) ++ post := by
  obtain ⟨f, T, R, hT⟩ := nums (allL d x y x)
  have hx : x ∈ allL d x y x := by simp [allL]
  have hy : y ∈ allL d x y x := by simp [allL]
  have h0 : (⟨#[]⟩ : ByteArray) ∈ allL d x y x := by simp [allL]
  have hl : ∀ q ∈ d, q.f ∈ allL d x y x ∧ q.t ∈ allL d x y x := allL_d
  have ht : ∀ s ∈ txsP d, s ∈ allL d x y x := fun s hs => by simp [allL, hs]
  have hok := (chT_ok hd).2
  obtain ⟨hne, _, hch⟩ := (chT_num R hT h0 hl).1 hd
  rw [(rank_zero R h0).2 rfl] at hch
  have hpd : p ∈ d := by rw [hp]; simp
  have hx1 : f x < en f T y := by
    have := hr
    rw [okR_en R hT hx hy] at this
    simp only [Bool.and_eq_true, decide_eq_true_eq] at this
    exact this.2.2
  have a1 : f p.f ≤ f x := by
    rw [R.lt x hx p.f (hl p hpd).1] at h1
    have := of_decide_eq_false h1; omega
  have a2 : en f T y ≤ en f T p.t := by
    rw [endLt_en R hT (hl p hpd).2 hy] at h2
    have := of_decide_eq_false h2; omega
  have hch' : NCh T 0 (pre.map (nOf f T) ++ nOf f T p :: post.map (nOf f T)) := by rw [hp] at hch; simpa using hch
  obtain ⟨c1, n1, n2⟩ := nch_split hch'
  obtain ⟨n3, n4, n5⟩ := n2
  have hpre : ∀ q ∈ pre, tch x y q = false := fun q hq => by
    have hqd : q ∈ d := by rw [hp]; simp [hq]
    rw [tch_num R hT (hl q hqd).1 (hl q hqd).2 hx hy (hok q hqd) hr]
    have := ((nch_le n1).2 _ (List.mem_map_of_mem hq)).2.2
    have e : (nOf f T p).a = f p.f := rfl
    unfold ntch
    exact decide_eq_false (by omega)
  have hpost : ∀ q ∈ post, tch x y q = false := fun q hq => by
    have hqd : q ∈ d := by rw [hp]; simp [hq]
    rw [tch_num R hT (hl q hqd).1 (hl q hqd).2 hx hy (hok q hqd) hr]
    have := ((nch_le n5).2 _ (List.mem_map_of_mem hq)).1
    have e : (nOf f T p).b = en f T p.t := rfl
    unfold ntch
    exact decide_eq_false (by omega)
  have hpt : tch x y p = true := by
    rw [tch_num R hT (hl p hpd).1 (hl p hpd).2 hx hy (hok p hpd) hr]
    unfold ntch nOf
    exact decide_eq_true (by simp only; omega)
  have hf : d.filter (tch x y) = [p] := by
    rw [hp, List.filter_append, filt_no hpre, List.filter_cons, hpt, filt_no hpost]; rfl
  refine ⟨hf, ?_, ?_⟩
  · have := tl_mid (x := x) (y := y) (pre := pre) (mid := [p]) (post := post) hpre (fun q hq => by rw [List.mem_singleton.1 hq]; exact hpt) hpost
    rw [hp, show pre ++ p :: post = pre ++ [p] ++ post by simp, this]
    rfl
  obtain ⟨pre', mid, post', hp', lp, c, c', M⟩ := move_cut R hT g hx hy h0 hl hd hr
  have hmid : mid = [p] := M.filt.symm.trans hf
  subst hmid
  have hcut := M.hd.symm.trans hp
  rw [show pre' ++ [p] ++ post' = pre' ++ p :: post' by simp] at hcut
  obtain ⟨rfl, rfl⟩ := cut_one (q := tch x y) hpt hcut M.p1 hpre
  obtain ⟨m1, m2, m3⟩ := M.n2
  have m1' : f p.f = c := m1
  have m3' : en f T p.t = c' := m3
  have inL : ∀ q ∈ hp' ++ lp, q.f ∈ allL d x y x ∧ q.t ∈ allL d x y x := fun q hq => by
    obtain ⟨a, b, _⟩ := M.txt q hq
    refine ⟨?_, ?_⟩
    · rcases a with a | a | a
      · rw [a]; exact hx
      · rw [a]; exact hy
      · exact ht _ a
    · rcases b with a | a | a
      · rw [a]; exact hx
      · rw [a]; exact hy
      · exact ht _ a
  have hend : ∀ {s t : ByteArray}, s ∈ allL d x y x → t ∈ allL d x y x → en f T s = en f T t → s = t := fun {s t} hs ht' e => by
    have u1 := hT s hs
    have u2 := hT t ht'
    unfold en at e
    refine rank_eq R hs ht' ?_
    split at e <;> split at e <;> omega
  have e1 : hp' = if p.f = x then [] else [⟨p.f, x, p.g, p.e⟩] := by
    rcases map_nil_or M.h with ⟨hlt, q, rfl, hq⟩ | ⟨hnlt, rfl⟩
    · rw [if_neg (fun e => by rw [← e] at hlt; omega)]
      have hqL := inL q (by simp)
      have q1 : f q.f = c := congrArg NP.a hq
      have q2 : en f T q.t = f x := congrArg NP.b hq
      have q3 : q.g = p.g := congrArg NP.g hq
      have q4 : q.e = p.e := congrArg NP.e hq
      have r1 : q.f = p.f := rank_eq R hqL.1 (hl p hpd).1 (by omega)
      have r2 : q.t = x := rank_eq R hqL.2 hx (by
        have u1 := hT x hx
        unfold en at q2
        split at q2 <;> omega)
      cases q; simp only at r1 r2 q3 q4; rw [r1, r2, q3, q4]
    · have := M.cx
      rw [if_pos (rank_eq R (hl p hpd).1 hx (by omega))]
  have e2 : lp = if y = p.t then [] else [⟨y, p.t, p.g, p.e⟩] := by
    rcases map_nil_or M.l with ⟨hlt, q, rfl, hq⟩ | ⟨hnlt, rfl⟩
    · rw [if_neg (fun e => by rw [← m3', e] at hlt; omega)]
      have hqL := inL q (by simp)
      have q1 : f q.f = en f T y := congrArg NP.a hq
      have q2 : en f T q.t = c' := congrArg NP.b hq
      have q3 : q.g = p.g := congrArg NP.g hq
      have q4 : q.e = p.e := congrArg NP.e hq
      have r1 : q.f = y := rank_eq R hqL.1 hy (by
        have u1 := hT q.f hqL.1
        unfold en at q1
        split at q1 <;> omega)
      have r2 : q.t = p.t := hend hqL.2 (hl p hpd).2 (by omega)
      cases q; simp only at r1 r2 q3 q4; rw [r1, r2, q3, q4]
    · have := M.cy
      rw [if_pos (hend hy (hl p hpd).2 (by omega))]
  rw [M.new, e1, e2]
  rfl
/-- What Move answers where its range lies in one part. -/
theorem moveV_in {d pre post : List Pt} {p : Pt} {x y : ByteArray} (g : Int) (hd : ChT ⟨#[]⟩ d) (hp : d = pre ++ p :: post) (hr : okR x y = true) (h1 : Op.bytesLess x.toList p.f.toList = false) (h2 : endLt p.t y = false) (hgs : ∀ q ∈ d, 1 ≤ q.g) (he : 1 ≤ p.e ∧ p.e < 2147483648) (hg : 1 ≤ g ∧ g < 8) (hne : p.g ≠ g) :
    moveV d x y g = if 64 < (newL d x y g).length then (0, 4, d) else (p.e + 1, 0, newL d x y g) := by
  obtain ⟨k1, k2, k3⟩ := move_in g hd hp hr h1 h2
  have hpd : p ∈ d.filter (tch x y) := by rw [k1]; simp
  have hown : ownerV d x y = (p.g, true, 0) := by
    rcases owner_chain hd hr hgs with ⟨o, ho, ha, hv⟩ | ⟨⟨a, ha, b, hb, ta, tb, hab⟩, _⟩
    · rw [hv, ha p (List.mem_filter.1 hpd).1 (List.mem_filter.1 hpd).2]
    · have i1 : a ∈ d.filter (tch x y) := List.mem_filter.2 ⟨ha, ta⟩
      have i2 : b ∈ d.filter (tch x y) := List.mem_filter.2 ⟨hb, tb⟩
      rw [k1] at i1 i2
      rw [List.mem_singleton.1 i1, List.mem_singleton.1 i2] at hab
      exact absurd rfl hab
  unfold moveV
  rw [hown, k2, if_neg (by simp), if_neg (by simpa using hg), if_neg (by simp [hne])]
  rw [show min (max 0 p.e + 1) 2147483648 = p.e + 1 by omega]
def gP (own oth : Int) (j : Nat) : Int := if j % 2 = 0 then own else oth
def eP (j : Nat) : Int := if j % 2 = 0 then 1 else 2
def lo (j : Nat) : ByteArray := if j = 0 then ⟨#[]⟩ else nmS j
def pcF (own oth : Int) (j : Nat) : Pt := ⟨lo j, nmS (j + 1), gP own oth j, eP j⟩
def inF (own oth : Int) (n : Nat) : List Pt := (List.range n).map (pcF own oth)
def ltF (own oth : Int) (n : Nat) : Pt := ⟨lo n, ⟨#[]⟩, gP own oth n, eP n⟩
/-- The map behind moves that begin at each of the first n names. -/
def dF (own oth : Int) (n : Nat) : List Pt := inF own oth n ++ [ltF own oth n]
theorem inF_succ (own oth : Int) (n : Nat) : inF own oth (n + 1) = inF own oth n ++ [pcF own oth n] := by simp [inF, List.range_succ]
theorem dF_len (own oth : Int) (n : Nat) : (dF own oth n).length = n + 1 := by simp [dF, inF]
theorem nm_inj {a b : Nat} (ha : a < 64) (hb : b < 64) (h : nmS a = nmS b) : a = b := by
  have h1 := nm_lt ha hb
  have h2 := nm_lt hb ha
  rw [h] at h1 h2
  rw [nm_lt hb hb] at h1 h2
  simp only [Nat.lt_irrefl, decide_false] at h1 h2
  have := of_decide_eq_false h1.symm
  have := of_decide_eq_false h2.symm
  omega
theorem lo_lt {a b : Nat} (ha : a < 64) (hb : b < 64) : Op.bytesLess (nmS a).toList (lo b).toList = decide (a < b) := by
  unfold lo
  split
  · rw [toL ⟨#[]⟩]; subst b; exact bl_nil _
  · exact nm_lt ha hb
theorem lo_ne {a b : Nat} (ha : a < 64) (hb : b < 64) (h : a ≠ b) : lo b ≠ nmS a := by
  unfold lo
  split
  · exact fun e => nm_ne a e.symm
  · exact fun e => h (nm_inj hb ha e).symm
theorem endLt_em (y : ByteArray) : endLt ⟨#[]⟩ y = false := by
  unfold endLt
  rw [toL ⟨#[]⟩]
  simp
theorem endLt_nm {x y : ByteArray} (h : Op.bytesLess x.toList y.toList = false) (hy : y.toList ≠ []) : endLt x y = false := by
  unfold endLt
  rw [h, beq_eq_false_iff_ne.2 hy]
  simp
theorem okR_nm {x y : ByteArray} (hx : okS x = true) (hy : isName y.data.toList = true) (h : Op.bytesLess x.toList y.toList = true) : okR x y = true := by
  unfold okR
  rw [hx, name_okS hy, h]; simp
theorem okR_end {x : ByteArray} (hx : okS x = true) : okR x ⟨#[]⟩ = true := by
  unfold okR
  rw [hx, em_okS, toL ⟨#[]⟩]; simp
section
variable {own oth : Int} (ho : 1 ≤ own ∧ own < 8) (hh : 1 ≤ oth ∧ oth < 8) (hne : own ≠ oth)
include ho hh in
theorem gP_bd (j : Nat) : 1 ≤ gP own oth j ∧ gP own oth j < 8 := by unfold gP; split <;> assumption
theorem eP_bd (j : Nat) : 1 ≤ eP j ∧ eP j ≤ 2 := by unfold eP; split <;> omega
theorem lo_size (j : Nat) : (lo j).size ≤ 2 := by
  unfold lo; split
  · decide
  · exact Nat.le_of_eq (nm_size _)
theorem dF_mem {n : Nat} {q : Pt} (h : q ∈ dF own oth n) : ∃ j, q = pcF own oth j ∨ q = ltF own oth j := by
  unfold dF inF at h
  rcases List.mem_append.1 h with h | h
  · obtain ⟨j, _, rfl⟩ := List.mem_map.1 h
    exact ⟨j, Or.inl rfl⟩
  · exact ⟨n, Or.inr (List.mem_singleton.1 h)⟩
include ho hh in
theorem dF_g {n : Nat} : ∀ q ∈ dF own oth n, 1 ≤ q.g := fun q hq => by
  obtain ⟨j, rfl | rfl⟩ := dF_mem hq
  · exact (gP_bd ho hh j).1
  · exact (gP_bd ho hh j).1
theorem dF_e {n : Nat} : ∀ q ∈ dF own oth n, q.e ≤ 2147483648 := fun q hq => by
  obtain ⟨j, rfl | rfl⟩ := dF_mem hq
  · have := (eP_bd j).2; show eP j ≤ _; omega
  · have := (eP_bd j).2; show eP j ≤ _; omega
theorem dF_small {n : Nat} (hn : n ≤ 800) : SmallP (dF own oth n) := ⟨by rw [dF_len]; omega, fun q hq => by
  obtain ⟨j, rfl | rfl⟩ := dF_mem hq
  · have := lo_size j
    exact ⟨by show (lo j).size ≤ _; omega, by show (nmS (j + 1)).size ≤ _; rw [nm_size]; omega⟩
  · have := lo_size j
    exact ⟨by show (lo j).size ≤ _; omega, by show (0 : Nat) ≤ _; omega⟩⟩
theorem ch_one (g e : Int) : ChT ⟨#[]⟩ [⟨⟨#[]⟩, ⟨#[]⟩, g, e⟩] := ⟨rfl, okR_end em_okS, Or.inl ⟨rfl, rfl⟩⟩
include ho hh hne in
theorem dF_move {i : Nat} (hi : i < 31) (hd : ChT ⟨#[]⟩ (dF own oth (2 * i))) :
    moveV (dF own oth (2 * i)) (nmS (2 * i + 1)) (nmS (2 * i + 2)) oth = (2, 0, dF own oth (2 * i + 2)) ∧ ChT ⟨#[]⟩ (dF own oth (2 * i + 2)) := by
  have e0 : gP own oth (2 * i) = own := by unfold gP; rw [if_pos (by omega)]
  have e1 : gP own oth (2 * i + 1) = oth := by unfold gP; rw [if_neg (by omega)]
  have e2 : gP own oth (2 * i + 2) = own := by unfold gP; rw [if_pos (by omega)]
  have f0 : eP (2 * i) = 1 := by unfold eP; rw [if_pos (by omega)]
  have f1 : eP (2 * i + 1) = 2 := by unfold eP; rw [if_neg (by omega)]
  have f2 : eP (2 * i + 2) = 1 := by unfold eP; rw [if_pos (by omega)]
  have hr : okR (nmS (2 * i + 1)) (nmS (2 * i + 2)) = true := okR_nm (nm_okS _) (nm_isName _) (by rw [nm_lt (by omega) (by omega)]; exact decide_eq_true (by omega))
  have h1 : Op.bytesLess (nmS (2 * i + 1)).toList (ltF own oth (2 * i)).f.toList = false := by
    show Op.bytesLess (nmS (2 * i + 1)).toList (lo (2 * i)).toList = false
    rw [lo_lt (by omega) (by omega)]; exact decide_eq_false (by omega)
  have h2 : endLt (ltF own oth (2 * i)).t (nmS (2 * i + 2)) = false := endLt_em _
  have hn : newL (dF own oth (2 * i)) (nmS (2 * i + 1)) (nmS (2 * i + 2)) oth = dF own oth (2 * i + 2) := by
    rw [(move_in oth hd (pre := inF own oth (2 * i)) (post := []) (p := ltF own oth (2 * i)) rfl hr h1 h2).2.2]
    simp only [ltF, dF, e0, f0, e2, f2]
    rw [if_neg (lo_ne (by omega) (by omega) (by omega)), if_neg (nm_ne _), inF_succ, inF_succ]
    simp only [pcF, e0, f0, e1, f1]
    simp [lo]
    decide
  have hv := moveV_in oth hd (pre := inF own oth (2 * i)) (post := []) (p := ltF own oth (2 * i)) rfl hr h1 h2 (dF_g ho hh) ⟨(eP_bd _).1, by have := (eP_bd (2 * i)).2; show eP (2 * i) < _; omega⟩ hh (by show gP own oth (2 * i) ≠ oth; rw [e0]; exact hne)
  rw [hn] at hv
  refine ⟨?_, ?_⟩
  · rw [hv, if_neg (by rw [dF_len]; omega)]
    show (eP (2 * i) + 1, (0 : Int), _) = _
    rw [f0]; rfl
  · have := (move_says oth hd hr).ch
    rw [hn] at this; exact this
theorem dF_zero : dF own oth 0 = [⟨⟨#[]⟩, ⟨#[]⟩, own, 1⟩] := rfl
include ho hh hne in
theorem dF_ch : ∀ {i : Nat}, i ≤ 31 → ChT ⟨#[]⟩ (dF own oth (2 * i))
  | 0, _ => ch_one own 1
  | i + 1, h => by
    have := (dF_move ho hh hne (i := i) (by omega) (dF_ch (by omega))).2
    exact this
include ho hh hne in
theorem dF_last' {n : Nat} (h62 : n = 62) (hd : ChT ⟨#[]⟩ (dF own oth n)) :
    moveV (dF own oth n) (nmS (n + 1)) ⟨#[]⟩ oth = (2, 0, dF own oth (n + 1)) ∧ ChT ⟨#[]⟩ (dF own oth (n + 1)) := by
  have e0 : gP own oth n = own := by unfold gP; rw [if_pos (by omega)]
  have e1 : gP own oth (n + 1) = oth := by unfold gP; rw [if_neg (by omega)]
  have f0 : eP n = 1 := by unfold eP; rw [if_pos (by omega)]
  have f1 : eP (n + 1) = 2 := by unfold eP; rw [if_neg (by omega)]
  have hr : okR (nmS (n + 1)) ⟨#[]⟩ = true := okR_end (nm_okS _)
  have h1 : Op.bytesLess (nmS (n + 1)).toList (ltF own oth n).f.toList = false := by
    show Op.bytesLess (nmS (n + 1)).toList (lo n).toList = false
    rw [lo_lt (by omega) (by omega)]; exact decide_eq_false (by omega)
  have h2 : endLt (ltF own oth n).t ⟨#[]⟩ = false := endLt_em _
  have hn : newL (dF own oth n) (nmS (n + 1)) ⟨#[]⟩ oth = dF own oth (n + 1) := by
    rw [(move_in oth hd (pre := inF own oth n) (post := []) (p := ltF own oth n) rfl hr h1 h2).2.2]
    simp only [ltF, dF, e0, f0, e1, f1]
    rw [if_neg (lo_ne (by omega) (by omega) (by omega)), if_pos trivial, inF_succ]
    simp only [pcF, e0, f0]
    simp [lo]
    decide
  have hv := moveV_in oth hd (pre := inF own oth n) (post := []) (p := ltF own oth n) rfl hr h1 h2 (dF_g ho hh) ⟨(eP_bd _).1, by have := (eP_bd n).2; show eP n < _; omega⟩ hh (by show gP own oth n ≠ oth; rw [e0]; exact hne)
  rw [hn] at hv
  refine ⟨?_, ?_⟩
  · rw [hv, if_neg (by rw [dF_len]; omega)]
    show (eP n + 1, (0 : Int), _) = _
    rw [f0]; rfl
  · have := (move_says oth hd hr).ch
    rw [hn] at this; exact this
include ho hh hne in
theorem dF_last (hd : ChT ⟨#[]⟩ (dF own oth 62)) :
    moveV (dF own oth 62) (nmS 63) ⟨#[]⟩ oth = (2, 0, dF own oth 63) ∧ ChT ⟨#[]⟩ (dF own oth 63) := dF_last' ho hh hne rfl hd
/-- The map behind the last move. -/
def dB (own oth : Int) (n : Nat) : List Pt := inF own oth n ++ [⟨nmS n, ⟨#[]⟩, own, 3⟩]
theorem dB_len (own oth : Int) (n : Nat) : (dB own oth n).length = n + 1 := by simp [dB, inF]
include ho hh hne in
theorem dF_back' {n : Nat} (h63 : n = 63) (hd : ChT ⟨#[]⟩ (dF own oth n)) :
    moveV (dF own oth n) (nmS n) ⟨#[]⟩ own = (3, 0, dB own oth n) := by
  have e0 : gP own oth n = oth := by unfold gP; rw [if_neg (by omega)]
  have f0 : eP n = 2 := by unfold eP; rw [if_neg (by omega)]
  have hlo : lo n = nmS n := by unfold lo; rw [if_neg (by omega)]
  have hr : okR (nmS n) ⟨#[]⟩ = true := okR_end (nm_okS _)
  have h1 : Op.bytesLess (nmS n).toList (ltF own oth n).f.toList = false := by
    show Op.bytesLess (nmS n).toList (lo n).toList = false
    rw [lo_lt (by omega) (by omega)]; exact decide_eq_false (by omega)
  have h2 : endLt (ltF own oth n).t ⟨#[]⟩ = false := endLt_em _
  have hn : newL (dF own oth n) (nmS n) ⟨#[]⟩ own = dB own oth n := by
    rw [(move_in own hd (pre := inF own oth n) (post := []) (p := ltF own oth n) rfl hr h1 h2).2.2]
    simp only [ltF, dB, e0, f0]
    rw [if_pos hlo, if_pos trivial]
    simp
    decide
  have hv := moveV_in own hd (pre := inF own oth n) (post := []) (p := ltF own oth n) rfl hr h1 h2 (dF_g ho hh) ⟨(eP_bd _).1, by have := (eP_bd n).2; show eP n < _; omega⟩ ho (by show gP own oth n ≠ own; rw [e0]; exact fun e => hne e.symm)
  rw [hn] at hv
  rw [hv, if_neg (by rw [dB_len]; omega)]
  show (eP n + 1, (0 : Int), _) = _
  rw [f0]; rfl
include ho hh hne in
theorem dF_back (hd : ChT ⟨#[]⟩ (dF own oth 63)) :
    moveV (dF own oth 63) (nmS 63) ⟨#[]⟩ own = (3, 0, dB own oth 63) := dF_back' ho hh hne rfl hd
theorem dF_at {n k : Nat} (hk : k < n) : (dF own oth n)[k]? = some (pcF own oth k) := by
  unfold dF inF
  rw [List.getElem?_append_left (by simpa using hk)]
  simp [hk]
include ho hh in
theorem dF_no {k : Nat} (hk : k < 63) (hd : ChT ⟨#[]⟩ (dF own oth 63)) {g : Int} (hg : 1 ≤ g ∧ g < 8) (hgk : gP own oth k ≠ g) :
    moveV (dF own oth 63) (nmS k) (nm5 k) g = (0, 4, dF own oth 63) := by
  obtain ⟨b1, b2⟩ := nm5_lt hk
  have hr : okR (nmS k) (nm5 k) = true := okR_nm (nm_okS _) (nm5_isName (by omega)) b1
  have h1 : Op.bytesLess (nmS k).toList (pcF own oth k).f.toList = false := by
    show Op.bytesLess (nmS k).toList (lo k).toList = false
    rw [lo_lt (by omega) (by omega)]; exact decide_eq_false (by omega)
  have hb : Op.bytesLess (nmS (k + 1)).toList (nm5 k).toList = false := by
    cases h : Op.bytesLess (nmS (k + 1)).toList (nm5 k).toList with
    | false => rfl
    | true => have h' := bl_trans b2 h; have := bl_irr (nm5 k).toList; rw [this] at h'; cases h'
  have h5 : (nm5 k).toList ≠ [] := by rw [toL]; exact fun e => by cases e
  have h2 : endLt (pcF own oth k).t (nm5 k) = false := endLt_nm hb h5
  have hp : dF own oth 63 = (dF own oth 63).take k ++ pcF own oth k :: (dF own oth 63).drop (k + 1) := by
    have hlt : k < (dF own oth 63).length := by rw [dF_len]; omega
    have := List.getElem_cons_drop hlt
    have e := dF_at (own := own) (oth := oth) hk
    rw [List.getElem?_eq_getElem hlt, Option.some.injEq] at e
    rw [e] at this
    rw [this, List.take_append_drop]
  have hv := moveV_in g hd hp hr h1 h2 (dF_g ho hh) ⟨(eP_bd _).1, by have := (eP_bd k).2; show eP k < _; omega⟩ hg hgk
  have hn := (move_in g hd hp hr h1 h2).2.2
  have hne : ¬ nm5 k = (pcF own oth k).t := fun e => by
    have e' : nm5 k = nmS (k + 1) := e
    rw [e', bl_irr] at b2; cases b2
  rw [if_neg hne] at hn
  rw [hv, if_pos ?_]
  rw [hn]
  have hlen : ((dF own oth 63).take k).length = k := by rw [List.length_take, dF_len]; omega
  have hlen2 : ((dF own oth 63).drop (k + 1)).length = 63 - k := by rw [List.length_drop, dF_len]; omega
  simp only [List.length_append, hlen, hlen2, List.length_cons, List.length_nil]
  omega
theorem dF_find {k : Nat} (hk : k < 63) (hd : ChT ⟨#[]⟩ (dF own oth 63)) : findP (dF own oth 63) (nmS k) = some (pcF own oth k) := by
  refine chT_find_eq hd (nm_isName _) (List.mem_of_getElem? (dF_at hk)) ?_
  have hl : okS (lo k) = true := by unfold lo; split; exact em_okS; exact nm_okS _
  have h1 : Op.bytesLess (nmS k).toList (nmS (k + 1)).toList = true := by rw [nm_lt (by omega) (by omega)]; exact decide_eq_true (by omega)
  have h2 : Op.bytesLess (lo k).toList (nmS (k + 1)).toList = true := by
    unfold lo; split
    · rw [toL, toL]; rfl
    · exact h1
  have h3 : (nmS k).toList ≠ (nmS (k + 1)).toList := fun e => by rw [e, bl_irr] at h1; cases h1
  have h4 : (nmS k).toList ≠ [] := by rw [toL]; exact fun e => by cases e
  unfold hasR
  show (okR (lo k) (nmS (k + 1)) && (isName (nmS k).data.toList && (!Op.bytesLess (nmS k).toList (lo k).toList && endLt (nmS k) (nmS (k + 1))))) = true
  rw [okR_nm hl (nm_isName _) h2, nm_isName, lo_lt (by omega) (by omega)]
  unfold endLt
  rw [h1, beq_eq_false_iff_ne.2 h3, beq_eq_false_iff_ne.2 h4]
  simp
end
end Go.Proofs.YtkkkppbcjmeapaaDoor
