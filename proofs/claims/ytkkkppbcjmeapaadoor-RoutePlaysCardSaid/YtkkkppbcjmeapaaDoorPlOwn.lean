/- What Owner answers by the keys of a range. No condition. -/
import Derived.Test.YtkkkppbcjmeapaaDoorPlAcc
namespace Go.Proofs.YtkkkppbcjmeapaaDoor

theorem lo_size' (j : Nat) : (lo j).size ≤ 2 := lo_size j
theorem Acc.small {E : Int} {d : List Pt} {acc : Nat → Int × Int} (h : Acc E d acc) (hd : d.length ≤ 900) : SmallP d := ⟨hd, fun p hp => by
  obtain ⟨⟨i, _, h1⟩, ⟨j, _, h2⟩⟩ := h.nm p hp
  have := lo_size i; have := lo_size j
  rw [h1, h2]; omega⟩
/-- The beginning of a range: a name, the first one too. -/
def NamedF (s : ByteArray) : Prop := NamedE s ∨ ∃ j, j < 64 ∧ s = nmS j
theorem key_inF {a b : ByteArray} (h : okR a b = true) (ha : NamedF a) (hb : NamedE b) : ∃ k, k < 64 ∧ hasR a b (nmS k) = true := by
  rcases ha with ha | ⟨j, hj, rfl⟩
  · exact key_in h ha hb
  · refine ⟨j, hj, ?_⟩
    by_cases h0 : j = 0
    · -- the first name: the same as the range from the empty text
      have hb2 := hb
      obtain ⟨m, hm, rfl⟩ := hb
      have h' := h
      unfold okR at h'
      simp only [Bool.and_eq_true, Bool.or_eq_true] at h'
      have h4 : ((nmS j).toList == ([] : List UInt8)) = false := beq_eq_false_iff_ne.2 (by rw [toL]; exact fun e => by cases e)
      have he : endLt (nmS j) (lo m) = true := by
        by_cases h1 : m = 0
        · have e : lo m = ⟨#[]⟩ := by unfold lo; exact if_pos h1
          unfold endLt
          rw [e, toL ⟨#[]⟩]
          rw [show ((nmS j).toList == (({ data := #[] } : ByteArray).data.toList)) = false from h4]; rfl
        · have e : lo m = nmS m := by unfold lo; exact if_neg h1
          have h5 : ((nmS m).toList == ([] : List UInt8)) = false := beq_eq_false_iff_ne.2 (by rw [toL]; exact fun e => by cases e)
          have h6 : j < m := by omega
          unfold endLt
          rw [e, nm_lt hj hm, h4, beq_eq_false_iff_ne.2 (fun q => by
            have := nm_lt hj hm
            rw [q, bl_irr] at this
            have := of_decide_eq_false this.symm
            omega)]
          simp [h6]
      unfold hasR
      rw [h, nm_isName, bl_irr, he]
      simp
    · have e : lo j = nmS j := by unfold lo; exact if_neg h0
      obtain ⟨k, hk, hh⟩ := key_in h ⟨j, hj, e.symm⟩ hb
      -- any key shows that the range is not empty; the name itself is in it
      unfold hasR at hh ⊢
      simp only [Bool.and_eq_true] at hh
      obtain ⟨m, hm, rfl⟩ := hb
      have h' := h
      unfold okR at h'
      simp only [Bool.and_eq_true, Bool.or_eq_true] at h'
      have h4 : ((nmS j).toList == ([] : List UInt8)) = false := beq_eq_false_iff_ne.2 (by rw [toL]; exact fun e => by cases e)
      have he : endLt (nmS j) (lo m) = true := by
        by_cases h1 : m = 0
        · have e : lo m = ⟨#[]⟩ := by unfold lo; exact if_pos h1
          unfold endLt
          rw [e, toL ⟨#[]⟩]
          rw [show ((nmS j).toList == (({ data := #[] } : ByteArray).data.toList)) = false from h4]; rfl
        · have e : lo m = nmS m := by unfold lo; exact if_neg h1
          have h5 : ((nmS m).toList == ([] : List UInt8)) = false := beq_eq_false_iff_ne.2 (by rw [toL]; exact fun e => by cases e)
          have h6 : j < m := by
            rw [e, h5, nm_lt hj hm] at h'
            simpa using h'.2.2
          unfold endLt
          rw [e, nm_lt hj hm, h4, beq_eq_false_iff_ne.2 (fun q => by
            have := nm_lt hj hm
            rw [q, bl_irr] at this
            have := of_decide_eq_false this.symm
            omega)]
          simp [h6]
      rw [h, nm_isName, bl_irr, he]
      simp
theorem tch_keyF {p : Pt} {x y : ByteArray} (hp : okR p.f p.t = true) (hr : okR x y = true) (n1 : NamedE p.f) (n2 : NamedE p.t) (n3 : NamedF x) (n4 : NamedE y) (ht : tch x y p = true) :
    ∃ k, k < 64 ∧ hasR p.f p.t (nmS k) = true ∧ hasR x y (nmS k) = true := by
  have h : okR (maxS p.f x) (minE p.t y) = true := by
    unfold tch at ht
    simp only [Bool.and_eq_true] at ht
    exact ht.2
  have m1 : NamedF (maxS p.f x) := by
    rcases maxS_or p.f x with e | e <;> rw [e]
    · exact Or.inl n1
    · exact n3
  have m2 : NamedE (minE p.t y) := by rcases minE_or p.t y with e | e <;> rw [e] <;> assumption
  obtain ⟨k, hk, hk2⟩ := key_inF h m1 m2
  obtain ⟨a, b⟩ := key_of_tch hp hr hk2 ht
  exact ⟨k, hk, a, b⟩
theorem Acc.touchF {E : Int} {d : List Pt} {acc : Nat → Int × Int} (h : Acc E d acc) {x y : ByteArray} (hr : okR x y = true) (hx : NamedF x) (hy : NamedE y) {p : Pt} (hp : p ∈ d) (ht : tch x y p = true) : ∃ k, k < 64 ∧ hasR x y (nmS k) = true ∧ acc k = (p.g, p.e) := by
  have hok := (chT_ok h.ch).2 p hp
  obtain ⟨k, hk, h1, h2⟩ := tch_keyF hok hr (h.nm p hp).1 (h.nm p hp).2 hx hy ht
  obtain ⟨q, hq1, hq2⟩ := h.at' k hk
  rw [chT_find_eq h.ch (nm_isName k) hp h1] at hq1
  cases hq1
  exact ⟨k, hk, h2, hq2⟩
/-- A range's keys are all of one group. -/
def OneG (acc : Nat → Int × Int) (x y : ByteArray) (o : Int) : Prop := ∀ k, k < 64 → hasR x y (nmS k) = true → (acc k).1 = o
theorem owner_keys {E : Int} {d : List Pt} {acc : Nat → Int × Int} (h : Acc E d acc) {x y : ByteArray} (hr : okR x y = true) (hx : NamedF x) (hy : NamedE y) :
    (∃ o, 1 ≤ o ∧ ownerV d x y = (o, true, 0) ∧ OneG acc x y o) ∨ (ownerV d x y = (0, false, 0) ∧ ∃ k k', k < 64 ∧ k' < 64 ∧ hasR x y (nmS k) = true ∧ hasR x y (nmS k') = true ∧ (acc k).1 ≠ (acc k').1) := by
  rcases owner_chain h.ch hr (fun p hp => (h.bd p hp).1) with ⟨o, ho, hall, hv⟩ | ⟨⟨p, hp, q, hq, tp, tq, hpq⟩, hv⟩
  · left
    refine ⟨o, ho, hv, fun k hk hh => ?_⟩
    obtain ⟨p, hp, tp, ep⟩ := h.hasK hr hk hh
    rw [ep]; exact hall p hp tp
  · right
    obtain ⟨k, hk, hh, hak⟩ := h.touchF hr hx hy hp tp
    obtain ⟨k', hk', hh', hak'⟩ := h.touchF hr hx hy hq tq
    exact ⟨hv, k, k', hk, hk', hh, hh', by rw [hak, hak']; exact hpq⟩
/-- What the statement's own loop finds. -/
def wantL (acc : Nat → Int × Int) (x y : ByteArray) : Nat → Int × Bool
  | 0 => (0, true)
  | k + 1 => if hasR x y (nmS k) = true then ((acc k).1, (wantL acc x y k).2 && (decide ((wantL acc x y k).1 = 0) || decide ((wantL acc x y k).1 = (acc k).1))) else wantL acc x y k
theorem wantL_says {acc : Nat → Int × Int} {x y : ByteArray} (ha : ∀ k, k < 64 → 1 ≤ (acc k).1) : ∀ {n : Nat}, n ≤ 64 →
    ((wantL acc x y n).1 = 0 ∧ (wantL acc x y n).2 = true ∧ (∀ k, k < n → hasR x y (nmS k) = false)) ∨
    ((∃ k, k < n ∧ hasR x y (nmS k) = true ∧ (wantL acc x y n).1 = (acc k).1) ∧ (((wantL acc x y n).2 = true ∧ ∀ k, k < n → hasR x y (nmS k) = true → (acc k).1 = (wantL acc x y n).1) ∨ ((wantL acc x y n).2 = false ∧ ∃ k k', k < n ∧ k' < n ∧ hasR x y (nmS k) = true ∧ hasR x y (nmS k') = true ∧ (acc k).1 ≠ (acc k').1)))
  | 0, _ => Or.inl ⟨rfl, rfl, fun k hk => by omega⟩
  | n + 1, hn => by
    have ih := wantL_says ha (x := x) (y := y) (n := n) (by omega)
    unfold wantL
    cases hh : hasR x y (nmS n) with
    | false =>
      simp only [Bool.false_eq_true, if_false]
      rcases ih with ⟨h1, h2, h3⟩ | ⟨⟨k, h1, h2, h3⟩, h4⟩
      · exact Or.inl ⟨h1, h2, fun k hk => by
          by_cases e : k = n
          · subst e; exact hh
          · exact h3 k (by omega)⟩
      · refine Or.inr ⟨⟨k, by omega, h2, h3⟩, ?_⟩
        rcases h4 with ⟨h5, h6⟩ | ⟨h5, i, j, h6, h7, h8⟩
        · exact Or.inl ⟨h5, fun k hk hk2 => by
            by_cases e : k = n
            · subst e; rw [hh] at hk2; cases hk2
            · exact h6 k (by omega) hk2⟩
        · exact Or.inr ⟨h5, i, j, by omega, by omega, h8⟩
    | true =>
      simp only [if_true]
      refine Or.inr ⟨⟨n, by omega, hh, rfl⟩, ?_⟩
      rcases ih with ⟨h1, h2, h3⟩ | ⟨⟨k, h1, h2, h3⟩, h4⟩
      · left
        refine ⟨by simp [h1, h2], fun k hk hk2 => ?_⟩
        by_cases e : k = n
        · subst e; rfl
        · rw [h3 k (by omega)] at hk2; cases hk2
      · rcases h4 with ⟨h5, h6⟩ | ⟨h5, i, j, h6, h7, h8, h9, h10⟩
        · by_cases e : (acc k).1 = (acc n).1
          · left
            refine ⟨by simp [h5, h3, e], fun m hm hm2 => ?_⟩
            by_cases e2 : m = n
            · subst e2; rfl
            · rw [h6 m (by omega) hm2, h3, e]
          · right
            have := ha k (by omega)
            exact ⟨by rw [h5, h3]; simp; exact ⟨by omega, e⟩, k, n, by omega, by omega, h2, hh, e⟩
        · exact Or.inr ⟨by simp [h5], i, j, by omega, by omega, h8, h9, h10⟩
/-- The owner is what the loop finds. -/
theorem owner_want {E : Int} {d : List Pt} {acc : Nat → Int × Int} (h : Acc E d acc) {x y : ByteArray} (hr : okR x y = true) (hx : NamedF x) (hy : NamedE y) :
    (∃ o, 1 ≤ o ∧ ownerV d x y = (o, true, 0) ∧ wantL acc x y 64 = (o, true)) ∨ (ownerV d x y = (0, false, 0) ∧ (wantL acc x y 64).2 = false) := by
  obtain ⟨k0, hk0, hh0⟩ := key_inF hr hx hy
  have hw := wantL_says (acc := acc) (x := x) (y := y) (fun k hk => (h.one k hk).1) (Nat.le_refl 64)
  rcases owner_keys h hr hx hy with ⟨o, ho, hv, hall⟩ | ⟨hv, i, j, hi, hj, h1, h2, h3⟩
  · left
    refine ⟨o, ho, hv, ?_⟩
    rcases hw with ⟨_, _, h3⟩ | ⟨⟨k, hk, hh, hw1⟩, h4⟩
    · rw [h3 k0 hk0] at hh0; cases hh0
    · have e1 : (wantL acc x y 64).1 = o := by rw [hw1]; exact hall k hk hh
      rcases h4 with ⟨h5, _⟩ | ⟨_, a, b, ha, hb, h5, h6, h7⟩
      · exact Prod.ext e1 h5
      · rw [hall a ha h5, hall b hb h6] at h7; exact absurd rfl h7
  · right
    refine ⟨hv, ?_⟩
    rcases hw with ⟨_, _, h4⟩ | ⟨_, ⟨_, h4⟩ | ⟨h4, _⟩⟩
    · rw [h4 i hi] at h1; cases h1
    · rw [h4 i hi h1, h4 j hj h2] at h3; exact absurd rfl h3
    · exact h4
/-- The owner of a part is its group. -/
theorem owner_part {E : Int} {d : List Pt} {acc : Nat → Int × Int} (h : Acc E d acc) {p : Pt} (hp : p ∈ d) : ownerV d p.f p.t = (p.g, true, 0) := by
  have hok := (chT_ok h.ch).2 p hp
  obtain ⟨n1, n2⟩ := h.nm p hp
  have hk : ∀ k, k < 64 → hasR p.f p.t (nmS k) = true → (acc k).1 = p.g := fun k hk hh => by
    obtain ⟨q, hq1, hq2⟩ := h.at' k hk
    rw [chT_find_eq h.ch (nm_isName k) hp hh] at hq1
    cases hq1
    rw [hq2]
  obtain ⟨k0, hk0, hh0⟩ := key_in hok n1 n2
  rcases owner_keys h hok (Or.inl n1) n2 with ⟨o, ho, hv, hall⟩ | ⟨hv, i, j, hi, hj, h1, h2, h3⟩
  · rw [hv, ← hall k0 hk0 hh0, hk k0 hk0 hh0]
  · rw [hk i hi h1, hk j hj h2] at h3; exact absurd rfl h3
/-- A range and a name in it: the keys ahead of the name, and from it on. -/
theorem has_split {x y m k : ByteArray} (hr : okR x y = true) (hm : hasR x y m = true) (hk : isName k.data.toList = true) (hxm : okR x m = true) (hmy : okR m y = true) :
    hasR x m k = (hasR x y k && Op.bytesLess k.toList m.toList) ∧ hasR m y k = (hasR x y k && !Op.bytesLess k.toList m.toList) := by
  obtain ⟨f, R⟩ := ranks [x, y, m, k, ⟨#[]⟩]
  have hx : x ∈ [x, y, m, k, ⟨#[]⟩] := by simp
  have hy : y ∈ [x, y, m, k, ⟨#[]⟩] := by simp
  have hmm : m ∈ [x, y, m, k, ⟨#[]⟩] := by simp
  have hkk : k ∈ [x, y, m, k, ⟨#[]⟩] := by simp
  have hkn := name_pos R hkk hk
  have hmn : isName m.data.toList = true := by
    unfold hasR at hm
    simp only [Bool.and_eq_true] at hm
    exact hm.2.1
  have hmp := name_pos R hmm hmn
  rw [hasR_num R hx hy hmm, hr, hmn] at hm
  simp only [Bool.true_and, decide_eq_true_eq] at hm
  rw [hasR_num R hx hmm hkk, hasR_num R hmm hy hkk, hasR_num R hx hy hkk, R.lt k hkk m hmm, hr, hxm, hmy, hk]
  simp only [Bool.true_and]
  constructor
  · rw [Bool.eq_iff_iff]
    simp only [Bool.and_eq_true, decide_eq_true_eq]
    omega
  · rw [Bool.eq_iff_iff]
    simp only [Bool.and_eq_true, decide_eq_true_eq, Bool.not_eq_true', decide_eq_false_iff_not]
    omega
theorem cut_ok {x y m : ByteArray} (hr : okR x y = true) (hm : hasR x y m = true) (hne : m ≠ x) : okR x m = true ∧ okR m y = true := by
  obtain ⟨f, R⟩ := ranks [x, y, m, ⟨#[]⟩]
  have hx : x ∈ [x, y, m, ⟨#[]⟩] := by simp
  have hy : y ∈ [x, y, m, ⟨#[]⟩] := by simp
  have hmm : m ∈ [x, y, m, ⟨#[]⟩] := by simp
  have hmn : isName m.data.toList = true := by
    unfold hasR at hm
    simp only [Bool.and_eq_true] at hm
    exact hm.2.1
  have hmp := name_pos R hmm hmn
  have o1 := okR_left hr
  have o2 := okR_right hr
  have o3 := name_okS hmn
  have hne' : f m ≠ f x := fun e => hne (rank_eq R hmm hx e)
  rw [hasR_num R hx hy hmm, hr, hmn] at hm
  simp only [Bool.true_and, decide_eq_true_eq] at hm
  rw [okR_num R hx hmm, okR_num R hmm hy, o1, o2, o3]
  simp only [Bool.true_and, decide_eq_true_eq]
  omega
/-- The part of the first key has the keys ahead of it too. -/
theorem owner_first {E : Int} {d : List Pt} {acc : Nat → Int × Int} (h : Acc E d acc) (hr : okR ⟨#[]⟩ (nmS 0) = true) : ∃ o, 1 ≤ o ∧ ownerV d ⟨#[]⟩ (nmS 0) = (o, true, 0) ∧ (acc 0).1 = o := by
  obtain ⟨q0, hq0, hf0, hh0, ha0⟩ := h.key (k := 0) (by decide)
  have all : ∀ p ∈ d, tch ⟨#[]⟩ (nmS 0) p = true → hasR p.f p.t (nmS 0) = true := fun p hp ht => by
    have hok := (chT_ok h.ch).2 p hp
    obtain ⟨f, T, R, hT⟩ := nums [p.f, p.t, ⟨#[]⟩, nmS 0, nmS 1]
    obtain ⟨⟨j, hj, e1⟩, ⟨m, hm, e2⟩⟩ := h.nm p hp
    have i1 : p.f ∈ [p.f, p.t, ⟨#[]⟩, nmS 0, nmS 1] := by simp
    have i2 : p.t ∈ [p.f, p.t, ⟨#[]⟩, nmS 0, nmS 1] := by simp
    have i3 : (⟨#[]⟩ : ByteArray) ∈ [p.f, p.t, ⟨#[]⟩, nmS 0, nmS 1] := by simp
    have i4 : nmS 0 ∈ [p.f, p.t, ⟨#[]⟩, nmS 0, nmS 1] := by simp
    rw [tch_num R hT i1 i2 i3 i4 hok hr] at ht
    unfold ntch nOf at ht
    simp only [decide_eq_true_eq] at ht
    have z := (rank_zero R i3).2 rfl
    have n0 := name_pos R i4 (nm_isName 0)
    have en0 : en f T (nmS 0) = f (nmS 0) := by unfold en; rw [if_neg n0]
    have hlt : f p.f < f (nmS 0) := by omega
    have hb := R.lt p.f i1 (nmS 0) i4
    rw [decide_eq_true hlt, e1] at hb
    have hj0 : j = 0 := Classical.byContradiction fun h0 => by
      have e : lo j = nmS j := by unfold lo; exact if_neg h0
      rw [e, nm_lt hj (by decide)] at hb
      simp at hb
    have hpf : p.f = ⟨#[]⟩ := by rw [e1, hj0]; rfl
    rw [hasR_en R hT i1 i2 i4 hok (nm_isName 0)]
    refine decide_eq_true ⟨?_, ?_⟩
    · show f p.f ≤ f (nmS 0); omega
    · show f (nmS 0) < en f T p.t
      unfold en
      split
      · exact hT _ i4
      · rename_i hz
        have hm0 : m ≠ 0 := fun e => hz (by rw [e2, e]; exact z)
        have e : lo m = nmS m := by unfold lo; exact if_neg hm0
        have := R.lt (nmS 0) i4 p.t i2
        rw [e2, e, nm_lt (by decide) hm] at this
        have h9 : decide (0 < m) = true := decide_eq_true (by omega)
        rw [h9] at this
        have := of_decide_eq_true this.symm
        rw [e2, e]; exact this
  have grp : ∀ p ∈ d, tch ⟨#[]⟩ (nmS 0) p = true → p.g = (acc 0).1 := fun p hp ht => by
    have := chT_find_eq h.ch (nm_isName 0) hp (all p hp ht)
    rw [hf0] at this
    cases this
    rw [ha0]
  rcases owner_chain h.ch hr (fun p hp => (h.bd p hp).1) with ⟨o, ho, hall, hv⟩ | ⟨⟨p, hp, q, hq, tp, tq, hpq⟩, hv⟩
  · obtain ⟨p0, hp0, tp0⟩ := (move_says 1 h.ch hr).ne
    exact ⟨o, ho, hv, by rw [← grp p0 hp0 tp0, hall p0 hp0 tp0]⟩
  · rw [grp p hp tp, grp q hq tq] at hpq; exact absurd rfl hpq
/-- The owners of both halves of a range. -/
theorem owner_halves {E : Int} {d : List Pt} {acc : Nat → Int × Int} (h : Acc E d acc) {x y : ByteArray} (hr : okR x y = true) (hx : NamedE x) (hy : NamedE y) {c : Nat} (hc : c < 64) (hm : hasR x y (nmS c) = true) (hne : nmS c ≠ x) :
    ∃ o1 b1 o2 b2, ownerV d x (nmS c) = (o1, b1, 0) ∧ ownerV d (nmS c) y = (o2, b2, 0) ∧ (ownerV d x y).2.1 = (b1 && (b2 && decide (o1 = o2))) := by
  obtain ⟨k1, k2⟩ := cut_ok hr hm hne
  have sp := fun k (hk : k < 64) => has_split hr hm (nm_isName k) k1 k2
  have lowK : (∃ o, 1 ≤ o ∧ ownerV d x (nmS c) = (o, true, 0) ∧ OneG acc x (nmS c) o ∧ ∃ k, k < 64 ∧ hasR x y (nmS k) = true ∧ (acc k).1 = o) ∨ (ownerV d x (nmS c) = (0, false, 0) ∧ ∃ i j, i < 64 ∧ j < 64 ∧ hasR x y (nmS i) = true ∧ hasR x y (nmS j) = true ∧ (acc i).1 ≠ (acc j).1) := by
    by_cases hc0 : c = 0
    · subst hc0
      have hx0 : x = ⟨#[]⟩ := by
        obtain ⟨j, hj, e⟩ := hx
        have hb : Op.bytesLess (nmS 0).toList (lo j).toList = false := by
          unfold hasR at hm
          simp only [Bool.and_eq_true, Bool.not_eq_true'] at hm
          rw [← e]; exact hm.2.2.1
        rw [lo_lt (by decide) hj] at hb
        have := of_decide_eq_false hb
        have : j = 0 := by omega
        rw [e, this]; rfl
      subst hx0
      obtain ⟨o, ho, hv, ha⟩ := owner_first h k1
      refine Or.inl ⟨o, ho, hv, fun k hk hh => ?_, 0, by decide, hm, ha⟩
      rw [(sp k hk).1, nm_lt hk (by decide)] at hh
      simp at hh
    · have hn : NamedE (nmS c) := ⟨c, hc, by unfold lo; rw [if_neg hc0]⟩
      rcases owner_keys h k1 (Or.inl hx) hn with ⟨o, ho, hv, hall⟩ | ⟨hv, i, j, hi, hj, h1, h2, h3⟩
      · obtain ⟨k, hk, hh⟩ := key_in k1 hx hn
        refine Or.inl ⟨o, ho, hv, hall, k, hk, ?_, hall k hk hh⟩
        rw [(sp k hk).1] at hh
        simp only [Bool.and_eq_true] at hh; exact hh.1
      · refine Or.inr ⟨hv, i, j, hi, hj, ?_, ?_, h3⟩
        · rw [(sp i hi).1] at h1; simp only [Bool.and_eq_true] at h1; exact h1.1
        · rw [(sp j hj).1] at h2; simp only [Bool.and_eq_true] at h2; exact h2.1
  have highK := owner_keys h k2 (Or.inr ⟨c, hc, rfl⟩) hy
  have whole := owner_keys h hr (Or.inl hx) hy
  have hmid : ∀ k, k < 64 → hasR x y (nmS k) = true → hasR x (nmS c) (nmS k) = true ∨ hasR (nmS c) y (nmS k) = true := fun k hk hh => by
    rw [(sp k hk).1, (sp k hk).2, hh]
    cases Op.bytesLess (nmS k).toList (nmS c).toList <;> simp
  have up2 : ∀ k, k < 64 → hasR (nmS c) y (nmS k) = true → hasR x y (nmS k) = true := fun k hk hh => by
    rw [(sp k hk).2] at hh; simp only [Bool.and_eq_true] at hh; exact hh.1
  have hcc : hasR (nmS c) y (nmS c) = true := by rw [(sp c hc).2, hm, bl_irr]; rfl
  rcases lowK with ⟨o1, p1, v1, a1, k0, hk0, hh0, e0⟩ | ⟨v1, i, j, hi, hj, h1, h2, h3⟩
  · rcases highK with ⟨o2, p2, v2, a2⟩ | ⟨v2, i, j, hi, hj, h1, h2, h3⟩
    · refine ⟨o1, true, o2, true, v1, v2, ?_⟩
      by_cases e : o1 = o2
      · subst e
        rcases whole with ⟨o, ho, hv, _⟩ | ⟨hv, i, j, hi, hj, h1, h2, h3⟩
        · rw [hv]; simp
        · have g1 : (acc i).1 = o1 := by
            rcases hmid i hi h1 with q | q
            · exact a1 i hi q
            · exact a2 i hi q
          have g2 : (acc j).1 = o1 := by
            rcases hmid j hj h2 with q | q
            · exact a1 j hj q
            · exact a2 j hj q
          rw [g1, g2] at h3; exact absurd rfl h3
      · rcases whole with ⟨o, ho, hv, hall⟩ | ⟨hv, _⟩
        · have q1 := hall k0 hk0 hh0
          have q2 := hall c hc (up2 c hc hcc)
          have q3 := a2 c hc hcc
          exact absurd (by rw [← e0, q1, ← q2, q3]) e
        · rw [hv]; simp [e]
    · refine ⟨o1, true, 0, false, v1, v2, ?_⟩
      rcases whole with ⟨o, ho, hv, hall⟩ | ⟨hv, _⟩
      · have q1 := hall i hi (up2 i hi h1)
        have q2 := hall j hj (up2 j hj h2)
        rw [q1, q2] at h3; exact absurd rfl h3
      · rw [hv]; simp
  · rcases whole with ⟨o, ho, hv, hall⟩ | ⟨hv, _⟩
    · rw [hall i hi h1, hall j hj h2] at h3; exact absurd rfl h3
    · rcases highK with ⟨o2, p2, v2, a2⟩ | ⟨v2, _⟩
      · exact ⟨0, false, o2, true, v1, v2, by rw [hv]; simp⟩
      · exact ⟨0, false, 0, false, v1, v2, by rw [hv]; simp⟩
end Go.Proofs.YtkkkppbcjmeapaaDoor
