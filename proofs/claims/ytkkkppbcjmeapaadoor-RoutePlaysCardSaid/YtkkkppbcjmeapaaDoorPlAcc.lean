/- The account of the 64 keys: a move of a map whose ends are names is a move of the account. No condition. -/
import Derived.Test.YtkkkppbcjmeapaaDoorPlFull
namespace Go.Proofs.YtkkkppbcjmeapaaDoor

def NamedE (s : ByteArray) : Prop := ∃ j, j < 64 ∧ s = lo j
theorem named_em : NamedE ⟨#[]⟩ := ⟨0, by decide, rfl⟩
theorem sp_named (a b : Nat) : NamedE (spF a b) ∧ NamedE (spT a b) := by
  obtain ⟨h1, h2, h3⟩ := spanN_lt a b
  constructor
  · exact ⟨_, h1, rfl⟩
  · unfold spT
    split
    · exact named_em
    · exact ⟨_, h2, by unfold lo; rw [if_neg (by omega)]⟩
def NameD (d : List Pt) : Prop := ∀ p ∈ d, NamedE p.f ∧ NamedE p.t
theorem key_in {a b : ByteArray} (h : okR a b = true) (ha : NamedE a) (hb : NamedE b) : ∃ k, k < 64 ∧ hasR a b (nmS k) = true := by
  obtain ⟨j, hj, rfl⟩ := ha
  obtain ⟨m, hm, rfl⟩ := hb
  refine ⟨j, hj, ?_⟩
  have h' := h
  unfold okR at h'
  simp only [Bool.and_eq_true, Bool.or_eq_true] at h'
  have h4 : ((nmS j).toList == ([] : List UInt8)) = false := beq_eq_false_iff_ne.2 (by rw [toL]; exact fun e => by cases e)
  have he : endLt (nmS j) (lo m) = true := by
    by_cases h0 : m = 0
    · have e : lo m = ⟨#[]⟩ := by unfold lo; exact if_pos h0
      unfold endLt
      rw [e, toL ⟨#[]⟩]
      rw [show ((nmS j).toList == (({ data := #[] } : ByteArray).data.toList)) = false from h4]; rfl
    · have e : lo m = nmS m := by unfold lo; exact if_neg h0
      have h5 : ((nmS m).toList == ([] : List UInt8)) = false := beq_eq_false_iff_ne.2 (by rw [toL]; exact fun e => by cases e)
      have h6 : j < m := by
        rw [e, h5] at h'
        by_cases hj0 : j = 0
        · omega
        · have e2 : lo j = nmS j := by unfold lo; exact if_neg hj0
          rw [e2, nm_lt hj hm] at h'
          simpa using h'.2.2
      unfold endLt
      rw [e, nm_lt hj hm, h4, beq_eq_false_iff_ne.2 (fun q => by
        have := nm_lt hj hm
        rw [q, bl_irr] at this
        have := of_decide_eq_false this.symm
        omega)]
      simp [h6]
  unfold hasR
  rw [h, nm_isName, lo_lt hj hj, he]
  simp
theorem tch_key {p : Pt} {x y : ByteArray} (hp : okR p.f p.t = true) (hr : okR x y = true) (n1 : NamedE p.f) (n2 : NamedE p.t) (n3 : NamedE x) (n4 : NamedE y) (ht : tch x y p = true) :
    ∃ k, k < 64 ∧ hasR p.f p.t (nmS k) = true ∧ hasR x y (nmS k) = true := by
  have h : okR (maxS p.f x) (minE p.t y) = true := by
    unfold tch at ht
    simp only [Bool.and_eq_true] at ht
    exact ht.2
  have m1 : NamedE (maxS p.f x) := by rcases maxS_or p.f x with e | e <;> rw [e] <;> assumption
  have m2 : NamedE (minE p.t y) := by rcases minE_or p.t y with e | e <;> rw [e] <;> assumption
  obtain ⟨k, hk, hk2⟩ := key_in h m1 m2
  obtain ⟨a, b⟩ := key_of_tch hp hr hk2 ht
  exact ⟨k, hk, a, b⟩
theorem epL_filt (x y : ByteArray) : ∀ (l : List Pt) (s : Nat) (m : Int), ((ix s l).filter (fun q => tch x y q.2)).foldl (fun m q => max m q.2.e) m = (l.filter (tch x y)).foldl (fun m p => max m p.e) m
  | [], _, _ => rfl
  | p :: l, s, m => by
    rw [ix, List.filter_cons, List.filter_cons]
    by_cases h : tch x y p = true
    · simp only [h, if_true, List.foldl_cons]
      exact epL_filt x y l (s + 1) _
    · simp only [h]
      exact epL_filt x y l (s + 1) m
theorem epL_mx (d : List Pt) (x y : ByteArray) : epL (tl d x y d.length) = mxE (d.filter (tch x y)) := by
  rw [tl_ix, List.take_length]
  exact epL_filt x y d 0 0

/-- What the account finds among the first n keys: the group of those of a range, and the epoch; none: it is not possible. -/
def accL (acc : Nat → Int × Int) (x y : ByteArray) (g : Int) : Nat → Option (Int × Int)
  | 0 => some (0, 0)
  | k + 1 => match accL acc x y g k with
    | none => none
    | some (o, e) => if hasR x y (nmS k) = true then (if (o ≠ 0 ∧ o ≠ (acc k).1) ∨ (acc k).1 = g then none else some ((acc k).1, max e ((acc k).2 + 1))) else some (o, e)
def accSet (acc : Nat → Int × Int) (x y : ByteArray) (g e : Int) (k : Nat) : Int × Int := if hasR x y (nmS k) = true then (g, e) else acc k
theorem accL_some {acc : Nat → Int × Int} {x y : ByteArray} {g : Int} (ha : ∀ k, k < 64 → 1 ≤ (acc k).1) : ∀ {n : Nat} {o e : Int}, n ≤ 64 → accL acc x y g n = some (o, e) →
    (∀ k, k < n → hasR x y (nmS k) = true → (acc k).1 = o ∧ (acc k).1 ≠ g ∧ (acc k).2 + 1 ≤ e) ∧ ((o = 0 ∧ e = 0) ∨ ∃ k, k < n ∧ hasR x y (nmS k) = true ∧ o = (acc k).1 ∧ ∃ k', k' < n ∧ hasR x y (nmS k') = true ∧ (e = (acc k').2 + 1 ∨ e = 0 )) 
  | 0, o, e, _, h => by
    simp only [accL, Option.some.injEq, Prod.mk.injEq] at h
    exact ⟨fun k hk => by omega, Or.inl ⟨h.1.symm, h.2.symm⟩⟩
  | n + 1, o, e, hn, h => by
    unfold accL at h
    split at h
    · cases h
    · rename_i o' e' hk
      have ih := accL_some ha (n := n) (by omega) hk
      split at h
      · rename_i hh
        split at h
        · cases h
        · rename_i hc
          simp only [Option.some.injEq, Prod.mk.injEq] at h
          obtain ⟨rfl, rfl⟩ := h
          have hc1 : o' = 0 ∨ o' = (acc n).1 := by
            rcases Classical.em (o' = 0) with h1 | h1
            · exact Or.inl h1
            · exact Or.inr (Classical.byContradiction fun h2 => hc (Or.inl ⟨h1, h2⟩))
          have hc2 : (acc n).1 ≠ g := fun h2 => hc (Or.inr h2)
          refine ⟨fun k hk' hkh => ?_, Or.inr ⟨n, by omega, hh, rfl, ?_⟩⟩
          · by_cases hkn : k = n
            · subst hkn
              exact ⟨rfl, hc2, by omega⟩
            · obtain ⟨i1, i2, i3⟩ := ih.1 k (by omega) hkh
              have := ha k (by omega)
              rcases hc1 with h1 | h1
              · omega
              · exact ⟨by omega, i2, by omega⟩
          · rcases ih.2 with ⟨_, h2⟩ | ⟨_, _, _, _, k', hk', hkh, h3⟩
            · by_cases hm : e' ≤ (acc n).2 + 1
              · exact ⟨n, by omega, hh, Or.inl (by omega)⟩
              · exact ⟨n, by omega, hh, Or.inr (by omega)⟩
            · by_cases hm : e' ≤ (acc n).2 + 1
              · exact ⟨n, by omega, hh, Or.inl (by omega)⟩
              · exact ⟨k', by omega, hkh, by omega⟩
      · rename_i hh
        simp only [Option.some.injEq, Prod.mk.injEq] at h
        obtain ⟨rfl, rfl⟩ := h
        refine ⟨fun k hk' hkh => ?_, ?_⟩
        · by_cases hkn : k = n
          · subst hkn; exact absurd hkh hh
          · exact ih.1 k (by omega) hkh
        · rcases ih.2 with h2 | ⟨k, h2, h3, h4, k', h5, h6, h7⟩
          · exact Or.inl h2
          · exact Or.inr ⟨k, by omega, h3, h4, k', by omega, h6, h7⟩
theorem accL_none {acc : Nat → Int × Int} {x y : ByteArray} {g : Int} : ∀ {n : Nat}, accL acc x y g n = none →
    (∃ k k', k < n ∧ k' < n ∧ hasR x y (nmS k) = true ∧ hasR x y (nmS k') = true ∧ (acc k).1 ≠ (acc k').1) ∨ (∃ k, k < n ∧ hasR x y (nmS k) = true ∧ (acc k).1 = g)
  | 0, h => by cases h
  | n + 1, h => by
    have up : ((∃ k k', k < n ∧ k' < n ∧ hasR x y (nmS k) = true ∧ hasR x y (nmS k') = true ∧ (acc k).1 ≠ (acc k').1) ∨ (∃ k, k < n ∧ hasR x y (nmS k) = true ∧ (acc k).1 = g)) →
      ((∃ k k', k < n + 1 ∧ k' < n + 1 ∧ hasR x y (nmS k) = true ∧ hasR x y (nmS k') = true ∧ (acc k).1 ≠ (acc k').1) ∨ (∃ k, k < n + 1 ∧ hasR x y (nmS k) = true ∧ (acc k).1 = g)) := by
      rintro (⟨k, k', h1, h2, h3⟩ | ⟨k, h1, h2⟩)
      · exact Or.inl ⟨k, k', by omega, by omega, h3⟩
      · exact Or.inr ⟨k, by omega, h2⟩
    unfold accL at h
    split at h
    · rename_i hk
      exact up (accL_none hk)
    · rename_i o e hk
      split at h
      · rename_i hh
        split at h
        · rename_i hc
          rcases hc with ⟨h1, h2⟩ | h1
          · -- the owner is that of an earlier key
            have : ∀ {m : Nat} {o e : Int}, accL acc x y g m = some (o, e) → o ≠ 0 → ∃ k, k < m ∧ hasR x y (nmS k) = true ∧ o = (acc k).1 := by
              intro m
              induction m with
              | zero => intro o e h h0; simp only [accL, Option.some.injEq, Prod.mk.injEq] at h; exact absurd h.1.symm h0
              | succ m ih =>
                intro o e h h0
                unfold accL at h
                split at h
                · cases h
                · rename_i o' e' hk'
                  split at h
                  · rename_i hh'
                    split at h
                    · cases h
                    · simp only [Option.some.injEq, Prod.mk.injEq] at h
                      exact ⟨m, by omega, hh', h.1.symm⟩
                  · simp only [Option.some.injEq, Prod.mk.injEq] at h
                    obtain ⟨k, i1, i2, i3⟩ := ih hk' (by rw [h.1]; exact h0)
                    exact ⟨k, by omega, i2, by rw [← h.1]; exact i3⟩
            obtain ⟨k, i1, i2, i3⟩ := this hk h1
            exact Or.inl ⟨k, n, by omega, by omega, i2, hh, by rw [← i3]; exact h2⟩
          · exact Or.inr ⟨n, by omega, hh, h1⟩
        · cases h
      · cases h
/-- The account says what the map says. -/
structure Acc (E : Int) (d : List Pt) (acc : Nat → Int × Int) : Prop where
  ch : ChT ⟨#[]⟩ d
  nm : NameD d
  bd : ∀ p ∈ d, 1 ≤ p.g ∧ p.g < 8 ∧ 1 ≤ p.e ∧ p.e ≤ E
  at' : ∀ k, k < 64 → ∃ q, findP d (nmS k) = some q ∧ acc k = (q.g, q.e)
theorem Acc.key {E : Int} {d : List Pt} {acc : Nat → Int × Int} (h : Acc E d acc) {k : Nat} (hk : k < 64) : ∃ q ∈ d, findP d (nmS k) = some q ∧ hasR q.f q.t (nmS k) = true ∧ acc k = (q.g, q.e) := by
  obtain ⟨q, h1, h2⟩ := h.at' k hk
  exact ⟨q, List.mem_of_find?_eq_some h1, h1, List.find?_some (p := fun p : Pt => hasR p.f p.t (nmS k)) h1, h2⟩
theorem Acc.one {E : Int} {d : List Pt} {acc : Nat → Int × Int} (h : Acc E d acc) : ∀ k, k < 64 → 1 ≤ (acc k).1 ∧ (acc k).1 < 8 ∧ 1 ≤ (acc k).2 ∧ (acc k).2 ≤ E := fun k hk => by
  obtain ⟨q, hq, _, _, h2⟩ := h.key hk
  rw [h2]; exact h.bd q hq
theorem Acc.touch {E : Int} {d : List Pt} {acc : Nat → Int × Int} (h : Acc E d acc) {x y : ByteArray} (hr : okR x y = true) (hx : NamedE x) (hy : NamedE y) {p : Pt} (hp : p ∈ d) (ht : tch x y p = true) : ∃ k, k < 64 ∧ hasR x y (nmS k) = true ∧ acc k = (p.g, p.e) := by
  have hok := (chT_ok h.ch).2 p hp
  obtain ⟨k, hk, h1, h2⟩ := tch_key hok hr (h.nm p hp).1 (h.nm p hp).2 hx hy ht
  obtain ⟨q, hq1, hq2⟩ := h.at' k hk
  rw [chT_find_eq h.ch (nm_isName k) hp h1] at hq1
  cases hq1
  exact ⟨k, hk, h2, hq2⟩
theorem Acc.hasK {E : Int} {d : List Pt} {acc : Nat → Int × Int} (h : Acc E d acc) {x y : ByteArray} (hr : okR x y = true) {k : Nat} (hk : k < 64) (hh : hasR x y (nmS k) = true) : ∃ p ∈ d, tch x y p = true ∧ acc k = (p.g, p.e) := by
  obtain ⟨q, hq, _, h1, h2⟩ := h.key hk
  exact ⟨q, hq, tch_of_key ((chT_ok h.ch).2 q hq) hr h1 hh, h2⟩
/-- A move by the account. -/
theorem acc_move {E : Int} {d : List Pt} {acc : Nat → Int × Int} (h : Acc E d acc) (hE : E < 2147483647) (hE0 : 0 ≤ E) {x y : ByteArray} (hr : okR x y = true) (hx : NamedE x) (hy : NamedE y) {g : Int} (hg : 1 ≤ g ∧ g < 8) (hlen : d.length ≤ 62) :
    (accL acc x y g 64 = none ∧ moveV d x y g = (0, 9, d)) ∨ (∃ o e, accL acc x y g 64 = some (o, e) ∧ moveV d x y g = (e, 0, newL d x y g) ∧ Acc (E + 1) (newL d x y g) (accSet acc x y g e) ∧ (newL d x y g).length ≤ d.length + 2 ∧ ownerV d x y = (o, true, 0) ∧ o ≠ g ∧ 1 ≤ e ∧ e ≤ E + 1) := by
  have ha : ∀ k, k < 64 → 1 ≤ (acc k).1 := fun k hk => (h.one k hk).1
  have hs := move_says g h.ch hr
  have mv9 : ∀ {o b}, ownerV d x y = (o, b, 0) → (b = false ∨ o = g) → moveV d x y g = (0, 9, d) := fun {o b} hv hb => by
    unfold moveV
    rw [hv, if_neg (by simp), if_neg (by simpa using hg), if_pos hb]
  rcases owner_chain h.ch hr (fun p hp => (h.bd p hp).1) with ⟨o, ho, hall, hv⟩ | ⟨⟨p, hp, q, hq, tp, tq, hpq⟩, hv⟩
  · cases hacc : accL acc x y g 64 with
    | none =>
      left
      refine ⟨rfl, mv9 hv (Or.inr ?_)⟩
      rcases accL_none hacc with ⟨k, k', hk, hk', h1, h2, h3⟩ | ⟨k, hk, h1, h2⟩
      · obtain ⟨p, hp, tp, ep⟩ := h.hasK hr hk h1
        obtain ⟨q, hq, tq, eq⟩ := h.hasK hr hk' h2
        rw [ep, eq, hall p hp tp, hall q hq tq] at h3
        exact absurd rfl h3
      · obtain ⟨p, hp, tp, ep⟩ := h.hasK hr hk h1
        rw [ep] at h2
        rw [← hall p hp tp]; exact h2
    | some oe =>
      obtain ⟨o', e⟩ := oe
      right
      obtain ⟨s1, s2⟩ := accL_some ha (Nat.le_refl 64) hacc
      obtain ⟨p0, hp0, tp0⟩ := hs.ne
      obtain ⟨k0, hk0, hh0, ha0⟩ := h.touch hr hx hy hp0 tp0
      obtain ⟨i1, i2, i3⟩ := s1 k0 hk0 hh0
      rw [ha0] at i1 i2 i3
      have ho' : o' = o := by rw [← i1]; exact hall p0 hp0 tp0
      subst ho'
      have hog : o' ≠ g := by rw [← i1]; exact i2
      have he : e = mxE (d.filter (tch x y)) + 1 := by
        have hub : mxE (d.filter (tch x y)) ≤ e - 1 := mxE_le _ _ _ (by have := (h.bd p0 hp0).2.2.1; simp only at i3; omega) (fun p hp => by
          obtain ⟨hp1, hp2⟩ := List.mem_filter.1 hp
          obtain ⟨k, hk, hh, hak⟩ := h.touch hr hx hy hp1 hp2
          have := (s1 k hk hh).2.2
          rw [hak] at this; simp only at this; omega)
        have hlb := mxE_ge (d.filter (tch x y)) 0
        rcases s2 with ⟨_, h2⟩ | ⟨k, _, _, _, k', hk', hh', h3⟩
        · have := (h.bd p0 hp0).2.2.1; simp only at i3; omega
        · obtain ⟨p, hp, tp, ep⟩ := h.hasK hr hk' hh'
          have := hlb.2 p (List.mem_filter.2 ⟨hp, tp⟩)
          rw [ep] at h3
          have h1 := (h.bd p hp).2.2.1
          have h0 := (h.bd p0 hp0).2.2.1
          simp only at i3
          unfold mxE at hub ⊢
          rcases h3 with h3 | h3
          · simp only at h3; omega
          · omega
      have hEe : e ≤ E + 1 := by
        rw [he]
        have := mxE_le (d.filter (tch x y)) 0 E hE0 (fun p hp => (h.bd p (List.mem_filter.1 hp).1).2.2.2)
        unfold mxE; omega
      have hmin : min (mxE (d.filter (tch x y)) + 1) 2147483648 = e := by omega
      have hmvE : mvE d x y = e := hmin
      have hl := hs.len
      have he1 : 1 ≤ e := by have := (h.bd p0 hp0).2.2.1; simp only at i3; omega
      refine ⟨o', e, rfl, ?_, ?_, hl, hv, hog, he1, hEe⟩
      · unfold moveV
        rw [hv, if_neg (by simp), if_neg (by simpa using hg), if_neg (by simp [hog]), if_neg (by omega), epL_mx, hmin]
      · refine ⟨hs.ch, fun p hp => ?_, fun p hp => ?_, fun k hk => ?_⟩
        · have inD : ∀ {s : ByteArray}, (s = x ∨ s = y ∨ s ∈ txsP d) → NamedE s := fun {s} hs' => by
            rcases hs' with e | e | e
            · rw [e]; exact hx
            · rw [e]; exact hy
            · obtain ⟨q, hq, hqe⟩ := List.mem_flatMap.1 e
              simp only [List.mem_cons, List.not_mem_nil, or_false] at hqe
              rcases hqe with e | e
              · rw [e]; exact (h.nm q hq).1
              · rw [e]; exact (h.nm q hq).2
          obtain ⟨t1, t2⟩ := hs.txt p hp
          exact ⟨inD t1, inD t2⟩
        · rcases hs.grp p hp with rfl | ⟨q, hq, h1, h2⟩
          · exact ⟨hg.1, hg.2, by show 1 ≤ mvE d x y; omega, by show mvE d x y ≤ _; omega⟩
          · have := h.bd q hq
            rw [← h1, ← h2]; omega
        · obtain ⟨q, hq, hq1, hq2⟩ := hs.at' (nmS k) (nm_isName k)
          refine ⟨q, hq, ?_⟩
          unfold accSet
          by_cases hh : hasR x y (nmS k) = true
          · rw [if_pos hh, hq1 hh, hmvE]
          · rw [if_neg hh]
            obtain ⟨p, hp, h1, h2⟩ := hq2 (by simpa using hh)
            obtain ⟨p', hp', h3⟩ := h.at' k hk
            rw [hp] at hp'; cases hp'
            rw [h3, h1, h2]
  · left
    refine ⟨?_, mv9 hv (Or.inl rfl)⟩
    cases hacc : accL acc x y g 64 with
    | none => rfl
    | some oe =>
      obtain ⟨o', e⟩ := oe
      obtain ⟨s1, _⟩ := accL_some ha (Nat.le_refl 64) hacc
      obtain ⟨k, hk, hh, hak⟩ := h.touch hr hx hy hp tp
      obtain ⟨k', hk', hh', hak'⟩ := h.touch hr hx hy hq tq
      have i1 := (s1 k hk hh).1
      have i2 := (s1 k' hk' hh').1
      rw [hak] at i1
      rw [hak'] at i2
      exact absurd (i1.trans i2.symm) hpq
end Go.Proofs.YtkkkppbcjmeapaaDoor
