/- Plain words and laws: the reader of ident as functions on lists of bytes; just the texts of valid effects and items are read, as what they are the texts of. No condition. -/
import Derived.Test.YtmbnhbocablgeaaDoorPlParse
namespace Go.Proofs.YtmbnhbocablgeaaDoor

/-- The reader's state: what is left, and whether nothing was wrong. -/
abbrev RS := List UInt8 × Bool
def rWord (p : List UInt8) (r : RS) : RS := (Lib.trimPrefix r.1 p, r.2)
def rNeed (p : List UInt8) (r : RS) : RS := (Lib.trimPrefix r.1 p, Lib.hasPrefix r.1 p && r.2)
def rNumV (l : List UInt8) : Int := if numOk (lead l) then (dv (lead l) : Int) else 0
def rNum (r : RS) : RS := (r.1.drop (lead r.1).length, r.2 && numOk (lead r.1))
def phI (c : UInt8) : Int := 1 + Lib.indexByte [102, 117, 114] c
structure Eff3 where
  a : Int
  b : Int
  c : Int
  deriving DecidableEq
/-- The effect that is taken, and what is left. -/
def rEffV (r : RS) : Eff3 :=
  let r1 := rNeed [47] (rNum r)
  let r2 := rNeed [47] (rNum r1)
  ⟨rNumV r.1, rNumV r1.1, match r2.1 with | [] => 0 | c :: _ => phI c⟩
def rEffS (r : RS) : RS :=
  let r1 := rNeed [47] (rNum r)
  let r2 := rNeed [47] (rNum r1)
  match r2.1 with | [] => ([], false) | _ :: t => (t, r2.2)
/-- What a text is read as. -/
def pEff (l : List UInt8) : Option Eff3 :=
  if (rEffS (l, true)).2 = true ∧ (rEffS (l, true)).1 = [] ∧ effOk (rEffV (l, true)).a (rEffV (l, true)).b (rEffV (l, true)).c then some (rEffV (l, true)) else none

theorem takeWhile_append_stop {p : UInt8 → Bool} {a : List UInt8} {x : UInt8} {b : List UInt8} (h : a.all p = true) (hx : p x = false) : (a ++ x :: b).takeWhile p = a := by
  induction a with
  | nil => simp [hx]
  | cons y a ih =>
    simp only [List.all_cons, Bool.and_eq_true] at h
    simp [h.1, ih h.2]
theorem takeWhile_all {p : UInt8 → Bool} {a : List UInt8} (h : a.all p = true) : a.takeWhile p = a := by
  induction a with
  | nil => rfl
  | cons y a ih =>
    simp only [List.all_cons, Bool.and_eq_true] at h
    simp [h.1, ih h.2]
theorem lead_all (l : List UInt8) : (lead l).all isDig = true := by
  unfold lead
  induction l with
  | nil => rfl
  | cons c l ih =>
    by_cases h : isDig c = true
    · simp [h, ih]
    · simp [h]
theorem lead_drop (l : List UInt8) : lead l ++ l.drop (lead l).length = l := by
  unfold lead
  induction l with
  | nil => rfl
  | cons c l ih =>
    by_cases h : isDig c = true
    · simp [h, ih]
    · simp [h]

theorem trimPrefix_yes (p t : List UInt8) : Lib.trimPrefix (p ++ t) p = t ∧ Lib.hasPrefix (p ++ t) p = true := by
  have h : Lib.hasPrefix (p ++ t) p = true := by
    unfold Lib.hasPrefix
    rw [List.isPrefixOf_iff_prefix]
    exact List.prefix_append p t
  refine ⟨?_, h⟩
  unfold Lib.trimPrefix
  rw [if_pos h]
  simp
theorem hasPrefix_split {l p : List UInt8} (h : Lib.hasPrefix l p = true) : l = p ++ Lib.trimPrefix l p := by
  unfold Lib.trimPrefix
  rw [if_pos h]
  unfold Lib.hasPrefix at h
  rw [List.isPrefixOf_iff_prefix] at h
  obtain ⟨t, rfl⟩ := h
  simp

/-- A number and a byte that is no digit: read. -/
theorem rNum_text {n : Int} (h0 : 0 ≤ n) (h : n ≤ 9999) {x : UInt8} (hx : isDig x = false) (t : List UInt8) (k : Bool) :
    rNum (dgs n ++ x :: t, k) = (x :: t, k) ∧ rNumV (dgs n ++ x :: t) = n := by
  obtain ⟨h1, h2, h3⟩ := numOk_dgs h0 h
  have hl : lead (dgs n ++ x :: t) = dgs n := takeWhile_append_stop h2 hx
  unfold rNum rNumV
  simp only [hl, h1, Bool.and_true, if_true, h3]
  simp
theorem rNum_end {n : Int} (h0 : 0 ≤ n) (h : n ≤ 9999) (k : Bool) : rNum (dgs n, k) = ([], k) ∧ rNumV (dgs n) = n := by
  obtain ⟨h1, h2, h3⟩ := numOk_dgs h0 h
  have hl : lead (dgs n) = dgs n := takeWhile_all h2
  unfold rNum rNumV
  simp only [hl, h1, Bool.and_true, if_true, h3]
  simp
/-- What is read well as a number is the number's text, with what is left behind it. -/
theorem rNum_back {l : List UInt8} {k : Bool} (h : (rNum (l, k)).2 = true) : k = true ∧ l = dgs (rNumV l) ++ (rNum (l, k)).1 ∧ 0 ≤ rNumV l ∧ rNumV l ≤ 9999 := by
  unfold rNum at h ⊢
  simp only [Bool.and_eq_true] at h
  obtain ⟨hk, hn⟩ := h
  obtain ⟨e1, e2⟩ := dgs_numOk (lead_all l) hn
  unfold rNumV
  rw [if_pos hn, e1]
  exact ⟨hk, (lead_drop l).symm, by omega, e2⟩
theorem rNeed_back {p l : List UInt8} {k : Bool} (h : (rNeed p (l, k)).2 = true) : k = true ∧ l = p ++ (rNeed p (l, k)).1 := by
  unfold rNeed at h ⊢
  simp only [Bool.and_eq_true] at h
  exact ⟨h.2, hasPrefix_split h.1⟩

theorem phI_phL {c : Int} (h1 : 1 ≤ c) (h2 : c ≤ 3) : phI (phL c) = c := by
  obtain rfl | rfl | rfl : c = 1 ∨ c = 2 ∨ c = 3 := by omega
  all_goals decide
theorem phL_phI {x : UInt8} (h : 1 ≤ phI x) : phL (phI x) = x ∧ phI x ≤ 3 := by
  have key := u8_all (fun x => !decide (1 ≤ phI x) || (phL (phI x) == x && decide (phI x ≤ 3))) (by decide +kernel) x
  simpa [h] using key

/-- An effect's text, with anything behind it, is read as the effect. -/
theorem rEff_text {a b c : Int} (h : effOk a b c) (t : List UInt8) (k : Bool) : rEffV (effText a b c ++ t, k) = ⟨a, b, c⟩ ∧ rEffS (effText a b c ++ t, k) = (t, k) := by
  obtain ⟨h1, h2, h3, h4, h5, h6⟩ := h
  have e : effText a b c ++ t = dgs a ++ 47 :: (dgs b ++ 47 :: (phL c :: t)) := by simp [effText]
  rw [e]
  have n1 := rNum_text (n := a) (by omega) h2 (x := 47) (by decide) (dgs b ++ 47 :: (phL c :: t)) k
  have n2 := rNum_text (n := b) h3 (by omega) (x := 47) (by decide) (phL c :: t) k
  have q1 : rNeed [47] (47 :: (dgs b ++ 47 :: (phL c :: t)), k) = (dgs b ++ 47 :: (phL c :: t), k) := by
    have := trimPrefix_yes [47] (dgs b ++ 47 :: (phL c :: t))
    simp only [List.cons_append, List.nil_append] at this
    simp [rNeed, this]
  have q2 : rNeed [47] (47 :: (phL c :: t), k) = (phL c :: t, k) := by
    have := trimPrefix_yes [47] (phL c :: t)
    simp only [List.cons_append, List.nil_append] at this
    simp [rNeed, this]
  unfold rEffV rEffS
  simp only [n1.1, n1.2, q1, n2.1, n2.2, q2, phI_phL h5 h6, and_self]
theorem pEff_text {a b c : Int} (h : effOk a b c) : pEff (effText a b c) = some ⟨a, b, c⟩ := by
  have h1 := rEff_text h [] true
  rw [List.append_nil] at h1
  unfold pEff
  rw [h1.1, h1.2, if_pos ⟨rfl, rfl, h⟩]
/-- What is read well as an effect is the effect's text, with what is left behind it. -/
theorem rEff_back {l : List UInt8} {k : Bool} (h : (rEffS (l, k)).2 = true) (hv : effOk (rEffV (l, k)).a (rEffV (l, k)).b (rEffV (l, k)).c) :
    k = true ∧ l = effText (rEffV (l, k)).a (rEffV (l, k)).b (rEffV (l, k)).c ++ (rEffS (l, k)).1 := by
  unfold rEffS rEffV at *
  dsimp only at *
  generalize hr1 : rNeed [47] (rNum (l, k)) = r1 at *
  generalize hr2 : rNeed [47] (rNum r1) = r2 at *
  obtain ⟨l1, k1⟩ := r1
  obtain ⟨l2, k2⟩ := r2
  cases l2 with
  | nil => simp at h
  | cons x t =>
    dsimp only at *
    subst h
    generalize hm1 : rNum (l, k) = m1 at *
    generalize hm2 : rNum (l1, k1) = m2 at *
    obtain ⟨a1, b1⟩ := m1
    obtain ⟨a2, b2⟩ := m2
    have s4 := rNeed_back (p := [47]) (l := a2) (k := b2) (by rw [hr2])
    rw [hr2] at s4
    obtain ⟨rfl, s4⟩ := s4
    have s3 := rNum_back (l := l1) (k := k1) (by rw [hm2])
    rw [hm2] at s3
    obtain ⟨rfl, s3, _, _⟩ := s3
    have s2 := rNeed_back (p := [47]) (l := a1) (k := b1) (by rw [hr1])
    rw [hr1] at s2
    obtain ⟨rfl, s2⟩ := s2
    have s1 := rNum_back (l := l) (k := k) (by rw [hm1])
    rw [hm1] at s1
    obtain ⟨rfl, s1, _, _⟩ := s1
    refine ⟨rfl, ?_⟩
    have hp := (phL_phI (x := x) hv.2.2.2.2.1).1
    unfold effText
    rw [hp]
    dsimp only at s1 s2 s3 s4
    conv => lhs; rw [s1, s2, s3, s4]
    simp
theorem pEff_some {l : List UInt8} {x : Eff3} (h : pEff l = some x) : effOk x.a x.b x.c ∧ effText x.a x.b x.c = l := by
  unfold pEff at h
  split at h
  · rename_i hc
    obtain ⟨h1, h2, h3⟩ := hc
    obtain rfl := Option.some.inj h
    refine ⟨h3, ?_⟩
    have := (rEff_back h1 h3).2
    rw [h2, List.append_nil] at this
    exact this.symm
  · cases h
theorem effText_inj {a b c x y z : Int} (h : effOk a b c) (h' : effOk x y z) (e : effText a b c = effText x y z) : a = x ∧ b = y ∧ c = z := by
  have h1 := pEff_text h
  rw [e, pEff_text h'] at h1
  have := Option.some.inj h1
  injection this with e1 e2 e3
  exact ⟨e1.symm, e2.symm, e3.symm⟩
end Go.Proofs.YtmbnhbocablgeaaDoor
