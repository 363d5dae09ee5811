/- Plain words and laws: just the texts of valid items are read, as what they are the texts of. No condition. -/
import Derived.Test.YtmbnhbocablgeaaDoorPlRead
namespace Go.Proofs.YtmbnhbocablgeaaDoor

structure Item6 where
  a : Int
  b : Int
  c : Int
  m : Int
  i : Bool
  g : Int
  deriving DecidableEq
def inL : List UInt8 := [47, 105, 110]
def outL : List UInt8 := [47, 111, 117, 116]
/-- Behind the 'm': the move, which way, and what is left. -/
def rMoveI (r : RS) : Bool := Lib.hasPrefix (rNum r).1 inL
def rMoveS (r : RS) : RS := let r1 := rNum r; let r2 := if Lib.hasPrefix r1.1 inL then rWord inL r1 else rNeed outL r1; (r2.1, r2.2 && decide (0 < rNumV r.1))
def rHeadV (l : List UInt8) : Item6 :=
  if Lib.hasPrefix l [109] then ⟨0, 0, 0, rNumV (Lib.trimPrefix l [109]), rMoveI (Lib.trimPrefix l [109], true), 0⟩ else ⟨(rEffV (l, true)).a, (rEffV (l, true)).b, (rEffV (l, true)).c, 0, false, 0⟩
def rHeadS (l : List UInt8) : RS := if Lib.hasPrefix l [109] then rMoveS (Lib.trimPrefix l [109], true) else rEffS (l, true)
def rItemV (l : List UInt8) : Item6 := { rHeadV l with g := rNumV (rNeed [64] (rHeadS l)).1 }
def rItemS (l : List UInt8) : RS := rNum (rNeed [64] (rHeadS l))
def pItem (l : List UInt8) : Option Item6 :=
  if (rItemS l).2 = true ∧ (rItemS l).1 = [] ∧ itemOk (rItemV l).a (rItemV l).b (rItemV l).c (rItemV l).m (rItemV l).i (rItemV l).g then some (rItemV l) else none

theorem dgs_head (n : Int) : ∃ x t, dgs n = x :: t ∧ isDig x = true := by
  obtain ⟨h1, _, h3, _⟩ := decDigits_spec n.toNat
  unfold dgs
  cases e : Lib.decDigits n.toNat with
  | nil => rw [e] at h3; simp at h3
  | cons x t =>
    rw [e] at h1
    simp only [List.all_cons, Bool.and_eq_true] at h1
    exact ⟨x, t, rfl, h1.1⟩
theorem effText_notM {a b c : Int} (t : List UInt8) : Lib.hasPrefix (effText a b c ++ t) [109] = false := by
  obtain ⟨x, y, e, hx⟩ := dgs_head a
  unfold effText
  rw [e]
  have h9 : (109 == x) = false := by rw [beq_eq_false_iff_ne]; rintro rfl; revert hx; decide
  show ((109 == x) && _) = false
  rw [h9]; rfl

theorem rTail {g : Int} (h1 : 1 ≤ g) (h2 : g ≤ 7) : rNeed [64] ([64] ++ dgs g, true) = (dgs g, true) ∧ rNum (dgs g, true) = ([], true) ∧ rNumV (dgs g) = g := by
  have n1 := rNum_end (n := g) (by omega) (by omega) true
  have := trimPrefix_yes [64] (dgs g)
  refine ⟨?_, n1.1, n1.2⟩
  simp only [List.cons_append, List.nil_append] at this
  simp [rNeed, this]

theorem pItem_eff {a b c g : Int} (h : effOk a b c) (h1 : 1 ≤ g) (h2 : g ≤ 7) : pItem (itemText a b c 0 false g) = some ⟨a, b, c, 0, false, g⟩ := by
  have e : itemText a b c 0 false g = effText a b c ++ ([64] ++ dgs g) := by simp [itemText]
  have hm := effText_notM (a := a) (b := b) (c := c) ([64] ++ dgs g)
  obtain ⟨r1, r2⟩ := rEff_text h ([64] ++ dgs g) true
  obtain ⟨t1, t2, t3⟩ := rTail h1 h2
  have hs : rHeadS (itemText a b c 0 false g) = ([64] ++ dgs g, true) := by
    unfold rHeadS; rw [e, hm, if_neg (by simp), r2]
  have hv : rHeadV (itemText a b c 0 false g) = ⟨a, b, c, 0, false, 0⟩ := by
    unfold rHeadV; rw [e, hm, if_neg (by simp), r1]
  have hS : rItemS (itemText a b c 0 false g) = ([], true) := by unfold rItemS; rw [hs, t1, t2]
  have hV : rItemV (itemText a b c 0 false g) = ⟨a, b, c, 0, false, g⟩ := by unfold rItemV; rw [hs, hv, t1, t3]
  unfold pItem
  rw [hS, hV]
  exact if_pos ⟨rfl, rfl, ⟨h1, h2⟩, .inl ⟨rfl, rfl, h⟩⟩

theorem rMove_text {m : Int} (h1 : 1 ≤ m) (h2 : m ≤ 64) (i : Bool) (t : List UInt8) :
    rNumV (dgs m ++ (wayL i ++ t)) = m ∧ rMoveI (dgs m ++ (wayL i ++ t), true) = i ∧ rMoveS (dgs m ++ (wayL i ++ t), true) = (t, true) := by
  cases i
  · have n1 := rNum_text (n := m) (by omega) (by omega) (x := 47) (by decide) ([111, 117, 116] ++ t) true
    have e : dgs m ++ (wayL false ++ t) = dgs m ++ 47 :: ([111, 117, 116] ++ t) := rfl
    have p1 : Lib.hasPrefix (47 :: ([111, 117, 116] ++ t)) inL = false := rfl
    have p2 := trimPrefix_yes outL t
    have p3 : (47 :: ([111, 117, 116] ++ t)) = outL ++ t := rfl
    rw [e]
    unfold rMoveI rMoveS
    simp only [n1.1, n1.2, p1, Bool.false_eq_true, if_false]
    rw [p3]
    unfold rNeed
    simp only [p2, Bool.and_true]
    refine ⟨trivial, trivial, ?_⟩
    simp
    omega
  · have n1 := rNum_text (n := m) (by omega) (by omega) (x := 47) (by decide) ([105, 110] ++ t) true
    have e : dgs m ++ (wayL true ++ t) = dgs m ++ 47 :: ([105, 110] ++ t) := rfl
    have p2 := trimPrefix_yes inL t
    have p3 : (47 :: ([105, 110] ++ t)) = inL ++ t := rfl
    rw [e]
    unfold rMoveI rMoveS
    simp only [n1.1, n1.2]
    rw [p3]
    unfold rWord
    simp only [p2, if_true]
    refine ⟨trivial, trivial, ?_⟩
    simp
    omega

theorem pItem_move {m g : Int} {i : Bool} (hm1 : 1 ≤ m) (hm2 : m ≤ 64) (h1 : 1 ≤ g) (h2 : g ≤ 7) : pItem (itemText 0 0 0 m i g) = some ⟨0, 0, 0, m, i, g⟩ := by
  have e : itemText 0 0 0 m i g = [109] ++ (dgs m ++ (wayL i ++ ([64] ++ dgs g))) := by
    unfold itemText; rw [if_neg (by omega)]; simp
  have hp := trimPrefix_yes [109] (dgs m ++ (wayL i ++ ([64] ++ dgs g)))
  rw [← e] at hp
  obtain ⟨r1, r2, r3⟩ := rMove_text hm1 hm2 i ([64] ++ dgs g)
  obtain ⟨t1, t2, t3⟩ := rTail h1 h2
  have hs : rHeadS (itemText 0 0 0 m i g) = ([64] ++ dgs g, true) := by
    unfold rHeadS; rw [hp.2, if_pos rfl, hp.1, r3]
  have hv : rHeadV (itemText 0 0 0 m i g) = ⟨0, 0, 0, m, i, 0⟩ := by
    unfold rHeadV; rw [hp.2, if_pos rfl, hp.1, r1, r2]
  have hS : rItemS (itemText 0 0 0 m i g) = ([], true) := by unfold rItemS; rw [hs, t1, t2]
  have hV : rItemV (itemText 0 0 0 m i g) = ⟨0, 0, 0, m, i, g⟩ := by unfold rItemV; rw [hs, hv, t1, t3]
  unfold pItem
  rw [hS, hV]
  exact if_pos ⟨rfl, rfl, ⟨h1, h2⟩, .inr ⟨hm1, hm2, rfl, rfl, rfl⟩⟩

theorem pItem_text {a b c m g : Int} {i : Bool} (h : itemOk a b c m i g) : pItem (itemText a b c m i g) = some ⟨a, b, c, m, i, g⟩ := by
  obtain ⟨⟨h1, h2⟩, ⟨rfl, rfl, h3⟩ | ⟨h3, h4, rfl, rfl, rfl⟩⟩ := h
  · exact pItem_eff h3 h1 h2
  · exact pItem_move h3 h4 h1 h2

theorem rMove_back {l : List UInt8} (h : (rMoveS (l, true)).2 = true) : 0 < rNumV l ∧ l = dgs (rNumV l) ++ (wayL (rMoveI (l, true)) ++ (rMoveS (l, true)).1) := by
  unfold rMoveS rMoveI at *
  dsimp only at *
  generalize hm1 : rNum (l, true) = m1 at *
  obtain ⟨a1, b1⟩ := m1
  dsimp only at *
  simp only [Bool.and_eq_true, decide_eq_true_eq] at h
  obtain ⟨h, hp⟩ := h
  refine ⟨hp, ?_⟩
  by_cases hi : Lib.hasPrefix a1 inL = true
  · simp only [hi, if_true] at h ⊢
    have hb : b1 = true := h
    subst hb
    have s1 := rNum_back (l := l) (k := true) (by rw [hm1])
    rw [hm1] at s1
    have s2 := hasPrefix_split hi
    conv => lhs; rw [s1.2.1]; dsimp only; rw [s2]
    rfl
  · have hi : Lib.hasPrefix a1 inL = false := by simpa using hi
    simp only [hi, Bool.false_eq_true, if_false] at h ⊢
    have s2 := rNeed_back h
    obtain ⟨rfl, s2⟩ := s2
    have s1 := rNum_back (l := l) (k := true) (by rw [hm1])
    rw [hm1] at s1
    conv => lhs; rw [s1.2.1]; dsimp only; rw [s2]
    rfl

theorem pItem_some {l : List UInt8} {x : Item6} (h : pItem l = some x) : itemOk x.a x.b x.c x.m x.i x.g ∧ itemText x.a x.b x.c x.m x.i x.g = l := by
  unfold pItem at h
  split at h
  case isFalse => cases h
  case isTrue hc =>
    obtain ⟨h1, h2, h3⟩ := hc
    obtain rfl := Option.some.inj h
    refine ⟨h3, ?_⟩
    unfold rItemS at h1 h2
    generalize hn : rNeed [64] (rHeadS l) = n at *
    obtain ⟨l4, k4⟩ := n
    obtain ⟨rfl, s4, _, _⟩ := rNum_back h1
    rw [h2, List.append_nil] at s4
    generalize hh : rHeadS l = hd at *
    obtain ⟨l3, k3⟩ := hd
    have s3 := rNeed_back (p := [64]) (l := l3) (k := k3) (by rw [hn])
    rw [hn] at s3
    obtain ⟨rfl, s3⟩ := s3
    dsimp only at s3
    have hg : (rItemV l).g = rNumV l4 := by unfold rItemV; rw [hh, hn]
    by_cases hp : Lib.hasPrefix l [109] = true
    · have e1 := hasPrefix_split hp
      have hr : rHeadS l = rMoveS (Lib.trimPrefix l [109], true) := by unfold rHeadS; rw [hp, if_pos rfl]
      rw [hh] at hr
      obtain ⟨b1, b2⟩ := rMove_back (l := Lib.trimPrefix l [109]) (by rw [← hr])
      rw [← hr] at b2
      have hv : rItemV l = ⟨0, 0, 0, rNumV (Lib.trimPrefix l [109]), rMoveI (Lib.trimPrefix l [109], true), rNumV l4⟩ := by
        have : rHeadV l = ⟨0, 0, 0, rNumV (Lib.trimPrefix l [109]), rMoveI (Lib.trimPrefix l [109], true), 0⟩ := by unfold rHeadV; rw [hp, if_pos rfl]
        unfold rItemV
        rw [this, hh, hn]
      rw [hv]
      dsimp only
      unfold itemText
      rw [if_neg (by omega)]
      conv => rhs; rw [e1, b2]; dsimp only; rw [s3, s4]
      simp
    · have hp : Lib.hasPrefix l [109] = false := by simpa using hp
      have hr : rHeadS l = rEffS (l, true) := by unfold rHeadS; rw [hp, if_neg (by simp)]
      rw [hh] at hr
      have hv : rItemV l = ⟨(rEffV (l, true)).a, (rEffV (l, true)).b, (rEffV (l, true)).c, 0, false, rNumV l4⟩ := by
        have : rHeadV l = ⟨(rEffV (l, true)).a, (rEffV (l, true)).b, (rEffV (l, true)).c, 0, false, 0⟩ := by unfold rHeadV; rw [hp, if_neg (by simp)]
        unfold rItemV
        rw [this, hh, hn]
      rw [hv] at h3 ⊢
      dsimp only at h3 ⊢
      obtain ⟨_, ⟨_, _, h3⟩ | ⟨h3, _⟩⟩ := h3
      · have b := (rEff_back (l := l) (k := true) (by rw [← hr]) h3).2
        rw [← hr] at b
        unfold itemText
        rw [if_pos rfl]
        conv => rhs; rw [b]; dsimp only; rw [s3, s4]
      · omega
end Go.Proofs.YtmbnhbocablgeaaDoor
