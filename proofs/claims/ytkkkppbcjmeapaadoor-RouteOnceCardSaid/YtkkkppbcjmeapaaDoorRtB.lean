/- Merged by program: PlMove, PlMv, PlNm, PlFull, PlAcc, PlOwn, PlMvs, PlRef, PlWk. -/
import Derived.Test.YtkkkppbcjmeapaaDoorPtOwner
import Derived.Test.YtkkkppbcjmeapaaDoorRtA
import Derived.ProofKit
namespace Go.Proofs.YtkkkppbcjmeapaaDoor
section
open Go.RowKit

/-- What stays of a part. -/
def pieces (x y : ByteArray) (q : Nat × Pt) : List Pt := (outL q.2.f q.2.t x y).map fun p => ⟨p.1, p.2, q.2.g, q.2.e⟩
def leftL (x y : ByteArray) (xs : List (Nat × Pt)) : List Pt := xs.flatMap (pieces x y)
def fstL (xs : List (Nat × Pt)) : Int := match xs with | [] => -1 | q :: _ => (q.1 : Int)
def lstL (xs : List (Nat × Pt)) : Int := match xs.getLast? with | none => -1 | some q => (q.1 : Int)
def epL (xs : List (Nat × Pt)) : Int := xs.foldl (fun m q => max m q.2.e) 0
theorem outL_len (a b c d : ByteArray) : (outL a b c d).length ≤ 2 := by
  unfold outL
  split <;> split <;> simp
theorem pieces_len (x y : ByteArray) (q : Nat × Pt) : (pieces x y q).length ≤ 2 := by unfold pieces; rw [List.length_map]; exact outL_len ..
theorem leftL_snoc (x y : ByteArray) (xs : List (Nat × Pt)) (q : Nat × Pt) : leftL x y (xs ++ [q]) = leftL x y xs ++ pieces x y q := by simp [leftL]
theorem leftL_len (x y : ByteArray) : ∀ xs : List (Nat × Pt), (leftL x y xs).length ≤ 2 * xs.length
  | [] => by simp [leftL]
  | q :: xs => by
    have h1 := leftL_len x y xs
    have h2 := pieces_len x y q
    have : leftL x y (q :: xs) = pieces x y q ++ leftL x y xs := rfl
    rw [this, List.length_append, List.length_cons]
    omega
theorem fstL_snoc (xs : List (Nat × Pt)) (q : Nat × Pt) : fstL (xs ++ [q]) = if fstL xs < 0 then (q.1 : Int) else fstL xs := by
  cases xs with
  | nil => simp [fstL]
  | cons p xs => simp [fstL]; omega
theorem lstL_snoc (xs : List (Nat × Pt)) (q : Nat × Pt) : lstL (xs ++ [q]) = (q.1 : Int) := by simp [lstL]
theorem epL_snoc (xs : List (Nat × Pt)) (q : Nat × Pt) : epL (xs ++ [q]) = max (epL xs) q.2.e := by simp [epL]
theorem run_maxI {P : Program} (ts : Array TypeId) (t : TypeId) (a b : Int) (w : World) : (Builtin.max_ ts t #[.int .i64 a, .int .i64 b]).run P w = .ok (.int .i64 (max a b)) w := by
  unfold Builtin.max_
  simp only [List.foldlM, Builtin.max2]
  simp [Sem.run_pure, Int.max_def]
  split <;> split <;> omega
theorem run_minI {P : Program} (ts : Array TypeId) (t : TypeId) (a b : Int) (w : World) : (Builtin.min_ ts t #[.int .i64 a, .int .i64 b]).run P w = .ok (.int .i64 (min a b)) w := by
  unfold Builtin.min_
  simp only [List.foldlM, Builtin.min2]
  simp [Sem.run_pure, Int.min_def]
  split <;> split <;> omega
/-- The parts behind a move of [x, y) to group g. -/
def atL (x : ByteArray) (left : List Pt) : Nat := match left with | [] => 0 | p :: _ => if p.t = x ∧ x.toList ≠ [] then 1 else 0
def newL (d : List Pt) (x y : ByteArray) (g : Int) : List Pt :=
  let xs := tl d x y d.length
  let left := leftL x y xs
  let a := atL x left
  d.take (fstL xs).toNat ++ left.take a ++ [⟨x, y, g, min (epL xs + 1) 2147483648⟩] ++ left.drop a ++ d.drop ((lstL xs).toNat + 1)
/-- What Move answers: the epoch, the error, and the parts that the map then has. -/
def moveV (d : List Pt) (x y : ByteArray) (g : Int) : Int × Int × List Pt :=
  if (ownerV d x y).2.2 ≠ 0 then (0, (ownerV d x y).2.2, d)
  else if ¬ (1 ≤ g ∧ g < 8) then (0, 2, d)
  else if (ownerV d x y).2.1 = false ∨ (ownerV d x y).1 = g then (0, 9, d)
  else if 64 < (newL d x y g).length then (0, 4, d)
  else (min (epL (tl d x y d.length) + 1) 2147483648, 0, newL d x y g)
theorem owner_pos {d : List Pt} {x y : ByteArray} (h : (ownerV d x y).2.1 = true) : tl d x y d.length ≠ [] := by
  intro e
  unfold ownerV at h
  rw [e] at h
  split at h
  · cases h
  · split at h
    · cases h
    · simp [ownL] at h
end
section
/-- A part by numbers. -/
structure NP where
  a : Nat
  b : Nat
  g : Int
  e : Int
/-- Parts follow one another from a to T. -/
def NCh (T : Nat) : Nat → List NP → Prop
  | a, [] => a = T
  | a, p :: l => p.a = a ∧ p.a < p.b ∧ NCh T p.b l
def ntch (x y : Nat) (p : NP) : Bool := decide (max p.a x < min p.b y)
theorem nch_le {T : Nat} : ∀ {a : Nat} {l : List NP}, NCh T a l → a ≤ T ∧ ∀ p ∈ l, a ≤ p.a ∧ p.a < p.b ∧ p.b ≤ T
  | a, [], h => ⟨by have : a = T := h; omega, fun p hp => by cases hp⟩
  | a, q :: l, h => by
    obtain ⟨h1, h2, h3⟩ := h
    obtain ⟨i1, i2⟩ := nch_le h3
    refine ⟨by omega, fun p hp => ?_⟩
    rcases List.mem_cons.1 hp with rfl | hp
    · omega
    · have := i2 p hp; omega
theorem nch_app {T : Nat} : ∀ {a : Nat} {l m : List NP} {c : Nat}, NCh c a l → NCh T c m → NCh T a (l ++ m)
  | a, [], m, c, h, h' => by have : a = c := h; subst this; exact h'
  | a, q :: l, m, c, ⟨h1, h2, h3⟩, h' => ⟨h1, h2, nch_app h3 h'⟩
theorem nch_split {T : Nat} : ∀ {a : Nat} {l m : List NP}, NCh T a (l ++ m) → ∃ c, NCh c a l ∧ NCh T c m
  | a, [], m, h => ⟨a, rfl, h⟩
  | a, q :: l, m, ⟨h1, h2, h3⟩ => by
    obtain ⟨c, i1, i2⟩ := nch_split h3
    exact ⟨c, ⟨h1, h2, i1⟩, i2⟩
/-- A chain cut at a range: what is ahead of it, what it touches, what is behind. -/
theorem nch_cut {T x y : Nat} (hxy : x < y) (hy : y ≤ T) : ∀ {a : Nat} {l : List NP}, NCh T a l → a ≤ x →
    ∃ pre mid post c c', l = pre ++ mid ++ post ∧ NCh c a pre ∧ NCh c' c mid ∧ NCh T c' post ∧ c ≤ x ∧ y ≤ c' ∧ (∀ p ∈ pre, p.b ≤ x) ∧ (∀ p ∈ mid, ntch x y p = true) ∧ (∀ p ∈ post, y ≤ p.a) ∧ mid ≠ [] := by
  intro a l
  induction l generalizing a with
  | nil => intro h h2; have : a = T := h; omega
  | cons q l ih =>
    rintro ⟨h1, h2, h3⟩ hax
    by_cases hq : q.b ≤ x
    · obtain ⟨pre, mid, post, c, c', rfl, i1, i2, i3, i4, i5, i6, i7, i8, i9⟩ := ih h3 hq
      exact ⟨q :: pre, mid, post, c, c', rfl, ⟨h1, h2, i1⟩, i2, i3, i4, i5, fun p hp => by
        rcases List.mem_cons.1 hp with rfl | hp
        · exact hq
        · exact i6 p hp, i7, i8, i9⟩
    · -- q is touched: now the rest from q.b, where the touched go on while p.a < y
      have hm : ∀ {b : Nat} {m : List NP}, NCh T b m → x < b → ∃ mid post c', m = mid ++ post ∧ NCh c' b mid ∧ NCh T c' post ∧ (y ≤ c') ∧ (∀ p ∈ mid, ntch x y p = true) ∧ (∀ p ∈ post, y ≤ p.a) := by
        intro b m
        induction m generalizing b with
        | nil => intro h hb; have h' : b = T := h; exact ⟨[], [], b, rfl, rfl, h, by omega, fun p hp => (by cases hp), fun p hp => (by cases hp)⟩
        | cons r m ihm =>
          intro h hb
          by_cases hr : y ≤ b
          · exact ⟨[], r :: m, b, rfl, rfl, h, hr, fun p hp => (by cases hp), fun p hp => Nat.le_trans hr ((nch_le h).2 p hp).1⟩
          · obtain ⟨k1, k2, k3⟩ := h
            obtain ⟨mid, post, c', rfl, j1, j2, j3, j4, j5⟩ := ihm k3 (by omega)
            exact ⟨r :: mid, post, c', rfl, ⟨k1, k2, j1⟩, j2, j3, fun p hp => by
              rcases List.mem_cons.1 hp with rfl | hp
              · simp [ntch]; omega
              · exact j4 p hp, j5⟩
      obtain ⟨mid, post, c', rfl, j1, j2, j3, j4, j5⟩ := hm h3 (by omega)
      exact ⟨[], q :: mid, post, a, c', rfl, rfl, ⟨h1, h2, j1⟩, j2, hax, j3, fun p hp => (by cases hp), fun p hp => by
        rcases List.mem_cons.1 hp with rfl | hp
        · simp [ntch]; omega
        · exact j4 p hp, j5, by simp⟩
/-- What stays of a part. -/
def npc (x y : Nat) (p : NP) : List NP := (if p.a < x then [⟨p.a, min x p.b, p.g, p.e⟩] else []) ++ (if y < p.b then [⟨max p.a y, p.b, p.g, p.e⟩] else [])
theorem npc_mid {T x y : Nat} (hxy : x < y) : ∀ {c : Nat} {mid : List NP}, NCh T c mid → x ≤ c → (∀ p ∈ mid, ntch x y p = true) → y ≤ T → mid ≠ [] →
    mid.flatMap (npc x y) = if y < T then [⟨y, T, (mid.getLast?.map NP.g).getD 0, (mid.getLast?.map NP.e).getD 0⟩] else []
  | c, [], _, _, _, _, h => absurd rfl h
  | c, [p], ⟨h1, h2, h3⟩, hx, ht, hy, _ => by
    have h3' : p.b = T := h3
    have := ht p (by simp)
    simp only [ntch, decide_eq_true_eq] at this
    have hmax : max p.a y = y := by omega
    simp [npc, h3', show ¬ p.a < x by omega, hmax]
  | c, p :: q :: l, ⟨h1, h2, h3⟩, hx, ht, hy, _ => by
    have hq := (nch_le h3).2 q (by simp)
    have t1 := ht p (by simp)
    have t2 := ht q (by simp)
    simp only [ntch, decide_eq_true_eq] at t1 t2
    have ih := npc_mid hxy h3 (by omega) (fun r hr => ht r (List.mem_cons_of_mem _ hr)) hy (by simp)
    have hqb : q.a = p.b := h3.1
    rw [List.flatMap_cons, ih]
    simp [npc, show ¬ p.a < x by omega, show ¬ y < p.b by omega]
theorem npc_cut {x y c c' : Nat} (hxy : x < y) {mid : List NP} (h : NCh c' c mid) (hc : c ≤ x) (ht : ∀ p ∈ mid, ntch x y p = true) (hy : y ≤ c') (hne : mid ≠ []) :
    mid.flatMap (npc x y) = (if c < x then [⟨c, x, (mid.head?.map NP.g).getD 0, (mid.head?.map NP.e).getD 0⟩] else []) ++ (if y < c' then [⟨y, c', (mid.getLast?.map NP.g).getD 0, (mid.getLast?.map NP.e).getD 0⟩] else []) := by
  cases mid with
  | nil => exact absurd rfl hne
  | cons p l =>
    obtain ⟨h1, h2, h3⟩ := h
    have t1 := ht p (by simp)
    simp only [ntch, decide_eq_true_eq] at t1
    cases l with
    | nil =>
      have h3' : p.b = c' := h3
      have e1 : min x p.b = x := by omega
      have e2 : max p.a y = y := by omega
      simp [npc, h3', h1]
      subst h3'
      have e3 : max c y = y := by omega
      simp [e3]
      by_cases hh : c < x <;> simp [hh] <;> omega
    | cons q l =>
      have hq := (nch_le h3).2 q (by simp)
      have t2 := ht q (by simp)
      simp only [ntch, decide_eq_true_eq] at t2
      have hqb : q.a = p.b := h3.1
      have := npc_mid hxy h3 (by omega) (fun r hr => ht r (List.mem_cons_of_mem _ hr)) hy (by simp)
      rw [List.flatMap_cons, this]
      have e1 : min x p.b = x := by omega
      have e2 : ¬ y < p.b := by omega
      simp [npc, e1, e2, h1]
theorem nums (L : List ByteArray) : ∃ f T, Ranks L f ∧ ∀ s ∈ L, f s < T := by
  obtain ⟨f, R⟩ := ranks L
  have : ∀ M : List ByteArray, ∃ T, ∀ s ∈ M, f s < T := by
    intro M
    induction M with
    | nil => exact ⟨0, fun s hs => by cases hs⟩
    | cons a M ih =>
      obtain ⟨T, hT⟩ := ih
      refine ⟨T + f a + 1, fun s hs => ?_⟩
      rcases List.mem_cons.1 hs with rfl | hs
      · omega
      · have := hT s hs; omega
  obtain ⟨T, hT⟩ := this L
  exact ⟨f, T, R, hT⟩
/-- The number of an end: the empty one is behind all. -/
def en (f : ByteArray → Nat) (T : Nat) (s : ByteArray) : Nat := if f s = 0 then T else f s
def nOf (f : ByteArray → Nat) (T : Nat) (p : Pt) : NP := ⟨f p.f, en f T p.t, p.g, p.e⟩
section
variable {L : List ByteArray} {f : ByteArray → Nat} {T : Nat}
theorem endLt_en (R : Ranks L f) (hT : ∀ s ∈ L, f s < T) {x y : ByteArray} (hx : x ∈ L) (hy : y ∈ L) : endLt x y = decide (en f T x < en f T y) := by
  rw [endLt_num R hx hy]
  have := hT x hx; have := hT y hy
  unfold en
  congr 1
  apply propext
  split <;> split <;> omega
theorem okR_en (R : Ranks L f) (hT : ∀ s ∈ L, f s < T) {x y : ByteArray} (hx : x ∈ L) (hy : y ∈ L) : okR x y = (okS x && (okS y && decide (f x < en f T y))) := by
  rw [okR_num R hx hy]
  have := hT x hx
  unfold en
  have : (f y = 0 ∨ f x < f y) ↔ (f x < if f y = 0 then T else f y) := by split <;> omega
  simp only [this]
theorem maxS_mem {x y : ByteArray} (hx : x ∈ L) (hy : y ∈ L) : maxS x y ∈ L := by rcases maxS_or x y with h | h <;> rw [h] <;> assumption
theorem minE_mem {x y : ByteArray} (hx : x ∈ L) (hy : y ∈ L) : minE x y ∈ L := by rcases minE_or x y with h | h <;> rw [h] <;> assumption
theorem maxS_en (R : Ranks L f) {x y : ByteArray} (hx : x ∈ L) (hy : y ∈ L) : f (maxS x y) = max (f x) (f y) := by
  rcases maxS_num R hx hy with h | h <;> omega
theorem minE_en (R : Ranks L f) (hT : ∀ s ∈ L, f s < T) {x y : ByteArray} (hx : x ∈ L) (hy : y ∈ L) : en f T (minE x y) = min (en f T x) (en f T y) := by
  have := hT x hx; have := hT y hy
  unfold en
  rcases minE_num R hx hy with ⟨h, e⟩ | ⟨h, e⟩ <;> rw [e] <;> split <;> split <;> omega
theorem en_le (hT : ∀ s ∈ L, f s < T) {x : ByteArray} (hx : x ∈ L) : en f T x ≤ T := by
  have := hT x hx
  unfold en; split <;> omega
theorem tch_num (R : Ranks L f) (hT : ∀ s ∈ L, f s < T) {x y : ByteArray} {p : Pt} (h1 : p.f ∈ L) (h2 : p.t ∈ L) (hx : x ∈ L) (hy : y ∈ L) (hp : okR p.f p.t = true) (hr : okR x y = true) : tch x y p = ntch (f x) (en f T y) (nOf f T p) := by
  unfold tch ntch nOf
  rw [hp, hr, okR_en R hT (maxS_mem h1 hx) (minE_mem h2 hy), okS_maxS (okR_left hp) (okR_left hr), okS_minE (okR_right hp) (okR_right hr), maxS_en R h1 hx, minE_en R hT h2 hy]
  simp
end
/-- The parts of a map: from the empty text on, each begins where the one ahead ends; the last one ends nowhere. -/
def ChT : ByteArray → List Pt → Prop
  | _, [] => False
  | a, p :: l => p.f = a ∧ okR p.f p.t = true ∧ ((l = [] ∧ p.t = ⟨#[]⟩) ∨ (l ≠ [] ∧ p.t ≠ ⟨#[]⟩ ∧ ChT p.t l))
def txsP (d : List Pt) : List ByteArray := d.flatMap fun p => [p.f, p.t]
theorem txs_mem {d : List Pt} {p : Pt} (hp : p ∈ d) : p.f ∈ txsP d ∧ p.t ∈ txsP d := by
  simp only [txsP, List.mem_flatMap]
  exact ⟨⟨p, hp, by simp⟩, ⟨p, hp, by simp⟩⟩
theorem rank_zero {L : List ByteArray} {f : ByteArray → Nat} (R : Ranks L f) {x : ByteArray} (hx : x ∈ L) : f x = 0 ↔ x = ⟨#[]⟩ := by
  have h := R.em x hx
  constructor
  · intro h0
    rw [decide_eq_true h0] at h
    exact ba_eq (by rw [beq_iff_eq] at h; rw [h, ByteArray.toList_eq])
  · intro h0
    subst h0
    have : (ByteArray.toList ⟨#[]⟩ == ([] : List UInt8)) = true := by rw [ByteArray.toList_eq]; rfl
    rw [this] at h
    simpa using h.symm
theorem chT_ok : ∀ {a : ByteArray} {d : List Pt}, ChT a d → d ≠ [] ∧ ∀ p ∈ d, okR p.f p.t = true
  | a, [], h => h.elim
  | a, p :: l, ⟨h1, h2, h3⟩ => ⟨by simp, fun q hq => by
    rcases List.mem_cons.1 hq with rfl | hq
    · exact h2
    · rcases h3 with ⟨rfl, _⟩ | ⟨_, _, h⟩
      · cases hq
      · exact (chT_ok h).2 q hq⟩
theorem chT_num {L : List ByteArray} {f : ByteArray → Nat} {T : Nat} (R : Ranks L f) (hT : ∀ s ∈ L, f s < T) : ∀ {d : List Pt} {a : ByteArray}, a ∈ L → (∀ p ∈ d, p.f ∈ L ∧ p.t ∈ L) →
    (ChT a d ↔ (d ≠ [] ∧ (∀ p ∈ d, okR p.f p.t = true) ∧ NCh T (f a) (d.map (nOf f T))))
  | [], a, _, _ => by simp [ChT]
  | p :: l, a, ha, hl => by
    have hp := hl p (by simp)
    have hl' : ∀ q ∈ l, q.f ∈ L ∧ q.t ∈ L := fun q hq => hl q (List.mem_cons_of_mem _ hq)
    have ih := chT_num R hT (d := l) (a := p.t) hp.2 hl'
    constructor
    · intro h
      refine ⟨by simp, (chT_ok h).2, ?_⟩
      obtain ⟨h1, h2, h3⟩ := h
      have ho := h2
      rw [okR_en R hT hp.1 hp.2] at ho
      simp only [Bool.and_eq_true, decide_eq_true_eq] at ho
      refine ⟨by simp [nOf, h1], by simpa [nOf] using ho.2.2, ?_⟩
      rcases h3 with ⟨rfl, h3⟩ | ⟨h3, h4, h5⟩
      · show en f T p.t = T
        unfold en; rw [if_pos ((rank_zero R hp.2).2 h3)]
      · have : en f T p.t = f p.t := by unfold en; rw [if_neg (fun e => h4 ((rank_zero R hp.2).1 e))]
        show NCh T (en f T p.t) (l.map (nOf f T))
        rw [this]
        exact (ih.1 h5).2.2
    · rintro ⟨_, h2, h3, h4, h5⟩
      refine ⟨rank_eq R hp.1 ha h3, h2 p (by simp), ?_⟩
      change NCh T (en f T p.t) (l.map (nOf f T)) at h5
      by_cases h0 : f p.t = 0
      · left
        have : en f T p.t = T := by unfold en; rw [if_pos h0]
        rw [this] at h5
        cases l with
        | nil => exact ⟨rfl, (rank_zero R hp.2).1 h0⟩
        | cons q m =>
          have h6 : f q.f = T := h5.1
          have := hT q.f (hl' q (by simp)).1
          omega
      · right
        have : en f T p.t = f p.t := by unfold en; rw [if_neg h0]
        rw [this] at h5
        cases l with
        | nil =>
          have h6 : f p.t = T := h5
          have := hT p.t hp.2
          omega
        | cons q m => exact ⟨by simp, fun e => h0 ((rank_zero R hp.2).2 e), ih.2 ⟨by simp, fun r hr => h2 r (List.mem_cons_of_mem _ hr), h5⟩⟩
/-- A list with numbers from s on. -/
def ix : Nat → List Pt → List (Nat × Pt)
  | _, [] => []
  | s, p :: l => (s, p) :: ix (s + 1) l
theorem ix_app : ∀ (s : Nat) (l m : List Pt), ix s (l ++ m) = ix s l ++ ix (s + l.length) m
  | s, [], m => by simp [ix]
  | s, p :: l, m => by simp [ix, ix_app (s + 1) l m]; congr 1; omega
theorem tl_ix (d : List Pt) (x y : ByteArray) : ∀ k, tl d x y k = (ix 0 (d.take k)).filter (fun q => tch x y q.2)
  | 0 => by simp [tl, ix]
  | k + 1 => by
    rw [tl, tl_ix d x y k, List.take_add_one]
    cases h : d[k]? with
    | none => simp
    | some p =>
      have hk := (List.getElem?_eq_some_iff.1 h).1
      rw [ix_app]
      simp only [List.length_take, Nat.min_eq_left (Nat.le_of_lt hk), Nat.zero_add, Option.toList, ix, List.filter_append]
      by_cases ht : tch x y p = true <;> simp [ht]
theorem ix_no (x y : ByteArray) : ∀ (l : List Pt) (s : Nat), (∀ p ∈ l, tch x y p = false) → (ix s l).filter (fun q => tch x y q.2) = []
  | [], s, _ => rfl
  | p :: l, s, h => by simp [ix, h p (by simp), ix_no x y l (s + 1) (fun q hq => h q (List.mem_cons_of_mem _ hq))]
theorem ix_yes (x y : ByteArray) : ∀ (l : List Pt) (s : Nat), (∀ p ∈ l, tch x y p = true) → (ix s l).filter (fun q => tch x y q.2) = ix s l
  | [], s, _ => rfl
  | p :: l, s, h => by simp [ix, h p (by simp), ix_yes x y l (s + 1) (fun q hq => h q (List.mem_cons_of_mem _ hq))]
theorem tl_mid {pre mid post : List Pt} {x y : ByteArray} (h1 : ∀ p ∈ pre, tch x y p = false) (h2 : ∀ p ∈ mid, tch x y p = true) (h3 : ∀ p ∈ post, tch x y p = false) :
    tl (pre ++ mid ++ post) x y (pre ++ mid ++ post).length = ix pre.length mid := by
  rw [tl_ix, List.take_length, ix_app, ix_app, List.filter_append, List.filter_append, ix_no x y pre 0 h1, ix_no x y post _ h3, ix_yes x y mid _ h2]
  simp
def pcs (x y : ByteArray) (p : Pt) : List Pt := (outL p.f p.t x y).map fun q => ⟨q.1, q.2, p.g, p.e⟩
theorem leftL_ix (x y : ByteArray) : ∀ (s : Nat) (l : List Pt), leftL x y (ix s l) = l.flatMap (pcs x y)
  | s, [] => rfl
  | s, p :: l => by
    have := leftL_ix x y (s + 1) l
    unfold leftL at this ⊢
    rw [ix, List.flatMap_cons, List.flatMap_cons, this]; rfl
theorem fstL_ix (s : Nat) (l : List Pt) (h : l ≠ []) : fstL (ix s l) = (s : Int) := by
  cases l with
  | nil => exact absurd rfl h
  | cons p l => rfl
theorem lstL_ix : ∀ (l : List Pt) (s : Nat), l ≠ [] → lstL (ix s l) = ((s + l.length - 1 : Nat) : Int)
  | [], s, h => absurd rfl h
  | [p], s, _ => by simp [ix, lstL]
  | p :: q :: l, s, _ => by
    have := lstL_ix (q :: l) (s + 1) (by simp)
    unfold lstL at this ⊢
    rw [ix, ix, List.getLast?_cons_cons, ← ix, this]
    simp; omega
theorem epL_ix : ∀ (l : List Pt) (s : Nat) (m : Int), (ix s l).foldl (fun m q => max m q.2.e) m = l.foldl (fun m p => max m p.e) m
  | [], s, m => rfl
  | p :: l, s, m => by simp [ix, epL_ix l (s + 1)]
/-- The greatest epoch of parts. -/
def mxE (l : List Pt) : Int := l.foldl (fun m p => max m p.e) 0
theorem pcs_num {L : List ByteArray} {f : ByteArray → Nat} {T : Nat} (R : Ranks L f) (hT : ∀ s ∈ L, f s < T) {x y : ByteArray} {p : Pt} (h1 : p.f ∈ L) (h2 : p.t ∈ L) (hx : x ∈ L) (hy : y ∈ L) :
    (pcs x y p).map (nOf f T) = npc (f x) (en f T y) (nOf f T p) := by
  unfold pcs outL npc
  rw [R.lt _ h1 _ hx, endLt_en R hT hy h2, List.map_append, List.map_append]
  have ex : f p.f < f x → en f T x = f x := fun h => by unfold en; rw [if_neg (by omega)]
  have ey : en f T y < en f T p.t → en f T y = f y := fun h => by
    have := en_le hT h2
    unfold en at h ⊢
    split <;> rename_i h0
    · rw [if_pos h0] at h; unfold en at this; omega
    · rfl
  congr 1
  · by_cases h : f p.f < f x
    · rw [if_pos (decide_eq_true h), if_pos (by simpa [nOf] using h)]
      simp [nOf, minE_en R hT hx h2, ex h]
    · rw [if_neg (by simpa using h), if_neg (by simpa [nOf] using h)]; rfl
  · by_cases h : en f T y < en f T p.t
    · rw [if_pos (decide_eq_true h), if_pos (by simpa [nOf] using h)]
      simp [nOf, maxS_en R h1 hy, ey h]
    · rw [if_neg (by simpa using h), if_neg (by simpa [nOf] using h)]; rfl
theorem fm_congr {α β : Type} {g h : α → List β} : ∀ {l : List α}, (∀ a ∈ l, g a = h a) → l.flatMap g = l.flatMap h
  | [], _ => rfl
  | a :: l, H => by rw [List.flatMap_cons, List.flatMap_cons, H a (by simp), fm_congr (fun b hb => H b (List.mem_cons_of_mem _ hb))]
theorem okR_outL {a b c d : ByteArray} (h1 : okS a = true) (h2 : okS b = true) (h3 : okS c = true) (h4 : okS d = true) : ∀ q ∈ outL a b c d, okS q.1 = true ∧ okS q.2 = true := by
  intro q hq
  unfold outL at hq
  rcases List.mem_append.1 hq with hq | hq
  · split at hq
    · rcases List.mem_singleton.1 hq with rfl; exact ⟨h1, okS_minE h3 h2⟩
    · cases hq
  · split at hq
    · rcases List.mem_singleton.1 hq with rfl; exact ⟨okS_maxS h1 h4, h2⟩
    · cases hq
theorem map_nil_or {α β : Type} {g : α → β} {l : List α} {c : Prop} [Decidable c] {n : β} (h : l.map g = if c then [n] else []) : (c ∧ ∃ q, l = [q] ∧ g q = n) ∨ (¬ c ∧ l = []) := by
  by_cases hc : c
  · rw [if_pos hc] at h
    cases l with
    | nil => cases h
    | cons a l => cases l with
      | nil => exact Or.inl ⟨hc, a, rfl, by simpa using h⟩
      | cons b l => simp at h
  · rw [if_neg hc] at h
    exact Or.inr ⟨hc, List.map_eq_nil_iff.1 h⟩
/-- What a move makes of a map, by parts: what is ahead, what stays of the first, the new one, what stays of the last, what is behind. -/
structure MoveCut (d : List Pt) (x y : ByteArray) (g : Int) (f : ByteArray → Nat) (T : Nat) (pre mid post hp lp : List Pt) (c c' : Nat) : Prop where
  hd : d = pre ++ mid ++ post
  new : newL d x y g = pre ++ hp ++ [⟨x, y, g, min (mxE mid + 1) 2147483648⟩] ++ lp ++ post
  n1 : NCh c 0 (pre.map (nOf f T))
  n2 : NCh c' c (mid.map (nOf f T))
  n3 : NCh T c' (post.map (nOf f T))
  cx : c ≤ f x
  cy : en f T y ≤ c'
  p1 : ∀ p ∈ pre, tch x y p = false
  p2 : ∀ p ∈ mid, tch x y p = true
  p3 : ∀ p ∈ post, tch x y p = false
  ne : mid ≠ []
  h : hp.map (nOf f T) = if c < f x then [⟨c, f x, (mid.head?.map Pt.g).getD 0, (mid.head?.map Pt.e).getD 0⟩] else []
  l : lp.map (nOf f T) = if en f T y < c' then [⟨en f T y, c', (mid.getLast?.map Pt.g).getD 0, (mid.getLast?.map Pt.e).getD 0⟩] else []
  txt : ∀ p ∈ hp ++ lp, (p.f = x ∨ p.f = y ∨ p.f ∈ txsP d) ∧ (p.t = x ∨ p.t = y ∨ p.t ∈ txsP d) ∧ okS p.f = true ∧ okS p.t = true
  fl : mid.flatMap (pcs x y) = hp ++ lp
theorem move_cut {L : List ByteArray} {f : ByteArray → Nat} {T : Nat} (R : Ranks L f) (hT : ∀ s ∈ L, f s < T) {d : List Pt} {x y : ByteArray} (g : Int) (hx : x ∈ L) (hy : y ∈ L) (h0 : (⟨#[]⟩ : ByteArray) ∈ L) (hl : ∀ p ∈ d, p.f ∈ L ∧ p.t ∈ L) (hd : ChT ⟨#[]⟩ d) (hr : okR x y = true) :
    ∃ pre mid post hp lp c c', MoveCut d x y g f T pre mid post hp lp c c' := by
  obtain ⟨hne, hok, hch⟩ := (chT_num R hT h0 hl).1 hd
  rw [(rank_zero R h0).2 rfl] at hch
  have hxy : f x < en f T y := by
    have := hr
    rw [okR_en R hT hx hy] at this
    simp only [Bool.and_eq_true, decide_eq_true_eq] at this
    exact this.2.2
  obtain ⟨pre', mid', post', c, c', he, i1, i2, i3, i4, i5, i6, i7, i8, i9⟩ := nch_cut hxy (en_le hT hy) hch (Nat.zero_le _)
  obtain ⟨pm, post, hd1, hpm, rfl⟩ := List.map_eq_append_iff.1 he
  obtain ⟨pre, mid, rfl, rfl, rfl⟩ := List.map_eq_append_iff.1 hpm
  subst hd1
  have ht : ∀ p ∈ pre ++ mid ++ post, tch x y p = ntch (f x) (en f T y) (nOf f T p) := fun p hp => tch_num R hT (hl p hp).1 (hl p hp).2 hx hy (hok p hp) hr
  have t1 : ∀ p ∈ pre, tch x y p = false := fun p hp => by
    rw [ht p (by simp [hp])]
    have := i6 _ (List.mem_map_of_mem hp)
    simp only [ntch, decide_eq_false_iff_not]; omega
  have t2 : ∀ p ∈ mid, tch x y p = true := fun p hp => by
    rw [ht p (by simp [hp])]
    exact i7 _ (List.mem_map_of_mem hp)
  have t3 : ∀ p ∈ post, tch x y p = false := fun p hp => by
    rw [ht p (by simp [hp])]
    have := i8 _ (List.mem_map_of_mem hp)
    simp only [ntch, decide_eq_false_iff_not]; omega
  have hmn : mid ≠ [] := fun e => i9 (by rw [e]; rfl)
  have hleft : (mid.flatMap (pcs x y)).map (nOf f T) = (if c < f x then [⟨c, f x, (mid.head?.map Pt.g).getD 0, (mid.head?.map Pt.e).getD 0⟩] else []) ++ (if en f T y < c' then [⟨en f T y, c', (mid.getLast?.map Pt.g).getD 0, (mid.getLast?.map Pt.e).getD 0⟩] else []) := by
    have h1 := npc_cut hxy i2 i4 i7 i5 i9
    have h2 : (mid.flatMap (pcs x y)).map (nOf f T) = (mid.map (nOf f T)).flatMap (npc (f x) (en f T y)) := by
      rw [List.map_flatMap, List.flatMap_map]
      refine fm_congr ?_
      intro p hp
      have := hl p (by simp [hp])
      exact pcs_num R hT this.1 this.2 hx hy
    rw [h2, h1]
    simp only [List.head?_map, List.getLast?_map, Option.map_map]
    rfl
  obtain ⟨hp, lp, e1, e2, e3⟩ := List.map_eq_append_iff.1 hleft
  have htl := tl_mid t1 t2 t3
  have htx : ∀ p ∈ hp ++ lp, (p.f = x ∨ p.f = y ∨ p.f ∈ txsP (pre ++ mid ++ post)) ∧ (p.t = x ∨ p.t = y ∨ p.t ∈ txsP (pre ++ mid ++ post)) ∧ okS p.f = true ∧ okS p.t = true := by
    intro p hp'
    rw [← e1] at hp'
    obtain ⟨q, hq, hpq⟩ := List.mem_flatMap.1 hp'
    have hq' : q ∈ pre ++ mid ++ post := by simp [hq]
    have m1 := (txs_mem hq').1
    have m2 := (txs_mem hq').2
    have o := hok q hq'
    unfold pcs at hpq
    obtain ⟨s, hs, rfl⟩ := List.mem_map.1 hpq
    have ho := okR_outL (okR_left o) (okR_right o) (okR_left hr) (okR_right hr) s hs
    refine ⟨?_, ?_, ho⟩
    · unfold outL at hs
      rcases List.mem_append.1 hs with hs | hs
      · split at hs
        · rcases List.mem_singleton.1 hs with rfl; exact Or.inr (Or.inr m1)
        · cases hs
      · split at hs
        · rcases List.mem_singleton.1 hs with rfl
          rcases maxS_or q.f y with e | e
          · exact Or.inr (Or.inr (by simp only [e]; exact m1))
          · exact Or.inr (Or.inl (by simp only [e]))
        · cases hs
    · unfold outL at hs
      rcases List.mem_append.1 hs with hs | hs
      · split at hs
        · rcases List.mem_singleton.1 hs with rfl
          rcases minE_or x q.t with e | e
          · exact Or.inl (by simp only [e])
          · exact Or.inr (Or.inr (by simp only [e]; exact m2))
        · cases hs
      · split at hs
        · rcases List.mem_singleton.1 hs with rfl; exact Or.inr (Or.inr m2)
        · cases hs
  have hmem : ∀ p ∈ hp ++ lp, p.t ∈ L := fun p hp' => by
    rcases (htx p hp').2.1 with e | e | e
    · rw [e]; exact hx
    · rw [e]; exact hy
    · obtain ⟨q, hq, h⟩ := List.mem_flatMap.1 e
      simp at h
      rcases h with h | h <;> rw [h]
      · exact (hl q hq).1
      · exact (hl q hq).2
  have hat : atL x (hp ++ lp) = hp.length := by
    rcases map_nil_or e2 with ⟨hc, q, rfl, hq⟩ | ⟨hc, rfl⟩
    · have hqt : en f T q.t = f x := congrArg NP.b hq
      have hq0 : q.t ∈ L := hmem q (by simp)
      have h1 : q.t = x := by
        unfold en at hqt
        split at hqt
        · have := hT x hx; omega
        · exact rank_eq R hq0 hx hqt
      have h2 : x.toList ≠ [] := by
        intro e
        have : x = ⟨#[]⟩ := ba_eq (by rw [e, ByteArray.toList_eq])
        have := (rank_zero R hx).2 this
        omega
      simp [atL, h1, h2]
    · rcases map_nil_or e3 with ⟨hc2, q, rfl, hq⟩ | ⟨hc2, rfl⟩
      · have hqt : en f T q.t = c' := congrArg NP.b hq
        have : ¬ (q.t = x ∧ x.toList ≠ []) := by
          rintro ⟨rfl, h2⟩
          have h3 : f q.t ≠ 0 := fun e => h2 (by rw [(rank_zero R hx).1 e, ByteArray.toList_eq])
          have : en f T q.t = f q.t := by unfold en; rw [if_neg h3]
          omega
        simp only [List.nil_append, atL, if_neg this, List.length_nil]
      · rfl
  refine ⟨pre, mid, post, hp, lp, c, c', rfl, ?_, i1, i2, i3, i4, i5, t1, t2, t3, hmn, e2, e3, htx, e1⟩
  · unfold newL
    simp only [htl, leftL_ix, e1, fstL_ix _ _ hmn, lstL_ix _ _ hmn, hat]
    have : 0 < mid.length := List.length_pos_iff.2 hmn
    have e4 : (pre ++ mid ++ post).take (pre.length : Int).toNat = pre := by simp
    have e5 : (pre ++ mid ++ post).drop (((pre.length + mid.length - 1 : Nat) : Int).toNat + 1) = post := by
      rw [show (((pre.length + mid.length - 1 : Nat) : Int).toNat + 1) = (pre ++ mid).length by simp; omega]
      simp
    rw [e4, e5]
    have e6 : epL (ix pre.length mid) = mxE mid := epL_ix _ _ _
    rw [e6]
    simp
section
variable {L : List ByteArray} {f : ByteArray → Nat} {T : Nat}
theorem nch_at {T : Nat} : ∀ {a : Nat} {l : List NP} {K : Nat}, NCh T a l → a ≤ K → K < T → ∃ p ∈ l, p.a ≤ K ∧ K < p.b
  | a, [], K, h, h1, h2 => by have : a = T := h; omega
  | a, p :: l, K, ⟨h1, h2, h3⟩, h4, h5 => by
    by_cases hK : K < p.b
    · exact ⟨p, by simp, by omega, hK⟩
    · obtain ⟨q, hq, h⟩ := nch_at h3 (Nat.le_of_not_lt hK) h5
      exact ⟨q, List.mem_cons_of_mem _ hq, h⟩
theorem nch_uniq {T : Nat} (n : Pt → NP) : ∀ {a : Nat} {l : List Pt} {K : Nat}, NCh T a (l.map n) → ∀ p ∈ l, ∀ q ∈ l, (n p).a ≤ K → K < (n p).b → (n q).a ≤ K → K < (n q).b → p = q
  | a, [], K, _, p, hp, _, _, _, _, _, _ => by cases hp
  | a, r :: l, K, ⟨h1, h2, h3⟩, p, hp, q, hq, i1, i2, i3, i4 => by
    have hb := (nch_le h3).2
    rcases List.mem_cons.1 hp with rfl | hp'
    · rcases List.mem_cons.1 hq with rfl | hq'
      · rfl
      · have := hb _ (List.mem_map_of_mem hq'); omega
    · rcases List.mem_cons.1 hq with rfl | hq'
      · have := hb _ (List.mem_map_of_mem hp'); omega
      · exact nch_uniq n h3 p hp' q hq' i1 i2 i3 i4
theorem hasR_en (R : Ranks L f) (hT : ∀ s ∈ L, f s < T) {p : Pt} {k : ByteArray} (h1 : p.f ∈ L) (h2 : p.t ∈ L) (hk : k ∈ L) (hp : okR p.f p.t = true) (hn : isName k.data.toList = true) :
    hasR p.f p.t k = decide ((nOf f T p).a ≤ f k ∧ f k < (nOf f T p).b) := by
  rw [hasR_num R h1 h2 hk, hp, hn]
  have := name_pos R hk hn
  have := hT k hk
  simp only [Bool.true_and, nOf, en]
  congr 1
  apply propext
  split <;> omega
end
/-- The part that has a key. -/
def findP (d : List Pt) (k : ByteArray) : Option Pt := d.find? (fun p => hasR p.f p.t k)
def allL (d : List Pt) (x y k : ByteArray) : List ByteArray := ⟨#[]⟩ :: x :: y :: k :: txsP d
theorem allL_d {d : List Pt} {x y k : ByteArray} : ∀ p ∈ d, p.f ∈ allL d x y k ∧ p.t ∈ allL d x y k := fun p hp =>
  have h := txs_mem hp
  ⟨by simp [allL, h.1], by simp [allL, h.2]⟩
theorem chT_find {d : List Pt} {k : ByteArray} (hd : ChT ⟨#[]⟩ d) (hk : isName k.data.toList = true) : ∃ p, findP d k = some p ∧ p ∈ d ∧ hasR p.f p.t k = true ∧ ∀ q ∈ d, hasR q.f q.t k = true → q = p := by
  obtain ⟨f, T, R, hT⟩ := nums (allL d ⟨#[]⟩ ⟨#[]⟩ k)
  have h0 : (⟨#[]⟩ : ByteArray) ∈ allL d ⟨#[]⟩ ⟨#[]⟩ k := by simp [allL]
  have hkm : k ∈ allL d ⟨#[]⟩ ⟨#[]⟩ k := by simp [allL]
  obtain ⟨hne, hok, hch⟩ := (chT_num R hT h0 allL_d).1 hd
  rw [(rank_zero R h0).2 rfl] at hch
  have hh : ∀ p ∈ d, hasR p.f p.t k = decide ((nOf f T p).a ≤ f k ∧ f k < (nOf f T p).b) := fun p hp => hasR_en R hT (allL_d p hp).1 (allL_d p hp).2 hkm (hok p hp) hk
  obtain ⟨n, hn, h1, h2⟩ := nch_at hch (Nat.zero_le _) (hT k hkm)
  obtain ⟨p, hp, rfl⟩ := List.mem_map.1 hn
  have hpk : hasR p.f p.t k = true := by rw [hh p hp]; exact decide_eq_true ⟨h1, h2⟩
  have huq : ∀ q ∈ d, hasR q.f q.t k = true → q = p := fun q hq hqk => by
    rw [hh q hq] at hqk
    have := of_decide_eq_true hqk
    exact nch_uniq (nOf f T) hch q hq p hp this.1 this.2 h1 h2
  cases hf : findP d k with
  | none =>
    have := List.find?_eq_none.1 hf p hp
    simp [hpk] at this
  | some q =>
    have hq1 := List.mem_of_find?_eq_some hf
    have hq2 := List.find?_some hf
    have := huq q hq1 hq2
    subst this
    exact ⟨_, rfl, hq1, hq2, huq⟩
theorem chT_find_eq {d : List Pt} {k : ByteArray} (hd : ChT ⟨#[]⟩ d) (hk : isName k.data.toList = true) {p : Pt} (hp : p ∈ d) (h : hasR p.f p.t k = true) : findP d k = some p := by
  obtain ⟨q, hq, _, _, hu⟩ := chT_find hd hk
  rw [hu p hp h]; exact hq
/-- The epoch that a move gives. -/
def mvE (d : List Pt) (x y : ByteArray) : Int := min (mxE (d.filter (tch x y)) + 1) 2147483648
theorem filt_no {q : Pt → Bool} : ∀ {l : List Pt}, (∀ p ∈ l, q p = false) → l.filter q = []
  | [], _ => rfl
  | p :: l, h => by rw [List.filter_cons, h p (by simp)]; exact filt_no (fun r hr => h r (List.mem_cons_of_mem _ hr))
theorem filt_yes {q : Pt → Bool} : ∀ {l : List Pt}, (∀ p ∈ l, q p = true) → l.filter q = l
  | [], _ => rfl
  | p :: l, h => by rw [List.filter_cons, h p (by simp), if_pos rfl, filt_yes (fun r hr => h r (List.mem_cons_of_mem _ hr))]
theorem MoveCut.filt {d : List Pt} {x y : ByteArray} {g : Int} {f : ByteArray → Nat} {T : Nat} {pre mid post hp lp : List Pt} {c c' : Nat} (M : MoveCut d x y g f T pre mid post hp lp c c') : d.filter (tch x y) = mid := by
  rw [M.hd, List.filter_append, List.filter_append, filt_no M.p1, filt_yes M.p2, filt_no M.p3]; simp
/-- What a move makes of a map. -/
structure MoveSays (d : List Pt) (x y : ByteArray) (g : Int) : Prop where
  ch : ChT ⟨#[]⟩ (newL d x y g)
  len : (newL d x y g).length ≤ d.length + 2
  txt : ∀ p ∈ newL d x y g, (p.f = x ∨ p.f = y ∨ p.f ∈ txsP d) ∧ (p.t = x ∨ p.t = y ∨ p.t ∈ txsP d)
  grp : ∀ p ∈ newL d x y g, p = ⟨x, y, g, mvE d x y⟩ ∨ ∃ q ∈ d, q.g = p.g ∧ q.e = p.e
  mem : (⟨x, y, g, mvE d x y⟩ : Pt) ∈ newL d x y g
  ne : ∃ p ∈ d, tch x y p = true
  at' : ∀ k, isName k.data.toList = true → ∃ q, findP (newL d x y g) k = some q ∧ (hasR x y k = true → q = ⟨x, y, g, mvE d x y⟩) ∧ (hasR x y k = false → ∃ p, findP d k = some p ∧ p.g = q.g ∧ p.e = q.e)
theorem head_in {l : List Pt} (h : l ≠ []) : ∃ p ∈ l, l.head? = some p := by
  cases l with
  | nil => exact absurd rfl h
  | cons p l => exact ⟨p, by simp, rfl⟩
theorem last_in {l : List Pt} (h : l ≠ []) : ∃ p ∈ l, l.getLast? = some p := ⟨l.getLast h, List.getLast_mem h, List.getLast?_eq_some_getLast h⟩
theorem nch_head {T a : Nat} {l : List Pt} {n : Pt → NP} {p : Pt} (h : NCh T a (l.map n)) (hp : l.head? = some p) : (n p).a = a := by
  cases l with
  | nil => cases hp
  | cons q l => simp at hp; subst hp; exact h.1
theorem nch_last {T : Nat} {n : Pt → NP} {p : Pt} : ∀ {a : Nat} {l : List Pt}, NCh T a (l.map n) → l.getLast? = some p → (n p).b = T
  | a, [], h, hp => by cases hp
  | a, [q], h, hp => by simp at hp; subst hp; exact h.2.2
  | a, q :: r :: l, h, hp => nch_last (l := r :: l) h.2.2 (by rw [List.getLast?_cons_cons] at hp; exact hp)
theorem move_says {d : List Pt} {x y : ByteArray} (g : Int) (hd : ChT ⟨#[]⟩ d) (hr : okR x y = true) : MoveSays d x y g := by
  have main : ∀ k : ByteArray, ∃ (L : List ByteArray) (f : ByteArray → Nat) (T : Nat), Ranks L f ∧ (∀ s ∈ L, f s < T) ∧ x ∈ L ∧ y ∈ L ∧ k ∈ L ∧ (⟨#[]⟩ : ByteArray) ∈ L ∧ (∀ p ∈ d, p.f ∈ L ∧ p.t ∈ L) ∧ (∀ s ∈ txsP d, s ∈ L) := fun k => by
    obtain ⟨f, T, R, hT⟩ := nums (allL d x y k)
    exact ⟨_, f, T, R, hT, by simp [allL], by simp [allL], by simp [allL], by simp [allL], allL_d, fun s hs => by simp [allL, hs]⟩
  have shape : ∀ k : ByteArray, ∃ (L : List ByteArray) (f : ByteArray → Nat) (T : Nat) (pre mid post hp lp : List Pt) (c c' : Nat), Ranks L f ∧ (∀ s ∈ L, f s < T) ∧ x ∈ L ∧ y ∈ L ∧ k ∈ L ∧ (⟨#[]⟩ : ByteArray) ∈ L ∧ (∀ p ∈ d, p.f ∈ L ∧ p.t ∈ L) ∧ MoveCut d x y g f T pre mid post hp lp c c' ∧ (∀ p ∈ newL d x y g, p.f ∈ L ∧ p.t ∈ L) ∧ NCh T 0 ((newL d x y g).map (nOf f T)) ∧ (∀ p ∈ newL d x y g, okS p.f = true ∧ okS p.t = true) := fun k => by
    obtain ⟨L, f, T, R, hT, hx, hy, hk, h0, hl, ht⟩ := main k
    obtain ⟨pre, mid, post, hp, lp, c, c', M⟩ := move_cut R hT g hx hy h0 hl hd hr
    have hok := (chT_ok hd).2
    have hx1 : f x < en f T y := by
      have := hr
      rw [okR_en R hT hx hy] at this
      simp only [Bool.and_eq_true, decide_eq_true_eq] at this
      exact this.2.2
    refine ⟨L, f, T, pre, mid, post, hp, lp, c, c', R, hT, hx, hy, hk, h0, hl, M, ?_, ?_, ?_⟩
    · intro p hp'
      rw [M.new] at hp'
      have hpre : ∀ q ∈ pre, q ∈ d := fun q hq => by rw [M.hd]; simp [hq]
      have hpost : ∀ q ∈ post, q ∈ d := fun q hq => by rw [M.hd]; simp [hq]
      have hhl : ∀ q ∈ hp ++ lp, q.f ∈ L ∧ q.t ∈ L := fun q hq => by
        obtain ⟨a, b, _⟩ := M.txt q hq
        refine ⟨?_, ?_⟩
        · rcases a with a | a | a
          · rw [a]; exact hx
          · rw [a]; exact hy
          · exact ht _ a
        · rcases b with a | a | a
          · rw [a]; exact hx
          · rw [a]; exact hy
          · exact ht _ a
      simp only [List.mem_append, List.mem_singleton] at hp'
      rcases hp' with (((h | h) | h) | h) | h
      · exact hl p (hpre p h)
      · exact hhl p (by simp [h])
      · subst h; exact ⟨hx, hy⟩
      · exact hhl p (by simp [h])
      · exact hl p (hpost p h)
    · rw [M.new]
      simp only [List.map_append]
      have e1 : NCh (f x) c (hp.map (nOf f T)) := by
        rw [M.h]
        have := M.cx
        split
        · exact ⟨rfl, by assumption, rfl⟩
        · show c = f x; omega
      have e2 : NCh c' (en f T y) (lp.map (nOf f T)) := by
        rw [M.l]
        have := M.cy
        split
        · exact ⟨rfl, by assumption, rfl⟩
        · show en f T y = c'; omega
      exact nch_app (nch_app (nch_app (nch_app M.n1 e1) (m := [_]) ⟨rfl, hx1, rfl⟩) e2) M.n3
    · intro p hp'
      rw [M.new] at hp'
      have hpre : ∀ q ∈ pre, q ∈ d := fun q hq => by rw [M.hd]; simp [hq]
      have hpost : ∀ q ∈ post, q ∈ d := fun q hq => by rw [M.hd]; simp [hq]
      simp only [List.mem_append, List.mem_singleton] at hp'
      rcases hp' with (((h | h) | h) | h) | h
      · exact ⟨okR_left (hok p (hpre p h)), okR_right (hok p (hpre p h))⟩
      · exact (M.txt p (by simp [h])).2.2
      · subst h; exact ⟨okR_left hr, okR_right hr⟩
      · exact (M.txt p (by simp [h])).2.2
      · exact ⟨okR_left (hok p (hpost p h)), okR_right (hok p (hpost p h))⟩
  have hch : ChT ⟨#[]⟩ (newL d x y g) := by
    obtain ⟨L, f, T, pre, mid, post, hp, lp, c, c', R, hT, hx, hy, hk, h0, hl, M, hm, hn, ho⟩ := shape x
    refine (chT_num R hT h0 hm).2 ⟨by rw [M.new]; simp, fun p hp' => ?_, by rw [(rank_zero R h0).2 rfl]; exact hn⟩
    rw [okR_en R hT (hm p hp').1 (hm p hp').2, (ho p hp').1, (ho p hp').2]
    simp only [Bool.true_and, decide_eq_true_eq]
    exact ((nch_le hn).2 _ (List.mem_map_of_mem hp')).2.1
  have hhp : ∀ {f : ByteArray → Nat} {T : Nat} {pre mid post hp lp : List Pt} {c c' : Nat}, MoveCut d x y g f T pre mid post hp lp c c' → ∀ p ∈ hp, hp = [p] ∧ (nOf f T p).a = c ∧ (nOf f T p).b = f x ∧ ∃ q ∈ mid, q.g = p.g ∧ q.e = p.e ∧ (nOf f T q).a = c := by
    intro f T pre mid post hp lp c c' M p hp'
    obtain ⟨q, hq, hq2⟩ := head_in M.ne
    rcases map_nil_or M.h with ⟨_, r, rfl, hr'⟩ | ⟨_, rfl⟩
    · rcases List.mem_singleton.1 hp' with rfl
      refine ⟨rfl, by rw [hr'], by rw [hr'], q, hq, ?_, ?_, nch_head M.n2 hq2⟩
      · have := congrArg NP.g hr'; rw [hq2] at this; exact this.symm
      · have := congrArg NP.e hr'; rw [hq2] at this; exact this.symm
    · cases hp'
  have hlp : ∀ {f : ByteArray → Nat} {T : Nat} {pre mid post hp lp : List Pt} {c c' : Nat}, MoveCut d x y g f T pre mid post hp lp c c' → ∀ p ∈ lp, lp = [p] ∧ (nOf f T p).a = en f T y ∧ (nOf f T p).b = c' ∧ ∃ q ∈ mid, q.g = p.g ∧ q.e = p.e ∧ (nOf f T q).b = c' := by
    intro f T pre mid post hp lp c c' M p hp'
    obtain ⟨q, hq, hq2⟩ := last_in M.ne
    rcases map_nil_or M.l with ⟨_, r, rfl, hr'⟩ | ⟨_, rfl⟩
    · rcases List.mem_singleton.1 hp' with rfl
      refine ⟨rfl, by rw [hr'], by rw [hr'], q, hq, ?_, ?_, nch_last M.n2 hq2⟩
      · have := congrArg NP.g hr'; rw [hq2] at this; exact this.symm
      · have := congrArg NP.e hr'; rw [hq2] at this; exact this.symm
    · cases hp'
  have hE : ∀ {f : ByteArray → Nat} {T : Nat} {pre mid post hp lp : List Pt} {c c' : Nat}, MoveCut d x y g f T pre mid post hp lp c c' → min (mxE mid + 1) 2147483648 = mvE d x y := fun M => by
    unfold mvE; rw [M.filt]
  obtain ⟨L, f, T, pre, mid, post, hp, lp, c, c', R, hT, hx, hy, hk, h0, hl, M, hm, hn, ho⟩ := shape x
  have hN : (⟨x, y, g, mvE d x y⟩ : Pt) ∈ newL d x y g := by rw [M.new, hE M]; simp
  refine ⟨hch, ?_, ?_, ?_, hN, ?_, ?_⟩
  · rw [M.new]
    have h1 : hp.length ≤ 1 := by
      rcases map_nil_or M.h with ⟨_, r, rfl, _⟩ | ⟨_, rfl⟩ <;> simp
    have h2 : lp.length ≤ 1 := by
      rcases map_nil_or M.l with ⟨_, r, rfl, _⟩ | ⟨_, rfl⟩ <;> simp
    have h3 := List.length_pos_iff.2 M.ne
    have h4 := congrArg List.length M.hd
    simp only [List.length_append, List.length_singleton] at h4 ⊢
    omega
  · intro p hp'
    rw [M.new] at hp'
    simp only [List.mem_append, List.mem_singleton] at hp'
    have hpre : ∀ q ∈ pre, q ∈ d := fun q hq => by rw [M.hd]; simp [hq]
    have hpost : ∀ q ∈ post, q ∈ d := fun q hq => by rw [M.hd]; simp [hq]
    rcases hp' with (((h | h) | h) | h) | h
    · have := txs_mem (hpre p h); exact ⟨Or.inr (Or.inr this.1), Or.inr (Or.inr this.2)⟩
    · have := M.txt p (by simp [h]); exact ⟨this.1, this.2.1⟩
    · subst h; exact ⟨Or.inl rfl, Or.inr (Or.inl rfl)⟩
    · have := M.txt p (by simp [h]); exact ⟨this.1, this.2.1⟩
    · have := txs_mem (hpost p h); exact ⟨Or.inr (Or.inr this.1), Or.inr (Or.inr this.2)⟩
  · intro p hp'
    rw [M.new, hE M] at hp'
    simp only [List.mem_append, List.mem_singleton] at hp'
    have hmid : ∀ q ∈ mid, q ∈ d := fun q hq => by rw [M.hd]; simp [hq]
    rcases hp' with (((h | h) | h) | h) | h
    · exact Or.inr ⟨p, by rw [M.hd]; simp [h], rfl, rfl⟩
    · obtain ⟨_, _, _, q, hq, h1, h2, _⟩ := hhp M p h
      exact Or.inr ⟨q, hmid q hq, h1, h2⟩
    · exact Or.inl h
    · obtain ⟨_, _, _, q, hq, h1, h2, _⟩ := hlp M p h
      exact Or.inr ⟨q, hmid q hq, h1, h2⟩
    · exact Or.inr ⟨p, by rw [M.hd]; simp [h], rfl, rfl⟩
  · obtain ⟨q, hq, _⟩ := head_in M.ne
    exact ⟨q, by rw [M.hd]; simp [hq], M.p2 q hq⟩
  · intro k hkn
    obtain ⟨L, f, T, pre, mid, post, hp, lp, c, c', R, hT, hx, hy, hk, h0, hl, M, hm, hn, ho⟩ := shape k
    obtain ⟨q, hq1, hq2, hq3, hq4⟩ := chT_find hch hkn
    refine ⟨q, hq1, fun h => (hq4 _ hN h).symm, fun h => ?_⟩
    have hok := (chT_ok hd).2
    have hokn := (chT_ok hch).2
    have hh : ∀ p ∈ d, hasR p.f p.t k = decide ((nOf f T p).a ≤ f k ∧ f k < (nOf f T p).b) := fun p hp => hasR_en R hT (hl p hp).1 (hl p hp).2 hk (hok p hp) hkn
    have hq5 := hasR_en R hT (hm q hq2).1 (hm q hq2).2 hk (hokn q hq2) hkn
    rw [hq3] at hq5
    have hq6 := of_decide_eq_true hq5.symm
    have hmid : ∀ q ∈ mid, q ∈ d := fun q hq => by rw [M.hd]; simp [hq]
    have hq7 := hq2
    rw [M.new] at hq2
    simp only [List.mem_append, List.mem_singleton] at hq2
    have tmid : ∀ r ∈ mid, max (nOf f T r).a (f x) < min (nOf f T r).b (en f T y) := fun r hr => by
      have := M.p2 r hr
      rw [tch_num R hT (hl r (hmid r hr)).1 (hl r (hmid r hr)).2 hx hy (hok r (hmid r hr)) ‹_›] at this
      simpa [ntch] using this
    rcases hq2 with (((h' | h') | h') | h') | h'
    · have : q ∈ d := by rw [M.hd]; simp [h']
      exact ⟨q, chT_find_eq hd hkn this hq3, rfl, rfl⟩
    · obtain ⟨_, e1, e2, r, hr, h1, h2, h3⟩ := hhp M q h'
      have := tmid r hr
      exact ⟨r, chT_find_eq hd hkn (hmid r hr) (by rw [hh r (hmid r hr)]; exact decide_eq_true (by omega)), h1, h2⟩
    · subst h'; rw [hq3] at h; cases h
    · obtain ⟨_, e1, e2, r, hr, h1, h2, h3⟩ := hlp M q h'
      have := tmid r hr
      exact ⟨r, chT_find_eq hd hkn (hmid r hr) (by rw [hh r (hmid r hr)]; exact decide_eq_true (by omega)), h1, h2⟩
    · have : q ∈ d := by rw [M.hd]; simp [h']
      exact ⟨q, chT_find_eq hd hkn this hq3, rfl, rfl⟩
theorem ownL_all {o : Int} (ho : o ≠ 0) : ∀ (l : List Pt) (s : Nat), (∀ p ∈ l, p.g = o) → ownL (ix s l) o = some o
  | [], s, _ => rfl
  | p :: l, s, h => by
    have hp := h p (by simp)
    rw [ix, ownL, if_neg (by simp [hp])]
    simp only [hp]
    exact ownL_all ho l (s + 1) (fun q hq => h q (List.mem_cons_of_mem _ hq))
theorem ownL_not {o : Int} (ho : o ≠ 0) : ∀ (l : List Pt) (s : Nat), (∃ p ∈ l, p.g ≠ o) → ownL (ix s l) o = none
  | [], s, ⟨p, hp, _⟩ => by cases hp
  | p :: l, s, h => by
    rw [ix, ownL]
    by_cases hp : p.g = o
    · rw [if_neg (by simp [hp])]
      simp only [hp]
      obtain ⟨q, hq, hne⟩ := h
      rcases List.mem_cons.1 hq with rfl | hq'
      · exact absurd hp hne
      · exact ownL_not ho l (s + 1) ⟨q, hq', hne⟩
    · rw [if_pos ⟨ho, hp⟩]
/-- What Owner answers of a map whose parts follow one another. -/
theorem owner_chain {d : List Pt} {x y : ByteArray} (hd : ChT ⟨#[]⟩ d) (hr : okR x y = true) (hg : ∀ p ∈ d, 1 ≤ p.g) :
    (∃ o, 1 ≤ o ∧ (∀ p ∈ d, tch x y p = true → p.g = o) ∧ ownerV d x y = (o, true, 0)) ∨ ((∃ p ∈ d, ∃ q ∈ d, tch x y p = true ∧ tch x y q = true ∧ p.g ≠ q.g) ∧ ownerV d x y = (0, false, 0)) := by
  obtain ⟨f, T, R, hT⟩ := nums (allL d x y x)
  obtain ⟨pre, mid, post, hp, lp, c, c', M⟩ := move_cut R hT 1 (x := x) (y := y) (by simp [allL]) (by simp [allL]) (by simp [allL]) allL_d hd hr
  have hv : ownerV d x y = match ownL (ix pre.length mid) 0 with | none => (0, false, 0) | some o => (o, decide (0 < o), 0) := by
    unfold ownerV
    rw [if_neg (chT_ok hd).1, if_neg (by rw [hr]; simp)]
    have := tl_mid M.p1 M.p2 M.p3
    rw [← M.hd] at this
    rw [this]
    cases ownL (ix pre.length mid) 0 <;> rfl
  have hmid : ∀ q ∈ mid, q ∈ d := fun q hq => by rw [M.hd]; simp [hq]
  have hin : ∀ p ∈ d, tch x y p = true → p ∈ mid := fun p hp ht => by
    rw [← M.filt]; exact List.mem_filter.2 ⟨hp, ht⟩
  cases hm : mid with
  | nil => exact absurd hm M.ne
  | cons p l =>
    have hpg := hg p (hmid p (by rw [hm]; simp))
    rw [hm, ix, ownL, if_neg (by simp)] at hv
    by_cases ha : ∀ q ∈ l, q.g = p.g
    · left
      refine ⟨p.g, hpg, fun q hq ht => ?_, ?_⟩
      · have := hin q hq ht
        rw [hm] at this
        rcases List.mem_cons.1 this with rfl | h
        · rfl
        · exact ha q h
      · rw [hv, ownL_all (by omega) l _ ha]
        simp; omega
    · right
      have : ∃ q ∈ l, q.g ≠ p.g := Classical.byContradiction fun h => ha fun q hq => Classical.byContradiction fun h2 => h ⟨q, hq, h2⟩
      obtain ⟨q, hq, hne⟩ := this
      have h1 : p ∈ mid := by rw [hm]; simp
      have h2 : q ∈ mid := by rw [hm]; simp [hq]
      refine ⟨⟨q, hmid q h2, p, hmid p h1, M.p2 q h2, M.p2 p h1, hne⟩, ?_⟩
      rw [hv, ownL_not (by omega) l _ ⟨q, hq, hne⟩]
theorem owner_bad {d : List Pt} {x y : ByteArray} (hd : d ≠ []) (hr : okR x y = false) : ownerV d x y = (0, false, 2) := by
  unfold ownerV
  rw [if_neg hd, if_pos hr]
theorem mxE_ge : ∀ (l : List Pt) (m : Int), m ≤ l.foldl (fun m p => max m p.e) m ∧ ∀ p ∈ l, p.e ≤ l.foldl (fun m p => max m p.e) m
  | [], m => ⟨Int.le_refl _, fun p hp => by cases hp⟩
  | p :: l, m => by
    have := mxE_ge l (max m p.e)
    rw [List.foldl_cons]
    refine ⟨by omega, fun q hq => ?_⟩
    rcases List.mem_cons.1 hq with rfl | hq
    · omega
    · exact this.2 q hq
theorem mxE_le : ∀ (l : List Pt) (m b : Int), m ≤ b → (∀ p ∈ l, p.e ≤ b) → l.foldl (fun m p => max m p.e) m ≤ b
  | [], m, b, h, _ => h
  | p :: l, m, b, h, h2 => by
    rw [List.foldl_cons]
    have := h2 p (by simp)
    exact mxE_le l _ b (by omega) (fun q hq => h2 q (List.mem_cons_of_mem _ hq))
theorem mxE_mem : ∀ (l : List Pt) (m : Int), l.foldl (fun m p => max m p.e) m = m ∨ ∃ p ∈ l, l.foldl (fun m p => max m p.e) m = p.e
  | [], m => Or.inl rfl
  | p :: l, m => by
    rw [List.foldl_cons]
    rcases mxE_mem l (max m p.e) with h | ⟨q, hq, h⟩
    · rw [h]
      rcases Int.le_total p.e m with h1 | h1
      · left; omega
      · right; exact ⟨p, by simp, by omega⟩
    · exact Or.inr ⟨q, List.mem_cons_of_mem _ hq, h⟩
/-- A key of both: the range touches the part. -/
theorem tch_of_key {x y k : ByteArray} {p : Pt} (hp : okR p.f p.t = true) (hr : okR x y = true) (h1 : hasR p.f p.t k = true) (h2 : hasR x y k = true) : tch x y p = true := by
  have := (keys_law p.f p.t x y k hp hr).1
  rw [h1, h2] at this
  simp only [Bool.and_self, Bool.and_eq_true] at this
  unfold tch
  rw [hp, hr, this.1]; rfl
theorem key_of_tch {x y k : ByteArray} {p : Pt} (hp : okR p.f p.t = true) (hr : okR x y = true) (h : hasR (maxS p.f x) (minE p.t y) k = true) (ht : tch x y p = true) : hasR p.f p.t k = true ∧ hasR x y k = true := by
  have := (keys_law p.f p.t x y k hp hr).1
  unfold tch at ht
  simp only [Bool.and_eq_true] at ht
  rw [ht.2, h] at this
  simpa using this.symm
end
section

/-- The key of a number. -/
def nmS (n : Nat) : ByteArray := ⟨#[UInt8.ofNat (97 + n % 64 / 4), UInt8.ofNat (48 + n % 4)]⟩
/-- The key of a number, and a 5 behind it. -/
def nm5 (n : Nat) : ByteArray := ⟨#[UInt8.ofNat (97 + n % 64 / 4), UInt8.ofNat (48 + n % 4), 53]⟩
theorem nmS_mod (n : Nat) : nmS (n % 64) = nmS n := by
  unfold nmS
  rw [show n % 64 % 64 = n % 64 by omega, show n % 64 % 4 = n % 4 by omega]
theorem toL (x : ByteArray) : x.toList = x.data.toList := ByteArray.toList_eq ..
theorem range_all {n : Nat} {p : Nat → Bool} (h : (List.range n).all p = true) {k : Nat} (hk : k < n) : p k = true := (List.all_eq_true.1 h) k (List.mem_range.2 hk)
theorem nm_lt_aux : ((List.range 64).all fun a => (List.range 64).all fun b => Op.bytesLess (nmS a).data.toList (nmS b).data.toList == decide (a < b)) = true := by kernel_rfl
theorem nm_lt {a b : Nat} (ha : a < 64) (hb : b < 64) : Op.bytesLess (nmS a).toList (nmS b).toList = decide (a < b) := by
  rw [toL, toL]
  have := range_all (range_all nm_lt_aux ha) hb
  simpa using this
theorem nm_isName_aux : ((List.range 64).all fun a => isName (nmS a).data.toList) = true := by kernel_rfl
theorem nm_isName (a : Nat) : isName (nmS a).data.toList = true := by
  rw [← nmS_mod]
  exact range_all nm_isName_aux (Nat.mod_lt _ (by decide))
theorem nm5_isName_aux : ((List.range 64).all fun a => isName (nm5 a).data.toList) = true := by kernel_rfl
theorem nm5_isName {a : Nat} (h : a < 64) : isName (nm5 a).data.toList = true := range_all nm5_isName_aux h
theorem nm5_lt_aux : ((List.range 63).all fun a => Op.bytesLess (nmS a).data.toList (nm5 a).data.toList && Op.bytesLess (nm5 a).data.toList (nmS (a + 1)).data.toList) = true := by kernel_rfl
theorem nm5_lt {a : Nat} (h : a < 63) : Op.bytesLess (nmS a).toList (nm5 a).toList = true ∧ Op.bytesLess (nm5 a).toList (nmS (a + 1)).toList = true := by
  rw [toL, toL, toL]
  have := range_all nm5_lt_aux h
  simpa [Bool.and_eq_true] using this
theorem nm_ne (a : Nat) : nmS a ≠ ⟨#[]⟩ := fun h => by
  have := nm_isName a
  rw [h] at this
  cases this
theorem nm_size (a : Nat) : (nmS a).size = 2 := rfl
theorem name_okS {x : ByteArray} (h : isName x.data.toList = true) : okS x = true := by unfold okS; rw [h]; simp
theorem nm_okS (a : Nat) : okS (nmS a) = true := name_okS (nm_isName a)
theorem em_okS : okS ⟨#[]⟩ = true := by unfold okS; rw [toL]; rfl

/-- The ends and the group of a move by numbers. -/
def spanN (a b : Nat) : Nat × Nat := if b % 64 ≠ 0 ∧ b % 64 < a % 64 then (b % 64, a % 64) else (a % 64, b % 64)
def spF (a b : Nat) : ByteArray := if (spanN a b).1 = 0 then ⟨#[]⟩ else nmS (spanN a b).1
def spT (a b : Nat) : ByteArray := if (spanN a b).2 = 0 ∨ (spanN a b).1 = (spanN a b).2 then ⟨#[]⟩ else nmS (spanN a b).2
def spG (c : Nat) : Int := 1 + ((c % 7 : Nat) : Int)
theorem spG_bd (c : Nat) : 1 ≤ spG c ∧ spG c ≤ 7 := by unfold spG; omega
theorem spanN_lt (a b : Nat) : (spanN a b).1 < 64 ∧ (spanN a b).2 < 64 ∧ ((spanN a b).2 ≠ 0 → (spanN a b).1 ≤ (spanN a b).2) := by
  unfold spanN
  split <;> simp only <;> omega
theorem sp_ok (a b : Nat) : okR (spF a b) (spT a b) = true := by
  obtain ⟨h1, h2, h3⟩ := spanN_lt a b
  have o1 : okS (spF a b) = true := by unfold spF; split; exact em_okS; exact nm_okS _
  have o2 : okS (spT a b) = true := by unfold spT; split; exact em_okS; exact nm_okS _
  unfold okR
  rw [o1, o2]
  simp only [Bool.true_and, Bool.or_eq_true]
  by_cases h : (spanN a b).2 = 0 ∨ (spanN a b).1 = (spanN a b).2
  · left; unfold spT; rw [if_pos h, toL]; rfl
  · right
    have e2 : spT a b = nmS (spanN a b).2 := by unfold spT; exact if_neg h
    rw [e2]
    by_cases h0 : (spanN a b).1 = 0
    · have e1 : spF a b = ⟨#[]⟩ := by unfold spF; exact if_pos h0
      rw [e1, toL, toL]; rfl
    · have e1 : spF a b = nmS (spanN a b).1 := by unfold spF; exact if_neg h0
      rw [e1, nm_lt h1 h2]
      simp only [decide_eq_true_eq]
      have := h3 (by omega)
      omega
theorem sp_size (a b : Nat) : (spF a b).size ≤ 2 ∧ (spT a b).size ≤ 2 := by
  constructor
  · unfold spF; split
    · decide
    · exact Nat.le_of_eq (nm_size _)
  · unfold spT; split
    · decide
    · exact Nat.le_of_eq (nm_size _)
end
section

theorem cut_one {α : Type} {q : α → Bool} {p : α} (hp : q p = true) : ∀ {pre pre' post post' : List α}, pre ++ p :: post = pre' ++ p :: post' → (∀ a ∈ pre, q a = false) → (∀ a ∈ pre', q a = false) → pre = pre' ∧ post = post'
  | [], [], post, post', h, _, _ => by simpa using h
  | [], b :: pre', post, post', h, _, h2 => by
    simp only [List.nil_append, List.cons_append, List.cons.injEq] at h
    have := h2 b (by simp)
    rw [← h.1, hp] at this; cases this
  | a :: pre, [], post, post', h, h1, _ => by
    simp only [List.nil_append, List.cons_append, List.cons.injEq] at h
    have := h1 a (by simp)
    rw [h.1, hp] at this; cases this
  | a :: pre, b :: pre', post, post', h, h1, h2 => by
    simp only [List.cons_append, List.cons.injEq] at h
    obtain ⟨e1, e2⟩ := cut_one hp h.2 (fun c hc => h1 c (List.mem_cons_of_mem _ hc)) (fun c hc => h2 c (List.mem_cons_of_mem _ hc))
    exact ⟨by rw [h.1, e1], e2⟩
theorem move_in {d pre post : List Pt} {p : Pt} {x y : ByteArray} (g : Int) (hd : ChT ⟨#[]⟩ d) (hp : d = pre ++ p :: post) (hr : okR x y = true) (h1 : Op.bytesLess x.toList p.f.toList = false) (h2 : endLt p.t y = false) :
    d.filter (tch x y) = [p] ∧ epL (tl d x y d.length) = max 0 p.e ∧ newL d x y g = pre ++ (if p.f = x then [] else [⟨p.f, x, p.g, p.e⟩]) ++ [⟨x, y, g, min (max 0 p.e + 1) 2147483648⟩] ++ (if y = p.t then [] else [⟨y, p.t, p.g, p.e⟩]) ++ post := by
  obtain ⟨f, T, R, hT⟩ := nums (allL d x y x)
  have hx : x ∈ allL d x y x := by simp [allL]
  have hy : y ∈ allL d x y x := by simp [allL]
  have h0 : (⟨#[]⟩ : ByteArray) ∈ allL d x y x := by simp [allL]
  have hl : ∀ q ∈ d, q.f ∈ allL d x y x ∧ q.t ∈ allL d x y x := allL_d
  have ht : ∀ s ∈ txsP d, s ∈ allL d x y x := fun s hs => by simp [allL, hs]
  have hok := (chT_ok hd).2
  obtain ⟨hne, _, hch⟩ := (chT_num R hT h0 hl).1 hd
  rw [(rank_zero R h0).2 rfl] at hch
  have hpd : p ∈ d := by rw [hp]; simp
  have hx1 : f x < en f T y := by
    have := hr
    rw [okR_en R hT hx hy] at this
    simp only [Bool.and_eq_true, decide_eq_true_eq] at this
    exact this.2.2
  have a1 : f p.f ≤ f x := by
    rw [R.lt x hx p.f (hl p hpd).1] at h1
    have := of_decide_eq_false h1; omega
  have a2 : en f T y ≤ en f T p.t := by
    rw [endLt_en R hT (hl p hpd).2 hy] at h2
    have := of_decide_eq_false h2; omega
  have hch' : NCh T 0 (pre.map (nOf f T) ++ nOf f T p :: post.map (nOf f T)) := by rw [hp] at hch; simpa using hch
  obtain ⟨c1, n1, n2⟩ := nch_split hch'
  obtain ⟨n3, n4, n5⟩ := n2
  have hpre : ∀ q ∈ pre, tch x y q = false := fun q hq => by
    have hqd : q ∈ d := by rw [hp]; simp [hq]
    rw [tch_num R hT (hl q hqd).1 (hl q hqd).2 hx hy (hok q hqd) hr]
    have := ((nch_le n1).2 _ (List.mem_map_of_mem hq)).2.2
    have e : (nOf f T p).a = f p.f := rfl
    unfold ntch
    exact decide_eq_false (by omega)
  have hpost : ∀ q ∈ post, tch x y q = false := fun q hq => by
    have hqd : q ∈ d := by rw [hp]; simp [hq]
    rw [tch_num R hT (hl q hqd).1 (hl q hqd).2 hx hy (hok q hqd) hr]
    have := ((nch_le n5).2 _ (List.mem_map_of_mem hq)).1
    have e : (nOf f T p).b = en f T p.t := rfl
    unfold ntch
    exact decide_eq_false (by omega)
  have hpt : tch x y p = true := by
    rw [tch_num R hT (hl p hpd).1 (hl p hpd).2 hx hy (hok p hpd) hr]
    unfold ntch nOf
    exact decide_eq_true (by simp only; omega)
  have hf : d.filter (tch x y) = [p] := by
    rw [hp, List.filter_append, filt_no hpre, List.filter_cons, hpt, filt_no hpost]; rfl
  refine ⟨hf, ?_, ?_⟩
  · have := tl_mid (x := x) (y := y) (pre := pre) (mid := [p]) (post := post) hpre (fun q hq => by rw [List.mem_singleton.1 hq]; exact hpt) hpost
    rw [hp, show pre ++ p :: post = pre ++ [p] ++ post by simp, this]
    rfl
  obtain ⟨pre', mid, post', hp', lp, c, c', M⟩ := move_cut R hT g hx hy h0 hl hd hr
  have hmid : mid = [p] := M.filt.symm.trans hf
  subst hmid
  have hcut := M.hd.symm.trans hp
  rw [show pre' ++ [p] ++ post' = pre' ++ p :: post' by simp] at hcut
  obtain ⟨rfl, rfl⟩ := cut_one (q := tch x y) hpt hcut M.p1 hpre
  obtain ⟨m1, m2, m3⟩ := M.n2
  have m1' : f p.f = c := m1
  have m3' : en f T p.t = c' := m3
  have inL : ∀ q ∈ hp' ++ lp, q.f ∈ allL d x y x ∧ q.t ∈ allL d x y x := fun q hq => by
    obtain ⟨a, b, _⟩ := M.txt q hq
    refine ⟨?_, ?_⟩
    · rcases a with a | a | a
      · rw [a]; exact hx
      · rw [a]; exact hy
      · exact ht _ a
    · rcases b with a | a | a
      · rw [a]; exact hx
      · rw [a]; exact hy
      · exact ht _ a
  have hend : ∀ {s t : ByteArray}, s ∈ allL d x y x → t ∈ allL d x y x → en f T s = en f T t → s = t := fun {s t} hs ht' e => by
    have u1 := hT s hs
    have u2 := hT t ht'
    unfold en at e
    refine rank_eq R hs ht' ?_
    split at e <;> split at e <;> omega
  have e1 : hp' = if p.f = x then [] else [⟨p.f, x, p.g, p.e⟩] := by
    rcases map_nil_or M.h with ⟨hlt, q, rfl, hq⟩ | ⟨hnlt, rfl⟩
    · rw [if_neg (fun e => by rw [← e] at hlt; omega)]
      have hqL := inL q (by simp)
      have q1 : f q.f = c := congrArg NP.a hq
      have q2 : en f T q.t = f x := congrArg NP.b hq
      have q3 : q.g = p.g := congrArg NP.g hq
      have q4 : q.e = p.e := congrArg NP.e hq
      have r1 : q.f = p.f := rank_eq R hqL.1 (hl p hpd).1 (by omega)
      have r2 : q.t = x := rank_eq R hqL.2 hx (by
        have u1 := hT x hx
        unfold en at q2
        split at q2 <;> omega)
      cases q; simp only at r1 r2 q3 q4; rw [r1, r2, q3, q4]
    · have := M.cx
      rw [if_pos (rank_eq R (hl p hpd).1 hx (by omega))]
  have e2 : lp = if y = p.t then [] else [⟨y, p.t, p.g, p.e⟩] := by
    rcases map_nil_or M.l with ⟨hlt, q, rfl, hq⟩ | ⟨hnlt, rfl⟩
    · rw [if_neg (fun e => by rw [← m3', e] at hlt; omega)]
      have hqL := inL q (by simp)
      have q1 : f q.f = en f T y := congrArg NP.a hq
      have q2 : en f T q.t = c' := congrArg NP.b hq
      have q3 : q.g = p.g := congrArg NP.g hq
      have q4 : q.e = p.e := congrArg NP.e hq
      have r1 : q.f = y := rank_eq R hqL.1 hy (by
        have u1 := hT q.f hqL.1
        unfold en at q1
        split at q1 <;> omega)
      have r2 : q.t = p.t := hend hqL.2 (hl p hpd).2 (by omega)
      cases q; simp only at r1 r2 q3 q4; rw [r1, r2, q3, q4]
    · have := M.cy
      rw [if_pos (hend hy (hl p hpd).2 (by omega))]
  rw [M.new, e1, e2]
  rfl
/-- What Move answers where its range lies in one part. -/
theorem moveV_in {d pre post : List Pt} {p : Pt} {x y : ByteArray} (g : Int) (hd : ChT ⟨#[]⟩ d) (hp : d = pre ++ p :: post) (hr : okR x y = true) (h1 : Op.bytesLess x.toList p.f.toList = false) (h2 : endLt p.t y = false) (hgs : ∀ q ∈ d, 1 ≤ q.g) (he : 1 ≤ p.e ∧ p.e < 2147483648) (hg : 1 ≤ g ∧ g < 8) (hne : p.g ≠ g) :
    moveV d x y g = if 64 < (newL d x y g).length then (0, 4, d) else (p.e + 1, 0, newL d x y g) := by
  obtain ⟨k1, k2, k3⟩ := move_in g hd hp hr h1 h2
  have hpd : p ∈ d.filter (tch x y) := by rw [k1]; simp
  have hown : ownerV d x y = (p.g, true, 0) := by
    rcases owner_chain hd hr hgs with ⟨o, ho, ha, hv⟩ | ⟨⟨a, ha, b, hb, ta, tb, hab⟩, _⟩
    · rw [hv, ha p (List.mem_filter.1 hpd).1 (List.mem_filter.1 hpd).2]
    · have i1 : a ∈ d.filter (tch x y) := List.mem_filter.2 ⟨ha, ta⟩
      have i2 : b ∈ d.filter (tch x y) := List.mem_filter.2 ⟨hb, tb⟩
      rw [k1] at i1 i2
      rw [List.mem_singleton.1 i1, List.mem_singleton.1 i2] at hab
      exact absurd rfl hab
  unfold moveV
  rw [hown, k2, if_neg (by simp), if_neg (by simpa using hg), if_neg (by simp [hne])]
  rw [show min (max 0 p.e + 1) 2147483648 = p.e + 1 by omega]
def gP (own oth : Int) (j : Nat) : Int := if j % 2 = 0 then own else oth
def eP (j : Nat) : Int := if j % 2 = 0 then 1 else 2
def lo (j : Nat) : ByteArray := if j = 0 then ⟨#[]⟩ else nmS j
def pcF (own oth : Int) (j : Nat) : Pt := ⟨lo j, nmS (j + 1), gP own oth j, eP j⟩
def inF (own oth : Int) (n : Nat) : List Pt := (List.range n).map (pcF own oth)
def ltF (own oth : Int) (n : Nat) : Pt := ⟨lo n, ⟨#[]⟩, gP own oth n, eP n⟩
/-- The map behind moves that begin at each of the first n names. -/
def dF (own oth : Int) (n : Nat) : List Pt := inF own oth n ++ [ltF own oth n]
theorem inF_succ (own oth : Int) (n : Nat) : inF own oth (n + 1) = inF own oth n ++ [pcF own oth n] := by simp [inF, List.range_succ]
theorem dF_len (own oth : Int) (n : Nat) : (dF own oth n).length = n + 1 := by simp [dF, inF]
theorem nm_inj {a b : Nat} (ha : a < 64) (hb : b < 64) (h : nmS a = nmS b) : a = b := by
  have h1 := nm_lt ha hb
  have h2 := nm_lt hb ha
  rw [h] at h1 h2
  rw [nm_lt hb hb] at h1 h2
  simp only [Nat.lt_irrefl, decide_false] at h1 h2
  have := of_decide_eq_false h1.symm
  have := of_decide_eq_false h2.symm
  omega
theorem lo_lt {a b : Nat} (ha : a < 64) (hb : b < 64) : Op.bytesLess (nmS a).toList (lo b).toList = decide (a < b) := by
  unfold lo
  split
  · rw [toL ⟨#[]⟩]; subst b; exact bl_nil _
  · exact nm_lt ha hb
theorem lo_ne {a b : Nat} (ha : a < 64) (hb : b < 64) (h : a ≠ b) : lo b ≠ nmS a := by
  unfold lo
  split
  · exact fun e => nm_ne a e.symm
  · exact fun e => h (nm_inj hb ha e).symm
theorem endLt_em (y : ByteArray) : endLt ⟨#[]⟩ y = false := by
  unfold endLt
  rw [toL ⟨#[]⟩]
  simp
theorem endLt_nm {x y : ByteArray} (h : Op.bytesLess x.toList y.toList = false) (hy : y.toList ≠ []) : endLt x y = false := by
  unfold endLt
  rw [h, beq_eq_false_iff_ne.2 hy]
  simp
theorem okR_nm {x y : ByteArray} (hx : okS x = true) (hy : isName y.data.toList = true) (h : Op.bytesLess x.toList y.toList = true) : okR x y = true := by
  unfold okR
  rw [hx, name_okS hy, h]; simp
theorem okR_end {x : ByteArray} (hx : okS x = true) : okR x ⟨#[]⟩ = true := by
  unfold okR
  rw [hx, em_okS, toL ⟨#[]⟩]; simp
section
variable {own oth : Int} (ho : 1 ≤ own ∧ own < 8) (hh : 1 ≤ oth ∧ oth < 8) (hne : own ≠ oth)
include ho hh in
theorem gP_bd (j : Nat) : 1 ≤ gP own oth j ∧ gP own oth j < 8 := by unfold gP; split <;> assumption
theorem eP_bd (j : Nat) : 1 ≤ eP j ∧ eP j ≤ 2 := by unfold eP; split <;> omega
theorem lo_size (j : Nat) : (lo j).size ≤ 2 := by
  unfold lo; split
  · decide
  · exact Nat.le_of_eq (nm_size _)
theorem dF_mem {n : Nat} {q : Pt} (h : q ∈ dF own oth n) : ∃ j, q = pcF own oth j ∨ q = ltF own oth j := by
  unfold dF inF at h
  rcases List.mem_append.1 h with h | h
  · obtain ⟨j, _, rfl⟩ := List.mem_map.1 h
    exact ⟨j, Or.inl rfl⟩
  · exact ⟨n, Or.inr (List.mem_singleton.1 h)⟩
include ho hh in
theorem dF_g {n : Nat} : ∀ q ∈ dF own oth n, 1 ≤ q.g := fun q hq => by
  obtain ⟨j, rfl | rfl⟩ := dF_mem hq
  · exact (gP_bd ho hh j).1
  · exact (gP_bd ho hh j).1
theorem dF_e {n : Nat} : ∀ q ∈ dF own oth n, q.e ≤ 2147483648 := fun q hq => by
  obtain ⟨j, rfl | rfl⟩ := dF_mem hq
  · have := (eP_bd j).2; show eP j ≤ _; omega
  · have := (eP_bd j).2; show eP j ≤ _; omega
theorem dF_small {n : Nat} (hn : n ≤ 800) : SmallP (dF own oth n) := ⟨by rw [dF_len]; omega, fun q hq => by
  obtain ⟨j, rfl | rfl⟩ := dF_mem hq
  · have := lo_size j
    exact ⟨by show (lo j).size ≤ _; omega, by show (nmS (j + 1)).size ≤ _; rw [nm_size]; omega⟩
  · have := lo_size j
    exact ⟨by show (lo j).size ≤ _; omega, by show (0 : Nat) ≤ _; omega⟩⟩
theorem ch_one (g e : Int) : ChT ⟨#[]⟩ [⟨⟨#[]⟩, ⟨#[]⟩, g, e⟩] := ⟨rfl, okR_end em_okS, Or.inl ⟨rfl, rfl⟩⟩
include ho hh hne in
theorem dF_move {i : Nat} (hi : i < 31) (hd : ChT ⟨#[]⟩ (dF own oth (2 * i))) :
    moveV (dF own oth (2 * i)) (nmS (2 * i + 1)) (nmS (2 * i + 2)) oth = (2, 0, dF own oth (2 * i + 2)) ∧ ChT ⟨#[]⟩ (dF own oth (2 * i + 2)) := by
  have e0 : gP own oth (2 * i) = own := by unfold gP; rw [if_pos (by omega)]
  have e1 : gP own oth (2 * i + 1) = oth := by unfold gP; rw [if_neg (by omega)]
  have e2 : gP own oth (2 * i + 2) = own := by unfold gP; rw [if_pos (by omega)]
  have f0 : eP (2 * i) = 1 := by unfold eP; rw [if_pos (by omega)]
  have f1 : eP (2 * i + 1) = 2 := by unfold eP; rw [if_neg (by omega)]
  have f2 : eP (2 * i + 2) = 1 := by unfold eP; rw [if_pos (by omega)]
  have hr : okR (nmS (2 * i + 1)) (nmS (2 * i + 2)) = true := okR_nm (nm_okS _) (nm_isName _) (by rw [nm_lt (by omega) (by omega)]; exact decide_eq_true (by omega))
  have h1 : Op.bytesLess (nmS (2 * i + 1)).toList (ltF own oth (2 * i)).f.toList = false := by
    show Op.bytesLess (nmS (2 * i + 1)).toList (lo (2 * i)).toList = false
    rw [lo_lt (by omega) (by omega)]; exact decide_eq_false (by omega)
  have h2 : endLt (ltF own oth (2 * i)).t (nmS (2 * i + 2)) = false := endLt_em _
  have hn : newL (dF own oth (2 * i)) (nmS (2 * i + 1)) (nmS (2 * i + 2)) oth = dF own oth (2 * i + 2) := by
    rw [(move_in oth hd (pre := inF own oth (2 * i)) (post := []) (p := ltF own oth (2 * i)) rfl hr h1 h2).2.2]
    simp only [ltF, dF, e0, f0, e2, f2]
    rw [if_neg (lo_ne (by omega) (by omega) (by omega)), if_neg (nm_ne _), inF_succ, inF_succ]
    simp only [pcF, e0, f0, e1, f1]
    simp [lo]
    decide
  have hv := moveV_in oth hd (pre := inF own oth (2 * i)) (post := []) (p := ltF own oth (2 * i)) rfl hr h1 h2 (dF_g ho hh) ⟨(eP_bd _).1, by have := (eP_bd (2 * i)).2; show eP (2 * i) < _; omega⟩ hh (by show gP own oth (2 * i) ≠ oth; rw [e0]; exact hne)
  rw [hn] at hv
  refine ⟨?_, ?_⟩
  · rw [hv, if_neg (by rw [dF_len]; omega)]
    show (eP (2 * i) + 1, (0 : Int), _) = _
    rw [f0]; rfl
  · have := (move_says oth hd hr).ch
    rw [hn] at this; exact this
theorem dF_zero : dF own oth 0 = [⟨⟨#[]⟩, ⟨#[]⟩, own, 1⟩] := rfl
include ho hh hne in
theorem dF_ch : ∀ {i : Nat}, i ≤ 31 → ChT ⟨#[]⟩ (dF own oth (2 * i))
  | 0, _ => ch_one own 1
  | i + 1, h => by
    have := (dF_move ho hh hne (i := i) (by omega) (dF_ch (by omega))).2
    exact this
include ho hh hne in
theorem dF_last' {n : Nat} (h62 : n = 62) (hd : ChT ⟨#[]⟩ (dF own oth n)) :
    moveV (dF own oth n) (nmS (n + 1)) ⟨#[]⟩ oth = (2, 0, dF own oth (n + 1)) ∧ ChT ⟨#[]⟩ (dF own oth (n + 1)) := by
  have e0 : gP own oth n = own := by unfold gP; rw [if_pos (by omega)]
  have e1 : gP own oth (n + 1) = oth := by unfold gP; rw [if_neg (by omega)]
  have f0 : eP n = 1 := by unfold eP; rw [if_pos (by omega)]
  have f1 : eP (n + 1) = 2 := by unfold eP; rw [if_neg (by omega)]
  have hr : okR (nmS (n + 1)) ⟨#[]⟩ = true := okR_end (nm_okS _)
  have h1 : Op.bytesLess (nmS (n + 1)).toList (ltF own oth n).f.toList = false := by
    show Op.bytesLess (nmS (n + 1)).toList (lo n).toList = false
    rw [lo_lt (by omega) (by omega)]; exact decide_eq_false (by omega)
  have h2 : endLt (ltF own oth n).t ⟨#[]⟩ = false := endLt_em _
  have hn : newL (dF own oth n) (nmS (n + 1)) ⟨#[]⟩ oth = dF own oth (n + 1) := by
    rw [(move_in oth hd (pre := inF own oth n) (post := []) (p := ltF own oth n) rfl hr h1 h2).2.2]
    simp only [ltF, dF, e0, f0, e1, f1]
    rw [if_neg (lo_ne (by omega) (by omega) (by omega)), if_pos trivial, inF_succ]
    simp only [pcF, e0, f0]
    simp [lo]
    decide
  have hv := moveV_in oth hd (pre := inF own oth n) (post := []) (p := ltF own oth n) rfl hr h1 h2 (dF_g ho hh) ⟨(eP_bd _).1, by have := (eP_bd n).2; show eP n < _; omega⟩ hh (by show gP own oth n ≠ oth; rw [e0]; exact hne)
  rw [hn] at hv
  refine ⟨?_, ?_⟩
  · rw [hv, if_neg (by rw [dF_len]; omega)]
    show (eP n + 1, (0 : Int), _) = _
    rw [f0]; rfl
  · have := (move_says oth hd hr).ch
    rw [hn] at this; exact this
include ho hh hne in
theorem dF_last (hd : ChT ⟨#[]⟩ (dF own oth 62)) :
    moveV (dF own oth 62) (nmS 63) ⟨#[]⟩ oth = (2, 0, dF own oth 63) ∧ ChT ⟨#[]⟩ (dF own oth 63) := dF_last' ho hh hne rfl hd
/-- The map behind the last move. -/
def dB (own oth : Int) (n : Nat) : List Pt := inF own oth n ++ [⟨nmS n, ⟨#[]⟩, own, 3⟩]
theorem dB_len (own oth : Int) (n : Nat) : (dB own oth n).length = n + 1 := by simp [dB, inF]
include ho hh hne in
theorem dF_back' {n : Nat} (h63 : n = 63) (hd : ChT ⟨#[]⟩ (dF own oth n)) :
    moveV (dF own oth n) (nmS n) ⟨#[]⟩ own = (3, 0, dB own oth n) := by
  have e0 : gP own oth n = oth := by unfold gP; rw [if_neg (by omega)]
  have f0 : eP n = 2 := by unfold eP; rw [if_neg (by omega)]
  have hlo : lo n = nmS n := by unfold lo; rw [if_neg (by omega)]
  have hr : okR (nmS n) ⟨#[]⟩ = true := okR_end (nm_okS _)
  have h1 : Op.bytesLess (nmS n).toList (ltF own oth n).f.toList = false := by
    show Op.bytesLess (nmS n).toList (lo n).toList = false
    rw [lo_lt (by omega) (by omega)]; exact decide_eq_false (by omega)
  have h2 : endLt (ltF own oth n).t ⟨#[]⟩ = false := endLt_em _
  have hn : newL (dF own oth n) (nmS n) ⟨#[]⟩ own = dB own oth n := by
    rw [(move_in own hd (pre := inF own oth n) (post := []) (p := ltF own oth n) rfl hr h1 h2).2.2]
    simp only [ltF, dB, e0, f0]
    rw [if_pos hlo, if_pos trivial]
    simp
    decide
  have hv := moveV_in own hd (pre := inF own oth n) (post := []) (p := ltF own oth n) rfl hr h1 h2 (dF_g ho hh) ⟨(eP_bd _).1, by have := (eP_bd n).2; show eP n < _; omega⟩ ho (by show gP own oth n ≠ own; rw [e0]; exact fun e => hne e.symm)
  rw [hn] at hv
  rw [hv, if_neg (by rw [dB_len]; omega)]
  show (eP n + 1, (0 : Int), _) = _
  rw [f0]; rfl
include ho hh hne in
theorem dF_back (hd : ChT ⟨#[]⟩ (dF own oth 63)) :
    moveV (dF own oth 63) (nmS 63) ⟨#[]⟩ own = (3, 0, dB own oth 63) := dF_back' ho hh hne rfl hd
theorem dF_at {n k : Nat} (hk : k < n) : (dF own oth n)[k]? = some (pcF own oth k) := by
  unfold dF inF
  rw [List.getElem?_append_left (by simpa using hk)]
  simp [hk]
include ho hh in
theorem dF_no {k : Nat} (hk : k < 63) (hd : ChT ⟨#[]⟩ (dF own oth 63)) {g : Int} (hg : 1 ≤ g ∧ g < 8) (hgk : gP own oth k ≠ g) :
    moveV (dF own oth 63) (nmS k) (nm5 k) g = (0, 4, dF own oth 63) := by
  obtain ⟨b1, b2⟩ := nm5_lt hk
  have hr : okR (nmS k) (nm5 k) = true := okR_nm (nm_okS _) (nm5_isName (by omega)) b1
  have h1 : Op.bytesLess (nmS k).toList (pcF own oth k).f.toList = false := by
    show Op.bytesLess (nmS k).toList (lo k).toList = false
    rw [lo_lt (by omega) (by omega)]; exact decide_eq_false (by omega)
  have hb : Op.bytesLess (nmS (k + 1)).toList (nm5 k).toList = false := by
    cases h : Op.bytesLess (nmS (k + 1)).toList (nm5 k).toList with
    | false => rfl
    | true => have h' := bl_trans b2 h; have := bl_irr (nm5 k).toList; rw [this] at h'; cases h'
  have h5 : (nm5 k).toList ≠ [] := by rw [toL]; exact fun e => by cases e
  have h2 : endLt (pcF own oth k).t (nm5 k) = false := endLt_nm hb h5
  have hp : dF own oth 63 = (dF own oth 63).take k ++ pcF own oth k :: (dF own oth 63).drop (k + 1) := by
    have hlt : k < (dF own oth 63).length := by rw [dF_len]; omega
    have := List.getElem_cons_drop hlt
    have e := dF_at (own := own) (oth := oth) hk
    rw [List.getElem?_eq_getElem hlt, Option.some.injEq] at e
    rw [e] at this
    rw [this, List.take_append_drop]
  have hv := moveV_in g hd hp hr h1 h2 (dF_g ho hh) ⟨(eP_bd _).1, by have := (eP_bd k).2; show eP k < _; omega⟩ hg hgk
  have hn := (move_in g hd hp hr h1 h2).2.2
  have hne : ¬ nm5 k = (pcF own oth k).t := fun e => by
    have e' : nm5 k = nmS (k + 1) := e
    rw [e', bl_irr] at b2; cases b2
  rw [if_neg hne] at hn
  rw [hv, if_pos ?_]
  rw [hn]
  have hlen : ((dF own oth 63).take k).length = k := by rw [List.length_take, dF_len]; omega
  have hlen2 : ((dF own oth 63).drop (k + 1)).length = 63 - k := by rw [List.length_drop, dF_len]; omega
  simp only [List.length_append, hlen, hlen2, List.length_cons, List.length_nil]
  omega
theorem dF_find {k : Nat} (hk : k < 63) (hd : ChT ⟨#[]⟩ (dF own oth 63)) : findP (dF own oth 63) (nmS k) = some (pcF own oth k) := by
  refine chT_find_eq hd (nm_isName _) (List.mem_of_getElem? (dF_at hk)) ?_
  have hl : okS (lo k) = true := by unfold lo; split; exact em_okS; exact nm_okS _
  have h1 : Op.bytesLess (nmS k).toList (nmS (k + 1)).toList = true := by rw [nm_lt (by omega) (by omega)]; exact decide_eq_true (by omega)
  have h2 : Op.bytesLess (lo k).toList (nmS (k + 1)).toList = true := by
    unfold lo; split
    · rw [toL, toL]; rfl
    · exact h1
  have h3 : (nmS k).toList ≠ (nmS (k + 1)).toList := fun e => by rw [e, bl_irr] at h1; cases h1
  have h4 : (nmS k).toList ≠ [] := by rw [toL]; exact fun e => by cases e
  unfold hasR
  show (okR (lo k) (nmS (k + 1)) && (isName (nmS k).data.toList && (!Op.bytesLess (nmS k).toList (lo k).toList && endLt (nmS k) (nmS (k + 1))))) = true
  rw [okR_nm hl (nm_isName _) h2, nm_isName, lo_lt (by omega) (by omega)]
  unfold endLt
  rw [h1, beq_eq_false_iff_ne.2 h3, beq_eq_false_iff_ne.2 h4]
  simp
end
end
section

def NamedE (s : ByteArray) : Prop := ∃ j, j < 64 ∧ s = lo j
theorem named_em : NamedE ⟨#[]⟩ := ⟨0, by decide, rfl⟩
theorem sp_named (a b : Nat) : NamedE (spF a b) ∧ NamedE (spT a b) := by
  obtain ⟨h1, h2, h3⟩ := spanN_lt a b
  constructor
  · exact ⟨_, h1, rfl⟩
  · unfold spT
    split
    · exact named_em
    · exact ⟨_, h2, by unfold lo; rw [if_neg (by omega)]⟩
def NameD (d : List Pt) : Prop := ∀ p ∈ d, NamedE p.f ∧ NamedE p.t
theorem key_in {a b : ByteArray} (h : okR a b = true) (ha : NamedE a) (hb : NamedE b) : ∃ k, k < 64 ∧ hasR a b (nmS k) = true := by
  obtain ⟨j, hj, rfl⟩ := ha
  obtain ⟨m, hm, rfl⟩ := hb
  refine ⟨j, hj, ?_⟩
  have h' := h
  unfold okR at h'
  simp only [Bool.and_eq_true, Bool.or_eq_true] at h'
  have h4 : ((nmS j).toList == ([] : List UInt8)) = false := beq_eq_false_iff_ne.2 (by rw [toL]; exact fun e => by cases e)
  have he : endLt (nmS j) (lo m) = true := by
    by_cases h0 : m = 0
    · have e : lo m = ⟨#[]⟩ := by unfold lo; exact if_pos h0
      unfold endLt
      rw [e, toL ⟨#[]⟩]
      rw [show ((nmS j).toList == (({ data := #[] } : ByteArray).data.toList)) = false from h4]; rfl
    · have e : lo m = nmS m := by unfold lo; exact if_neg h0
      have h5 : ((nmS m).toList == ([] : List UInt8)) = false := beq_eq_false_iff_ne.2 (by rw [toL]; exact fun e => by cases e)
      have h6 : j < m := by
        rw [e, h5] at h'
        by_cases hj0 : j = 0
        · omega
        · have e2 : lo j = nmS j := by unfold lo; exact if_neg hj0
          rw [e2, nm_lt hj hm] at h'
          simpa using h'.2.2
      unfold endLt
      rw [e, nm_lt hj hm, h4, beq_eq_false_iff_ne.2 (fun q => by
        have := nm_lt hj hm
        rw [q, bl_irr] at this
        have := of_decide_eq_false this.symm
        omega)]
      simp [h6]
  unfold hasR
  rw [h, nm_isName, lo_lt hj hj, he]
  simp
theorem tch_key {p : Pt} {x y : ByteArray} (hp : okR p.f p.t = true) (hr : okR x y = true) (n1 : NamedE p.f) (n2 : NamedE p.t) (n3 : NamedE x) (n4 : NamedE y) (ht : tch x y p = true) :
    ∃ k, k < 64 ∧ hasR p.f p.t (nmS k) = true ∧ hasR x y (nmS k) = true := by
  have h : okR (maxS p.f x) (minE p.t y) = true := by
    unfold tch at ht
    simp only [Bool.and_eq_true] at ht
    exact ht.2
  have m1 : NamedE (maxS p.f x) := by rcases maxS_or p.f x with e | e <;> rw [e] <;> assumption
  have m2 : NamedE (minE p.t y) := by rcases minE_or p.t y with e | e <;> rw [e] <;> assumption
  obtain ⟨k, hk, hk2⟩ := key_in h m1 m2
  obtain ⟨a, b⟩ := key_of_tch hp hr hk2 ht
  exact ⟨k, hk, a, b⟩
theorem epL_filt (x y : ByteArray) : ∀ (l : List Pt) (s : Nat) (m : Int), ((ix s l).filter (fun q => tch x y q.2)).foldl (fun m q => max m q.2.e) m = (l.filter (tch x y)).foldl (fun m p => max m p.e) m
  | [], _, _ => rfl
  | p :: l, s, m => by
    rw [ix, List.filter_cons, List.filter_cons]
    by_cases h : tch x y p = true
    · simp only [h, if_true, List.foldl_cons]
      exact epL_filt x y l (s + 1) _
    · simp only [h]
      exact epL_filt x y l (s + 1) m
theorem epL_mx (d : List Pt) (x y : ByteArray) : epL (tl d x y d.length) = mxE (d.filter (tch x y)) := by
  rw [tl_ix, List.take_length]
  exact epL_filt x y d 0 0

/-- What the account finds among the first n keys: the group of those of a range, and the epoch; none: it is not possible. -/
def accL (acc : Nat → Int × Int) (x y : ByteArray) (g : Int) : Nat → Option (Int × Int)
  | 0 => some (0, 0)
  | k + 1 => match accL acc x y g k with
    | none => none
    | some (o, e) => if hasR x y (nmS k) = true then (if (o ≠ 0 ∧ o ≠ (acc k).1) ∨ (acc k).1 = g then none else some ((acc k).1, max e ((acc k).2 + 1))) else some (o, e)
def accSet (acc : Nat → Int × Int) (x y : ByteArray) (g e : Int) (k : Nat) : Int × Int := if hasR x y (nmS k) = true then (g, e) else acc k
theorem accL_some {acc : Nat → Int × Int} {x y : ByteArray} {g : Int} (ha : ∀ k, k < 64 → 1 ≤ (acc k).1) : ∀ {n : Nat} {o e : Int}, n ≤ 64 → accL acc x y g n = some (o, e) →
    (∀ k, k < n → hasR x y (nmS k) = true → (acc k).1 = o ∧ (acc k).1 ≠ g ∧ (acc k).2 + 1 ≤ e) ∧ ((o = 0 ∧ e = 0) ∨ ∃ k, k < n ∧ hasR x y (nmS k) = true ∧ o = (acc k).1 ∧ ∃ k', k' < n ∧ hasR x y (nmS k') = true ∧ (e = (acc k').2 + 1 ∨ e = 0 )) 
  | 0, o, e, _, h => by
    simp only [accL, Option.some.injEq, Prod.mk.injEq] at h
    exact ⟨fun k hk => by omega, Or.inl ⟨h.1.symm, h.2.symm⟩⟩
  | n + 1, o, e, hn, h => by
    unfold accL at h
    split at h
    · cases h
    · rename_i o' e' hk
      have ih := accL_some ha (n := n) (by omega) hk
      split at h
      · rename_i hh
        split at h
        · cases h
        · rename_i hc
          simp only [Option.some.injEq, Prod.mk.injEq] at h
          obtain ⟨rfl, rfl⟩ := h
          have hc1 : o' = 0 ∨ o' = (acc n).1 := by
            rcases Classical.em (o' = 0) with h1 | h1
            · exact Or.inl h1
            · exact Or.inr (Classical.byContradiction fun h2 => hc (Or.inl ⟨h1, h2⟩))
          have hc2 : (acc n).1 ≠ g := fun h2 => hc (Or.inr h2)
          refine ⟨fun k hk' hkh => ?_, Or.inr ⟨n, by omega, hh, rfl, ?_⟩⟩
          · by_cases hkn : k = n
            · subst hkn
              exact ⟨rfl, hc2, by omega⟩
            · obtain ⟨i1, i2, i3⟩ := ih.1 k (by omega) hkh
              have := ha k (by omega)
              rcases hc1 with h1 | h1
              · omega
              · exact ⟨by omega, i2, by omega⟩
          · rcases ih.2 with ⟨_, h2⟩ | ⟨_, _, _, _, k', hk', hkh, h3⟩
            · by_cases hm : e' ≤ (acc n).2 + 1
              · exact ⟨n, by omega, hh, Or.inl (by omega)⟩
              · exact ⟨n, by omega, hh, Or.inr (by omega)⟩
            · by_cases hm : e' ≤ (acc n).2 + 1
              · exact ⟨n, by omega, hh, Or.inl (by omega)⟩
              · exact ⟨k', by omega, hkh, by omega⟩
      · rename_i hh
        simp only [Option.some.injEq, Prod.mk.injEq] at h
        obtain ⟨rfl, rfl⟩ := h
        refine ⟨fun k hk' hkh => ?_, ?_⟩
        · by_cases hkn : k = n
          · subst hkn; exact absurd hkh hh
          · exact ih.1 k (by omega) hkh
        · rcases ih.2 with h2 | ⟨k, h2, h3, h4, k', h5, h6, h7⟩
          · exact Or.inl h2
          · exact Or.inr ⟨k, by omega, h3, h4, k', by omega, h6, h7⟩
theorem accL_none {acc : Nat → Int × Int} {x y : ByteArray} {g : Int} : ∀ {n : Nat}, accL acc x y g n = none →
    (∃ k k', k < n ∧ k' < n ∧ hasR x y (nmS k) = true ∧ hasR x y (nmS k') = true ∧ (acc k).1 ≠ (acc k').1) ∨ (∃ k, k < n ∧ hasR x y (nmS k) = true ∧ (acc k).1 = g)
  | 0, h => by cases h
  | n + 1, h => by
    have up : ((∃ k k', k < n ∧ k' < n ∧ hasR x y (nmS k) = true ∧ hasR x y (nmS k') = true ∧ (acc k).1 ≠ (acc k').1) ∨ (∃ k, k < n ∧ hasR x y (nmS k) = true ∧ (acc k).1 = g)) →
      ((∃ k k', k < n + 1 ∧ k' < n + 1 ∧ hasR x y (nmS k) = true ∧ hasR x y (nmS k') = true ∧ (acc k).1 ≠ (acc k').1) ∨ (∃ k, k < n + 1 ∧ hasR x y (nmS k) = true ∧ (acc k).1 = g)) := by
      rintro (⟨k, k', h1, h2, h3⟩ | ⟨k, h1, h2⟩)
      · exact Or.inl ⟨k, k', by omega, by omega, h3⟩
      · exact Or.inr ⟨k, by omega, h2⟩
    unfold accL at h
    split at h
    · rename_i hk
      exact up (accL_none hk)
    · rename_i o e hk
      split at h
      · rename_i hh
        split at h
        · rename_i hc
          rcases hc with ⟨h1, h2⟩ | h1
          · -- the owner is that of an earlier key
            have : ∀ {m : Nat} {o e : Int}, accL acc x y g m = some (o, e) → o ≠ 0 → ∃ k, k < m ∧ hasR x y (nmS k) = true ∧ o = (acc k).1 := by
              intro m
              induction m with
              | zero => intro o e h h0; simp only [accL, Option.some.injEq, Prod.mk.injEq] at h; exact absurd h.1.symm h0
              | succ m ih =>
                intro o e h h0
                unfold accL at h
                split at h
                · cases h
                · rename_i o' e' hk'
                  split at h
                  · rename_i hh'
                    split at h
                    · cases h
                    · simp only [Option.some.injEq, Prod.mk.injEq] at h
                      exact ⟨m, by omega, hh', h.1.symm⟩
                  · simp only [Option.some.injEq, Prod.mk.injEq] at h
                    obtain ⟨k, i1, i2, i3⟩ := ih hk' (by rw [h.1]; exact h0)
                    exact ⟨k, by omega, i2, by rw [← h.1]; exact i3⟩
            obtain ⟨k, i1, i2, i3⟩ := this hk h1
            exact Or.inl ⟨k, n, by omega, by omega, i2, hh, by rw [← i3]; exact h2⟩
          · exact Or.inr ⟨n, by omega, hh, h1⟩
        · cases h
      · cases h
/-- The account says what the map says. -/
structure Acc (E : Int) (d : List Pt) (acc : Nat → Int × Int) : Prop where
  ch : ChT ⟨#[]⟩ d
  nm : NameD d
  bd : ∀ p ∈ d, 1 ≤ p.g ∧ p.g < 8 ∧ 1 ≤ p.e ∧ p.e ≤ E
  at' : ∀ k, k < 64 → ∃ q, findP d (nmS k) = some q ∧ acc k = (q.g, q.e)
theorem Acc.key {E : Int} {d : List Pt} {acc : Nat → Int × Int} (h : Acc E d acc) {k : Nat} (hk : k < 64) : ∃ q ∈ d, findP d (nmS k) = some q ∧ hasR q.f q.t (nmS k) = true ∧ acc k = (q.g, q.e) := by
  obtain ⟨q, h1, h2⟩ := h.at' k hk
  exact ⟨q, List.mem_of_find?_eq_some h1, h1, List.find?_some (p := fun p : Pt => hasR p.f p.t (nmS k)) h1, h2⟩
theorem Acc.one {E : Int} {d : List Pt} {acc : Nat → Int × Int} (h : Acc E d acc) : ∀ k, k < 64 → 1 ≤ (acc k).1 ∧ (acc k).1 < 8 ∧ 1 ≤ (acc k).2 ∧ (acc k).2 ≤ E := fun k hk => by
  obtain ⟨q, hq, _, _, h2⟩ := h.key hk
  rw [h2]; exact h.bd q hq
theorem Acc.touch {E : Int} {d : List Pt} {acc : Nat → Int × Int} (h : Acc E d acc) {x y : ByteArray} (hr : okR x y = true) (hx : NamedE x) (hy : NamedE y) {p : Pt} (hp : p ∈ d) (ht : tch x y p = true) : ∃ k, k < 64 ∧ hasR x y (nmS k) = true ∧ acc k = (p.g, p.e) := by
  have hok := (chT_ok h.ch).2 p hp
  obtain ⟨k, hk, h1, h2⟩ := tch_key hok hr (h.nm p hp).1 (h.nm p hp).2 hx hy ht
  obtain ⟨q, hq1, hq2⟩ := h.at' k hk
  rw [chT_find_eq h.ch (nm_isName k) hp h1] at hq1
  cases hq1
  exact ⟨k, hk, h2, hq2⟩
theorem Acc.hasK {E : Int} {d : List Pt} {acc : Nat → Int × Int} (h : Acc E d acc) {x y : ByteArray} (hr : okR x y = true) {k : Nat} (hk : k < 64) (hh : hasR x y (nmS k) = true) : ∃ p ∈ d, tch x y p = true ∧ acc k = (p.g, p.e) := by
  obtain ⟨q, hq, _, h1, h2⟩ := h.key hk
  exact ⟨q, hq, tch_of_key ((chT_ok h.ch).2 q hq) hr h1 hh, h2⟩
/-- A move by the account. -/
theorem acc_move {E : Int} {d : List Pt} {acc : Nat → Int × Int} (h : Acc E d acc) (hE : E < 2147483647) (hE0 : 0 ≤ E) {x y : ByteArray} (hr : okR x y = true) (hx : NamedE x) (hy : NamedE y) {g : Int} (hg : 1 ≤ g ∧ g < 8) (hlen : d.length ≤ 62) :
    (accL acc x y g 64 = none ∧ moveV d x y g = (0, 9, d)) ∨ (∃ o e, accL acc x y g 64 = some (o, e) ∧ moveV d x y g = (e, 0, newL d x y g) ∧ Acc (E + 1) (newL d x y g) (accSet acc x y g e) ∧ (newL d x y g).length ≤ d.length + 2 ∧ ownerV d x y = (o, true, 0) ∧ o ≠ g ∧ 1 ≤ e ∧ e ≤ E + 1) := by
  have ha : ∀ k, k < 64 → 1 ≤ (acc k).1 := fun k hk => (h.one k hk).1
  have hs := move_says g h.ch hr
  have mv9 : ∀ {o b}, ownerV d x y = (o, b, 0) → (b = false ∨ o = g) → moveV d x y g = (0, 9, d) := fun {o b} hv hb => by
    unfold moveV
    rw [hv, if_neg (by simp), if_neg (by simpa using hg), if_pos hb]
  rcases owner_chain h.ch hr (fun p hp => (h.bd p hp).1) with ⟨o, ho, hall, hv⟩ | ⟨⟨p, hp, q, hq, tp, tq, hpq⟩, hv⟩
  · cases hacc : accL acc x y g 64 with
    | none =>
      left
      refine ⟨rfl, mv9 hv (Or.inr ?_)⟩
      rcases accL_none hacc with ⟨k, k', hk, hk', h1, h2, h3⟩ | ⟨k, hk, h1, h2⟩
      · obtain ⟨p, hp, tp, ep⟩ := h.hasK hr hk h1
        obtain ⟨q, hq, tq, eq⟩ := h.hasK hr hk' h2
        rw [ep, eq, hall p hp tp, hall q hq tq] at h3
        exact absurd rfl h3
      · obtain ⟨p, hp, tp, ep⟩ := h.hasK hr hk h1
        rw [ep] at h2
        rw [← hall p hp tp]; exact h2
    | some oe =>
      obtain ⟨o', e⟩ := oe
      right
      obtain ⟨s1, s2⟩ := accL_some ha (Nat.le_refl 64) hacc
      obtain ⟨p0, hp0, tp0⟩ := hs.ne
      obtain ⟨k0, hk0, hh0, ha0⟩ := h.touch hr hx hy hp0 tp0
      obtain ⟨i1, i2, i3⟩ := s1 k0 hk0 hh0
      rw [ha0] at i1 i2 i3
      have ho' : o' = o := by rw [← i1]; exact hall p0 hp0 tp0
      subst ho'
      have hog : o' ≠ g := by rw [← i1]; exact i2
      have he : e = mxE (d.filter (tch x y)) + 1 := by
        have hub : mxE (d.filter (tch x y)) ≤ e - 1 := mxE_le _ _ _ (by have := (h.bd p0 hp0).2.2.1; simp only at i3; omega) (fun p hp => by
          obtain ⟨hp1, hp2⟩ := List.mem_filter.1 hp
          obtain ⟨k, hk, hh, hak⟩ := h.touch hr hx hy hp1 hp2
          have := (s1 k hk hh).2.2
          rw [hak] at this; simp only at this; omega)
        have hlb := mxE_ge (d.filter (tch x y)) 0
        rcases s2 with ⟨_, h2⟩ | ⟨k, _, _, _, k', hk', hh', h3⟩
        · have := (h.bd p0 hp0).2.2.1; simp only at i3; omega
        · obtain ⟨p, hp, tp, ep⟩ := h.hasK hr hk' hh'
          have := hlb.2 p (List.mem_filter.2 ⟨hp, tp⟩)
          rw [ep] at h3
          have h1 := (h.bd p hp).2.2.1
          have h0 := (h.bd p0 hp0).2.2.1
          simp only at i3
          unfold mxE at hub ⊢
          rcases h3 with h3 | h3
          · simp only at h3; omega
          · omega
      have hEe : e ≤ E + 1 := by
        rw [he]
        have := mxE_le (d.filter (tch x y)) 0 E hE0 (fun p hp => (h.bd p (List.mem_filter.1 hp).1).2.2.2)
        unfold mxE; omega
      have hmin : min (mxE (d.filter (tch x y)) + 1) 2147483648 = e := by omega
      have hmvE : mvE d x y = e := hmin
      have hl := hs.len
      have he1 : 1 ≤ e := by have := (h.bd p0 hp0).2.2.1; simp only at i3; omega
      refine ⟨o', e, rfl, ?_, ?_, hl, hv, hog, he1, hEe⟩
      · unfold moveV
        rw [hv, if_neg (by simp), if_neg (by simpa using hg), if_neg (by simp [hog]), if_neg (by omega), epL_mx, hmin]
      · refine ⟨hs.ch, fun p hp => ?_, fun p hp => ?_, fun k hk => ?_⟩
        · have inD : ∀ {s : ByteArray}, (s = x ∨ s = y ∨ s ∈ txsP d) → NamedE s := fun {s} hs' => by
            rcases hs' with e | e | e
            · rw [e]; exact hx
            · rw [e]; exact hy
            · obtain ⟨q, hq, hqe⟩ := List.mem_flatMap.1 e
              simp only [List.mem_cons, List.not_mem_nil, or_false] at hqe
              rcases hqe with e | e
              · rw [e]; exact (h.nm q hq).1
              · rw [e]; exact (h.nm q hq).2
          obtain ⟨t1, t2⟩ := hs.txt p hp
          exact ⟨inD t1, inD t2⟩
        · rcases hs.grp p hp with rfl | ⟨q, hq, h1, h2⟩
          · exact ⟨hg.1, hg.2, by show 1 ≤ mvE d x y; omega, by show mvE d x y ≤ _; omega⟩
          · have := h.bd q hq
            rw [← h1, ← h2]; omega
        · obtain ⟨q, hq, hq1, hq2⟩ := hs.at' (nmS k) (nm_isName k)
          refine ⟨q, hq, ?_⟩
          unfold accSet
          by_cases hh : hasR x y (nmS k) = true
          · rw [if_pos hh, hq1 hh, hmvE]
          · rw [if_neg hh]
            obtain ⟨p, hp, h1, h2⟩ := hq2 (by simpa using hh)
            obtain ⟨p', hp', h3⟩ := h.at' k hk
            rw [hp] at hp'; cases hp'
            rw [h3, h1, h2]
  · left
    refine ⟨?_, mv9 hv (Or.inl rfl)⟩
    cases hacc : accL acc x y g 64 with
    | none => rfl
    | some oe =>
      obtain ⟨o', e⟩ := oe
      obtain ⟨s1, _⟩ := accL_some ha (Nat.le_refl 64) hacc
      obtain ⟨k, hk, hh, hak⟩ := h.touch hr hx hy hp tp
      obtain ⟨k', hk', hh', hak'⟩ := h.touch hr hx hy hq tq
      have i1 := (s1 k hk hh).1
      have i2 := (s1 k' hk' hh').1
      rw [hak] at i1
      rw [hak'] at i2
      exact absurd (i1.trans i2.symm) hpq
end
section

theorem lo_size' (j : Nat) : (lo j).size ≤ 2 := lo_size j
theorem Acc.small {E : Int} {d : List Pt} {acc : Nat → Int × Int} (h : Acc E d acc) (hd : d.length ≤ 900) : SmallP d := ⟨hd, fun p hp => by
  obtain ⟨⟨i, _, h1⟩, ⟨j, _, h2⟩⟩ := h.nm p hp
  have := lo_size i; have := lo_size j
  rw [h1, h2]; omega⟩
/-- The beginning of a range: a name, the first one too. -/
def NamedF (s : ByteArray) : Prop := NamedE s ∨ ∃ j, j < 64 ∧ s = nmS j
theorem key_inF {a b : ByteArray} (h : okR a b = true) (ha : NamedF a) (hb : NamedE b) : ∃ k, k < 64 ∧ hasR a b (nmS k) = true := by
  rcases ha with ha | ⟨j, hj, rfl⟩
  · exact key_in h ha hb
  · refine ⟨j, hj, ?_⟩
    by_cases h0 : j = 0
    · -- the first name: the same as the range from the empty text
      have hb2 := hb
      obtain ⟨m, hm, rfl⟩ := hb
      have h' := h
      unfold okR at h'
      simp only [Bool.and_eq_true, Bool.or_eq_true] at h'
      have h4 : ((nmS j).toList == ([] : List UInt8)) = false := beq_eq_false_iff_ne.2 (by rw [toL]; exact fun e => by cases e)
      have he : endLt (nmS j) (lo m) = true := by
        by_cases h1 : m = 0
        · have e : lo m = ⟨#[]⟩ := by unfold lo; exact if_pos h1
          unfold endLt
          rw [e, toL ⟨#[]⟩]
          rw [show ((nmS j).toList == (({ data := #[] } : ByteArray).data.toList)) = false from h4]; rfl
        · have e : lo m = nmS m := by unfold lo; exact if_neg h1
          have h5 : ((nmS m).toList == ([] : List UInt8)) = false := beq_eq_false_iff_ne.2 (by rw [toL]; exact fun e => by cases e)
          have h6 : j < m := by omega
          unfold endLt
          rw [e, nm_lt hj hm, h4, beq_eq_false_iff_ne.2 (fun q => by
            have := nm_lt hj hm
            rw [q, bl_irr] at this
            have := of_decide_eq_false this.symm
            omega)]
          simp [h6]
      unfold hasR
      rw [h, nm_isName, bl_irr, he]
      simp
    · have e : lo j = nmS j := by unfold lo; exact if_neg h0
      obtain ⟨k, hk, hh⟩ := key_in h ⟨j, hj, e.symm⟩ hb
      -- any key shows that the range is not empty; the name itself is in it
      unfold hasR at hh ⊢
      simp only [Bool.and_eq_true] at hh
      obtain ⟨m, hm, rfl⟩ := hb
      have h' := h
      unfold okR at h'
      simp only [Bool.and_eq_true, Bool.or_eq_true] at h'
      have h4 : ((nmS j).toList == ([] : List UInt8)) = false := beq_eq_false_iff_ne.2 (by rw [toL]; exact fun e => by cases e)
      have he : endLt (nmS j) (lo m) = true := by
        by_cases h1 : m = 0
        · have e : lo m = ⟨#[]⟩ := by unfold lo; exact if_pos h1
          unfold endLt
          rw [e, toL ⟨#[]⟩]
          rw [show ((nmS j).toList == (({ data := #[] } : ByteArray).data.toList)) = false from h4]; rfl
        · have e : lo m = nmS m := by unfold lo; exact if_neg h1
          have h5 : ((nmS m).toList == ([] : List UInt8)) = false := beq_eq_false_iff_ne.2 (by rw [toL]; exact fun e => by cases e)
          have h6 : j < m := by
            rw [e, h5, nm_lt hj hm] at h'
            simpa using h'.2.2
          unfold endLt
          rw [e, nm_lt hj hm, h4, beq_eq_false_iff_ne.2 (fun q => by
            have := nm_lt hj hm
            rw [q, bl_irr] at this
            have := of_decide_eq_false this.symm
            omega)]
          simp [h6]
      rw [h, nm_isName, bl_irr, he]
      simp
theorem tch_keyF {p : Pt} {x y : ByteArray} (hp : okR p.f p.t = true) (hr : okR x y = true) (n1 : NamedE p.f) (n2 : NamedE p.t) (n3 : NamedF x) (n4 : NamedE y) (ht : tch x y p = true) :
    ∃ k, k < 64 ∧ hasR p.f p.t (nmS k) = true ∧ hasR x y (nmS k) = true := by
  have h : okR (maxS p.f x) (minE p.t y) = true := by
    unfold tch at ht
    simp only [Bool.and_eq_true] at ht
    exact ht.2
  have m1 : NamedF (maxS p.f x) := by
    rcases maxS_or p.f x with e | e <;> rw [e]
    · exact Or.inl n1
    · exact n3
  have m2 : NamedE (minE p.t y) := by rcases minE_or p.t y with e | e <;> rw [e] <;> assumption
  obtain ⟨k, hk, hk2⟩ := key_inF h m1 m2
  obtain ⟨a, b⟩ := key_of_tch hp hr hk2 ht
  exact ⟨k, hk, a, b⟩
theorem Acc.touchF {E : Int} {d : List Pt} {acc : Nat → Int × Int} (h : Acc E d acc) {x y : ByteArray} (hr : okR x y = true) (hx : NamedF x) (hy : NamedE y) {p : Pt} (hp : p ∈ d) (ht : tch x y p = true) : ∃ k, k < 64 ∧ hasR x y (nmS k) = true ∧ acc k = (p.g, p.e) := by
  have hok := (chT_ok h.ch).2 p hp
  obtain ⟨k, hk, h1, h2⟩ := tch_keyF hok hr (h.nm p hp).1 (h.nm p hp).2 hx hy ht
  obtain ⟨q, hq1, hq2⟩ := h.at' k hk
  rw [chT_find_eq h.ch (nm_isName k) hp h1] at hq1
  cases hq1
  exact ⟨k, hk, h2, hq2⟩
/-- A range's keys are all of one group. -/
def OneG (acc : Nat → Int × Int) (x y : ByteArray) (o : Int) : Prop := ∀ k, k < 64 → hasR x y (nmS k) = true → (acc k).1 = o
theorem owner_keys {E : Int} {d : List Pt} {acc : Nat → Int × Int} (h : Acc E d acc) {x y : ByteArray} (hr : okR x y = true) (hx : NamedF x) (hy : NamedE y) :
    (∃ o, 1 ≤ o ∧ ownerV d x y = (o, true, 0) ∧ OneG acc x y o) ∨ (ownerV d x y = (0, false, 0) ∧ ∃ k k', k < 64 ∧ k' < 64 ∧ hasR x y (nmS k) = true ∧ hasR x y (nmS k') = true ∧ (acc k).1 ≠ (acc k').1) := by
  rcases owner_chain h.ch hr (fun p hp => (h.bd p hp).1) with ⟨o, ho, hall, hv⟩ | ⟨⟨p, hp, q, hq, tp, tq, hpq⟩, hv⟩
  · left
    refine ⟨o, ho, hv, fun k hk hh => ?_⟩
    obtain ⟨p, hp, tp, ep⟩ := h.hasK hr hk hh
    rw [ep]; exact hall p hp tp
  · right
    obtain ⟨k, hk, hh, hak⟩ := h.touchF hr hx hy hp tp
    obtain ⟨k', hk', hh', hak'⟩ := h.touchF hr hx hy hq tq
    exact ⟨hv, k, k', hk, hk', hh, hh', by rw [hak, hak']; exact hpq⟩
/-- What the statement's own loop finds. -/
def wantL (acc : Nat → Int × Int) (x y : ByteArray) : Nat → Int × Bool
  | 0 => (0, true)
  | k + 1 => if hasR x y (nmS k) = true then ((acc k).1, (wantL acc x y k).2 && (decide ((wantL acc x y k).1 = 0) || decide ((wantL acc x y k).1 = (acc k).1))) else wantL acc x y k
theorem wantL_says {acc : Nat → Int × Int} {x y : ByteArray} (ha : ∀ k, k < 64 → 1 ≤ (acc k).1) : ∀ {n : Nat}, n ≤ 64 →
    ((wantL acc x y n).1 = 0 ∧ (wantL acc x y n).2 = true ∧ (∀ k, k < n → hasR x y (nmS k) = false)) ∨
    ((∃ k, k < n ∧ hasR x y (nmS k) = true ∧ (wantL acc x y n).1 = (acc k).1) ∧ (((wantL acc x y n).2 = true ∧ ∀ k, k < n → hasR x y (nmS k) = true → (acc k).1 = (wantL acc x y n).1) ∨ ((wantL acc x y n).2 = false ∧ ∃ k k', k < n ∧ k' < n ∧ hasR x y (nmS k) = true ∧ hasR x y (nmS k') = true ∧ (acc k).1 ≠ (acc k').1)))
  | 0, _ => Or.inl ⟨rfl, rfl, fun k hk => by omega⟩
  | n + 1, hn => by
    have ih := wantL_says ha (x := x) (y := y) (n := n) (by omega)
    unfold wantL
    cases hh : hasR x y (nmS n) with
    | false =>
      simp only [Bool.false_eq_true, if_false]
      rcases ih with ⟨h1, h2, h3⟩ | ⟨⟨k, h1, h2, h3⟩, h4⟩
      · exact Or.inl ⟨h1, h2, fun k hk => by
          by_cases e : k = n
          · subst e; exact hh
          · exact h3 k (by omega)⟩
      · refine Or.inr ⟨⟨k, by omega, h2, h3⟩, ?_⟩
        rcases h4 with ⟨h5, h6⟩ | ⟨h5, i, j, h6, h7, h8⟩
        · exact Or.inl ⟨h5, fun k hk hk2 => by
            by_cases e : k = n
            · subst e; rw [hh] at hk2; cases hk2
            · exact h6 k (by omega) hk2⟩
        · exact Or.inr ⟨h5, i, j, by omega, by omega, h8⟩
    | true =>
      simp only [if_true]
      refine Or.inr ⟨⟨n, by omega, hh, rfl⟩, ?_⟩
      rcases ih with ⟨h1, h2, h3⟩ | ⟨⟨k, h1, h2, h3⟩, h4⟩
      · left
        refine ⟨by simp [h1, h2], fun k hk hk2 => ?_⟩
        by_cases e : k = n
        · subst e; rfl
        · rw [h3 k (by omega)] at hk2; cases hk2
      · rcases h4 with ⟨h5, h6⟩ | ⟨h5, i, j, h6, h7, h8, h9, h10⟩
        · by_cases e : (acc k).1 = (acc n).1
          · left
            refine ⟨by simp [h5, h3, e], fun m hm hm2 => ?_⟩
            by_cases e2 : m = n
            · subst e2; rfl
            · rw [h6 m (by omega) hm2, h3, e]
          · right
            have := ha k (by omega)
            exact ⟨by rw [h5, h3]; simp; exact ⟨by omega, e⟩, k, n, by omega, by omega, h2, hh, e⟩
        · exact Or.inr ⟨by simp [h5], i, j, by omega, by omega, h8, h9, h10⟩
/-- The owner is what the loop finds. -/
theorem owner_want {E : Int} {d : List Pt} {acc : Nat → Int × Int} (h : Acc E d acc) {x y : ByteArray} (hr : okR x y = true) (hx : NamedF x) (hy : NamedE y) :
    (∃ o, 1 ≤ o ∧ ownerV d x y = (o, true, 0) ∧ wantL acc x y 64 = (o, true)) ∨ (ownerV d x y = (0, false, 0) ∧ (wantL acc x y 64).2 = false) := by
  obtain ⟨k0, hk0, hh0⟩ := key_inF hr hx hy
  have hw := wantL_says (acc := acc) (x := x) (y := y) (fun k hk => (h.one k hk).1) (Nat.le_refl 64)
  rcases owner_keys h hr hx hy with ⟨o, ho, hv, hall⟩ | ⟨hv, i, j, hi, hj, h1, h2, h3⟩
  · left
    refine ⟨o, ho, hv, ?_⟩
    rcases hw with ⟨_, _, h3⟩ | ⟨⟨k, hk, hh, hw1⟩, h4⟩
    · rw [h3 k0 hk0] at hh0; cases hh0
    · have e1 : (wantL acc x y 64).1 = o := by rw [hw1]; exact hall k hk hh
      rcases h4 with ⟨h5, _⟩ | ⟨_, a, b, ha, hb, h5, h6, h7⟩
      · exact Prod.ext e1 h5
      · rw [hall a ha h5, hall b hb h6] at h7; exact absurd rfl h7
  · right
    refine ⟨hv, ?_⟩
    rcases hw with ⟨_, _, h4⟩ | ⟨_, ⟨_, h4⟩ | ⟨h4, _⟩⟩
    · rw [h4 i hi] at h1; cases h1
    · rw [h4 i hi h1, h4 j hj h2] at h3; exact absurd rfl h3
    · exact h4
/-- The owner of a part is its group. -/
theorem owner_part {E : Int} {d : List Pt} {acc : Nat → Int × Int} (h : Acc E d acc) {p : Pt} (hp : p ∈ d) : ownerV d p.f p.t = (p.g, true, 0) := by
  have hok := (chT_ok h.ch).2 p hp
  obtain ⟨n1, n2⟩ := h.nm p hp
  have hk : ∀ k, k < 64 → hasR p.f p.t (nmS k) = true → (acc k).1 = p.g := fun k hk hh => by
    obtain ⟨q, hq1, hq2⟩ := h.at' k hk
    rw [chT_find_eq h.ch (nm_isName k) hp hh] at hq1
    cases hq1
    rw [hq2]
  obtain ⟨k0, hk0, hh0⟩ := key_in hok n1 n2
  rcases owner_keys h hok (Or.inl n1) n2 with ⟨o, ho, hv, hall⟩ | ⟨hv, i, j, hi, hj, h1, h2, h3⟩
  · rw [hv, ← hall k0 hk0 hh0, hk k0 hk0 hh0]
  · rw [hk i hi h1, hk j hj h2] at h3; exact absurd rfl h3
/-- A range and a name in it: the keys ahead of the name, and from it on. -/
theorem has_split {x y m k : ByteArray} (hr : okR x y = true) (hm : hasR x y m = true) (hk : isName k.data.toList = true) (hxm : okR x m = true) (hmy : okR m y = true) :
    hasR x m k = (hasR x y k && Op.bytesLess k.toList m.toList) ∧ hasR m y k = (hasR x y k && !Op.bytesLess k.toList m.toList) := by
  obtain ⟨f, R⟩ := ranks [x, y, m, k, ⟨#[]⟩]
  have hx : x ∈ [x, y, m, k, ⟨#[]⟩] := by simp
  have hy : y ∈ [x, y, m, k, ⟨#[]⟩] := by simp
  have hmm : m ∈ [x, y, m, k, ⟨#[]⟩] := by simp
  have hkk : k ∈ [x, y, m, k, ⟨#[]⟩] := by simp
  have hkn := name_pos R hkk hk
  have hmn : isName m.data.toList = true := by
    unfold hasR at hm
    simp only [Bool.and_eq_true] at hm
    exact hm.2.1
  have hmp := name_pos R hmm hmn
  rw [hasR_num R hx hy hmm, hr, hmn] at hm
  simp only [Bool.true_and, decide_eq_true_eq] at hm
  rw [hasR_num R hx hmm hkk, hasR_num R hmm hy hkk, hasR_num R hx hy hkk, R.lt k hkk m hmm, hr, hxm, hmy, hk]
  simp only [Bool.true_and]
  constructor
  · rw [Bool.eq_iff_iff]
    simp only [Bool.and_eq_true, decide_eq_true_eq]
    omega
  · rw [Bool.eq_iff_iff]
    simp only [Bool.and_eq_true, decide_eq_true_eq, Bool.not_eq_true', decide_eq_false_iff_not]
    omega
theorem cut_ok {x y m : ByteArray} (hr : okR x y = true) (hm : hasR x y m = true) (hne : m ≠ x) : okR x m = true ∧ okR m y = true := by
  obtain ⟨f, R⟩ := ranks [x, y, m, ⟨#[]⟩]
  have hx : x ∈ [x, y, m, ⟨#[]⟩] := by simp
  have hy : y ∈ [x, y, m, ⟨#[]⟩] := by simp
  have hmm : m ∈ [x, y, m, ⟨#[]⟩] := by simp
  have hmn : isName m.data.toList = true := by
    unfold hasR at hm
    simp only [Bool.and_eq_true] at hm
    exact hm.2.1
  have hmp := name_pos R hmm hmn
  have o1 := okR_left hr
  have o2 := okR_right hr
  have o3 := name_okS hmn
  have hne' : f m ≠ f x := fun e => hne (rank_eq R hmm hx e)
  rw [hasR_num R hx hy hmm, hr, hmn] at hm
  simp only [Bool.true_and, decide_eq_true_eq] at hm
  rw [okR_num R hx hmm, okR_num R hmm hy, o1, o2, o3]
  simp only [Bool.true_and, decide_eq_true_eq]
  omega
/-- The part of the first key has the keys ahead of it too. -/
theorem owner_first {E : Int} {d : List Pt} {acc : Nat → Int × Int} (h : Acc E d acc) (hr : okR ⟨#[]⟩ (nmS 0) = true) : ∃ o, 1 ≤ o ∧ ownerV d ⟨#[]⟩ (nmS 0) = (o, true, 0) ∧ (acc 0).1 = o := by
  obtain ⟨q0, hq0, hf0, hh0, ha0⟩ := h.key (k := 0) (by decide)
  have all : ∀ p ∈ d, tch ⟨#[]⟩ (nmS 0) p = true → hasR p.f p.t (nmS 0) = true := fun p hp ht => by
    have hok := (chT_ok h.ch).2 p hp
    obtain ⟨f, T, R, hT⟩ := nums [p.f, p.t, ⟨#[]⟩, nmS 0, nmS 1]
    obtain ⟨⟨j, hj, e1⟩, ⟨m, hm, e2⟩⟩ := h.nm p hp
    have i1 : p.f ∈ [p.f, p.t, ⟨#[]⟩, nmS 0, nmS 1] := by simp
    have i2 : p.t ∈ [p.f, p.t, ⟨#[]⟩, nmS 0, nmS 1] := by simp
    have i3 : (⟨#[]⟩ : ByteArray) ∈ [p.f, p.t, ⟨#[]⟩, nmS 0, nmS 1] := by simp
    have i4 : nmS 0 ∈ [p.f, p.t, ⟨#[]⟩, nmS 0, nmS 1] := by simp
    rw [tch_num R hT i1 i2 i3 i4 hok hr] at ht
    unfold ntch nOf at ht
    simp only [decide_eq_true_eq] at ht
    have z := (rank_zero R i3).2 rfl
    have n0 := name_pos R i4 (nm_isName 0)
    have en0 : en f T (nmS 0) = f (nmS 0) := by unfold en; rw [if_neg n0]
    have hlt : f p.f < f (nmS 0) := by omega
    have hb := R.lt p.f i1 (nmS 0) i4
    rw [decide_eq_true hlt, e1] at hb
    have hj0 : j = 0 := Classical.byContradiction fun h0 => by
      have e : lo j = nmS j := by unfold lo; exact if_neg h0
      rw [e, nm_lt hj (by decide)] at hb
      simp at hb
    have hpf : p.f = ⟨#[]⟩ := by rw [e1, hj0]; rfl
    rw [hasR_en R hT i1 i2 i4 hok (nm_isName 0)]
    refine decide_eq_true ⟨?_, ?_⟩
    · show f p.f ≤ f (nmS 0); omega
    · show f (nmS 0) < en f T p.t
      unfold en
      split
      · exact hT _ i4
      · rename_i hz
        have hm0 : m ≠ 0 := fun e => hz (by rw [e2, e]; exact z)
        have e : lo m = nmS m := by unfold lo; exact if_neg hm0
        have := R.lt (nmS 0) i4 p.t i2
        rw [e2, e, nm_lt (by decide) hm] at this
        have h9 : decide (0 < m) = true := decide_eq_true (by omega)
        rw [h9] at this
        have := of_decide_eq_true this.symm
        rw [e2, e]; exact this
  have grp : ∀ p ∈ d, tch ⟨#[]⟩ (nmS 0) p = true → p.g = (acc 0).1 := fun p hp ht => by
    have := chT_find_eq h.ch (nm_isName 0) hp (all p hp ht)
    rw [hf0] at this
    cases this
    rw [ha0]
  rcases owner_chain h.ch hr (fun p hp => (h.bd p hp).1) with ⟨o, ho, hall, hv⟩ | ⟨⟨p, hp, q, hq, tp, tq, hpq⟩, hv⟩
  · obtain ⟨p0, hp0, tp0⟩ := (move_says 1 h.ch hr).ne
    exact ⟨o, ho, hv, by rw [← grp p0 hp0 tp0, hall p0 hp0 tp0]⟩
  · rw [grp p hp tp, grp q hq tq] at hpq; exact absurd rfl hpq
/-- The owners of both halves of a range. -/
theorem owner_halves {E : Int} {d : List Pt} {acc : Nat → Int × Int} (h : Acc E d acc) {x y : ByteArray} (hr : okR x y = true) (hx : NamedE x) (hy : NamedE y) {c : Nat} (hc : c < 64) (hm : hasR x y (nmS c) = true) (hne : nmS c ≠ x) :
    ∃ o1 b1 o2 b2, ownerV d x (nmS c) = (o1, b1, 0) ∧ ownerV d (nmS c) y = (o2, b2, 0) ∧ (ownerV d x y).2.1 = (b1 && (b2 && decide (o1 = o2))) := by
  obtain ⟨k1, k2⟩ := cut_ok hr hm hne
  have sp := fun k (hk : k < 64) => has_split hr hm (nm_isName k) k1 k2
  have lowK : (∃ o, 1 ≤ o ∧ ownerV d x (nmS c) = (o, true, 0) ∧ OneG acc x (nmS c) o ∧ ∃ k, k < 64 ∧ hasR x y (nmS k) = true ∧ (acc k).1 = o) ∨ (ownerV d x (nmS c) = (0, false, 0) ∧ ∃ i j, i < 64 ∧ j < 64 ∧ hasR x y (nmS i) = true ∧ hasR x y (nmS j) = true ∧ (acc i).1 ≠ (acc j).1) := by
    by_cases hc0 : c = 0
    · subst hc0
      have hx0 : x = ⟨#[]⟩ := by
        obtain ⟨j, hj, e⟩ := hx
        have hb : Op.bytesLess (nmS 0).toList (lo j).toList = false := by
          unfold hasR at hm
          simp only [Bool.and_eq_true, Bool.not_eq_true'] at hm
          rw [← e]; exact hm.2.2.1
        rw [lo_lt (by decide) hj] at hb
        have := of_decide_eq_false hb
        have : j = 0 := by omega
        rw [e, this]; rfl
      subst hx0
      obtain ⟨o, ho, hv, ha⟩ := owner_first h k1
      refine Or.inl ⟨o, ho, hv, fun k hk hh => ?_, 0, by decide, hm, ha⟩
      rw [(sp k hk).1, nm_lt hk (by decide)] at hh
      simp at hh
    · have hn : NamedE (nmS c) := ⟨c, hc, by unfold lo; rw [if_neg hc0]⟩
      rcases owner_keys h k1 (Or.inl hx) hn with ⟨o, ho, hv, hall⟩ | ⟨hv, i, j, hi, hj, h1, h2, h3⟩
      · obtain ⟨k, hk, hh⟩ := key_in k1 hx hn
        refine Or.inl ⟨o, ho, hv, hall, k, hk, ?_, hall k hk hh⟩
        rw [(sp k hk).1] at hh
        simp only [Bool.and_eq_true] at hh; exact hh.1
      · refine Or.inr ⟨hv, i, j, hi, hj, ?_, ?_, h3⟩
        · rw [(sp i hi).1] at h1; simp only [Bool.and_eq_true] at h1; exact h1.1
        · rw [(sp j hj).1] at h2; simp only [Bool.and_eq_true] at h2; exact h2.1
  have highK := owner_keys h k2 (Or.inr ⟨c, hc, rfl⟩) hy
  have whole := owner_keys h hr (Or.inl hx) hy
  have hmid : ∀ k, k < 64 → hasR x y (nmS k) = true → hasR x (nmS c) (nmS k) = true ∨ hasR (nmS c) y (nmS k) = true := fun k hk hh => by
    rw [(sp k hk).1, (sp k hk).2, hh]
    cases Op.bytesLess (nmS k).toList (nmS c).toList <;> simp
  have up2 : ∀ k, k < 64 → hasR (nmS c) y (nmS k) = true → hasR x y (nmS k) = true := fun k hk hh => by
    rw [(sp k hk).2] at hh; simp only [Bool.and_eq_true] at hh; exact hh.1
  have hcc : hasR (nmS c) y (nmS c) = true := by rw [(sp c hc).2, hm, bl_irr]; rfl
  rcases lowK with ⟨o1, p1, v1, a1, k0, hk0, hh0, e0⟩ | ⟨v1, i, j, hi, hj, h1, h2, h3⟩
  · rcases highK with ⟨o2, p2, v2, a2⟩ | ⟨v2, i, j, hi, hj, h1, h2, h3⟩
    · refine ⟨o1, true, o2, true, v1, v2, ?_⟩
      by_cases e : o1 = o2
      · subst e
        rcases whole with ⟨o, ho, hv, _⟩ | ⟨hv, i, j, hi, hj, h1, h2, h3⟩
        · rw [hv]; simp
        · have g1 : (acc i).1 = o1 := by
            rcases hmid i hi h1 with q | q
            · exact a1 i hi q
            · exact a2 i hi q
          have g2 : (acc j).1 = o1 := by
            rcases hmid j hj h2 with q | q
            · exact a1 j hj q
            · exact a2 j hj q
          rw [g1, g2] at h3; exact absurd rfl h3
      · rcases whole with ⟨o, ho, hv, hall⟩ | ⟨hv, _⟩
        · have q1 := hall k0 hk0 hh0
          have q2 := hall c hc (up2 c hc hcc)
          have q3 := a2 c hc hcc
          exact absurd (by rw [← e0, q1, ← q2, q3]) e
        · rw [hv]; simp [e]
    · refine ⟨o1, true, 0, false, v1, v2, ?_⟩
      rcases whole with ⟨o, ho, hv, hall⟩ | ⟨hv, _⟩
      · have q1 := hall i hi (up2 i hi h1)
        have q2 := hall j hj (up2 j hj h2)
        rw [q1, q2] at h3; exact absurd rfl h3
      · rw [hv]; simp
  · rcases whole with ⟨o, ho, hv, hall⟩ | ⟨hv, _⟩
    · rw [hall i hi h1, hall j hj h2] at h3; exact absurd rfl h3
    · rcases highK with ⟨o2, p2, v2, a2⟩ | ⟨v2, _⟩
      · exact ⟨0, false, o2, true, v1, v2, by rw [hv]; simp⟩
      · exact ⟨0, false, 0, false, v1, v2, by rw [hv]; simp⟩
end
section

/-- Behind a move its range belongs to the group. -/
theorem owner_set {E : Int} {d : List Pt} {acc : Nat → Int × Int} {x y : ByteArray} {g e : Int} (h : Acc E d (accSet acc x y g e)) (hr : okR x y = true) (hx : NamedE x) (hy : NamedE y) : ownerV d x y = (g, true, 0) := by
  have hs : ∀ k, hasR x y (nmS k) = true → (accSet acc x y g e k).1 = g := fun k hk => by unfold accSet; rw [if_pos hk]
  rcases owner_keys h hr (Or.inl hx) hy with ⟨o, _, hv, ho⟩ | ⟨_, k, k', hk, hk', h1, h2, h3⟩
  · obtain ⟨k, hk, hh⟩ := key_in hr hx hy
    have := ho k hk hh
    rw [hs k hh] at this
    rw [hv, this]
  · exact absurd (by rw [hs k h1, hs k' h2]) h3

/-- What Owner says decides whether a move is possible; and all that the law wants of a move that is. -/
structure Mvd (E : Int) (d : List Pt) (acc : Nat → Int × Int) (x y : ByteArray) (g o ep : Int) : Prop where
  v1 : moveV d x y g = (ep, 0, newL d x y g)
  a1 : Acc (E + 1) (newL d x y g) (accSet acc x y g ep)
  l1 : (newL d x y g).length ≤ d.length + 2
  w1 : ownerV (newL d x y g) x y = (g, true, 0)
  k1 : ∀ k, k < 64 → hasR x y (nmS k) = true → (acc k).1 = o ∧ (acc k).2 < ep
  v2 : moveV (newL d x y g) x y o = (ep + 1, 0, newL (newL d x y g) x y o)
  a2 : Acc (E + 1 + 1) (newL (newL d x y g) x y o) (accSet (accSet acc x y g ep) x y o (ep + 1))
  l2 : (newL (newL d x y g) x y o).length ≤ d.length + 4
  w2 : ownerV (newL (newL d x y g) x y o) x y = (o, true, 0)
  o1 : 1 ≤ o ∧ o < 8
  e1 : 1 ≤ ep ∧ ep ≤ E + 1

theorem moved {E : Int} {d : List Pt} {acc : Nat → Int × Int} (h : Acc E d acc) (hE : E < 2147483640) (hE0 : 0 ≤ E) {x y : ByteArray} (hr : okR x y = true) (hx : NamedE x) (hy : NamedE y) {g : Int} (hg : 1 ≤ g ∧ g < 8) (hlen : d.length ≤ 60) :
    (∃ o b, ownerV d x y = (o, b, 0) ∧ (b = false ∨ o = g) ∧ moveV d x y g = (0, 9, d)) ∨ (∃ o ep, ownerV d x y = (o, true, 0) ∧ o ≠ g ∧ Mvd E d acc x y g o ep) := by
  rcases acc_move h (by omega) hE0 hr hx hy hg (by omega) with ⟨hn, hv⟩ | ⟨o, e, hs, hv, hA, hl, ho, hne, he⟩
  · left
    rcases owner_keys h hr (Or.inl hx) hy with ⟨o, _, ho, hall⟩ | ⟨ho, _⟩
    · refine ⟨o, true, ho, Or.inr ?_, hv⟩
      rcases accL_none hn with ⟨k, k', hk, hk', h1, h2, h3⟩ | ⟨k, hk, h1, h2⟩
      · exact absurd ((hall k hk h1).trans (hall k' hk' h2).symm) h3
      · rw [← hall k hk h1]; exact h2
    · exact ⟨0, false, ho, Or.inl rfl, hv⟩
  · right
    obtain ⟨s1, _⟩ := accL_some (fun k hk => (h.one k hk).1) (Nat.le_refl 64) hs
    obtain ⟨k0, hk0, hh0⟩ := key_in hr hx hy
    have hall : ∀ k, k < 64 → hasR x y (nmS k) = true → (acc k).1 = o := fun k hk hh => by
      rcases owner_keys h hr (Or.inl hx) hy with ⟨o', _, ho', hal⟩ | ⟨ho', _⟩
      · rw [ho] at ho'
        cases ho'
        exact hal k hk hh
      · rw [ho] at ho'; cases ho'
    have ho1 : 1 ≤ o ∧ o < 8 := by
      have := h.one k0 hk0
      rw [hall k0 hk0 hh0] at this
      exact ⟨this.1, this.2.1⟩
    have acc' : ∀ k, hasR x y (nmS k) = true → accSet acc x y g e k = (g, e) := fun k hk => by unfold accSet; rw [if_pos hk]
    rcases acc_move hA (by omega) (by omega) hr hx hy ho1 (by omega) with ⟨hn, _⟩ | ⟨o2, e2, hs2, hv2, hA2, hl2, ho2, hne2, he2⟩
    · rcases accL_none hn with ⟨k, k', hk, hk', h1, h2, h3⟩ | ⟨k, hk, h1, h2⟩
      · exact absurd (by rw [acc' k h1, acc' k' h2]) h3
      · rw [acc' k h1] at h2
        exact absurd h2.symm hne
    · have he2 : e2 = e + 1 := by
        obtain ⟨t1, t2⟩ := accL_some (fun k hk => (hA.one k hk).1) (Nat.le_refl 64) hs2
        have h1 := (t1 k0 hk0 hh0).2.2
        rw [acc' k0 hh0] at h1
        rcases t2 with ⟨_, h2⟩ | ⟨_, _, _, _, k', hk', hh', h3⟩
        · simp only at h1; omega
        · rw [acc' k' hh'] at h3
          simp only at h1 h3
          omega
      subst he2
      exact ⟨o, e, ho, hne, ⟨hv, hA, hl, owner_set hA hr hx hy, fun k hk hh => ⟨hall k hk hh, by have := (s1 k hk hh).2.2; omega⟩, hv2, hA2, by omega, owner_set hA2 hr hx hy, ho1, he⟩⟩
end
section

theorem maxS_comm (x y : ByteArray) : maxS x y = maxS y x := by
  obtain ⟨f, R⟩ := ranks [x, y]
  have hx : x ∈ [x, y] := by simp
  have hy : y ∈ [x, y] := by simp
  exact rank_eq R (maxS_mem hx hy) (maxS_mem hy hx) (by rw [maxS_en R hx hy, maxS_en R hy hx]; omega)
theorem tch_sym (x y : ByteArray) (p : Pt) : ((okR x y && okR p.f p.t) && okR (maxS x p.f) (minE y p.t)) = tch x y p := by
  unfold tch
  rw [maxS_comm x p.f, minE_comm y p.t, Bool.and_comm (okR x y)]
/-- The parts that stay, by the reference. -/
def refL (x y : ByteArray) (d : List Pt) : List Pt := d.flatMap fun p => if tch x y p = true then pcs x y p else [p]
/-- The new part stands ahead of the first one that begins at its end, or behind all. -/
def putL (y : ByteArray) (q : Pt) : List Pt → List Pt
  | [] => [q]
  | p :: l => if y ≠ ⟨#[]⟩ ∧ p.f = y then q :: p :: l else p :: putL y q l
def refE (x y : ByteArray) (d : List Pt) : Int := (d.filter (tch x y)).foldl (fun e p => min (max e (p.e + 1)) 2147483648) 0
theorem putL_skip {y : ByteArray} {q : Pt} : ∀ {l m : List Pt}, (∀ p ∈ l, ¬ (y ≠ ⟨#[]⟩ ∧ p.f = y)) → putL y q (l ++ m) = l ++ putL y q m
  | [], _, _ => rfl
  | p :: l, m, h => by
    rw [List.cons_append, putL, if_neg (h p (by simp)), putL_skip (fun r hr => h r (List.mem_cons_of_mem _ hr))]; rfl
theorem refE_from : ∀ (l : List Pt) (m : Int), 0 ≤ m → m ≤ 2147483647 → (∀ p ∈ l, 1 ≤ p.e ∧ p.e ≤ 2147483648) → ∀ e : Int, (e = m + 1 ∨ (e = 0 ∧ m = 0)) → l ≠ [] →
    l.foldl (fun e p => min (max e (p.e + 1)) 2147483648) e = min (l.foldl (fun m p => max m p.e) m + 1) 2147483648
  | [], _, _, _, _, _, _, h => absurd rfl h
  | [p], m, h0, h1, hp, e, he, _ => by
    have := hp p (by simp)
    simp only [List.foldl_cons, List.foldl_nil]
    omega
  | p :: q :: l, m, h0, h1, hp, e, he, _ => by
    have hp0 := hp p (by simp)
    show (q :: l).foldl (fun e p => min (max e (p.e + 1)) 2147483648) (min (max e (p.e + 1)) 2147483648) = min ((q :: l).foldl (fun m p => max m p.e) (max m p.e) + 1) 2147483648
    by_cases hb : max m p.e ≤ 2147483647
    · exact refE_from (q :: l) (max m p.e) (by omega) hb (fun r hr => hp r (List.mem_cons_of_mem _ hr)) _ (Or.inl (by omega)) (by simp)
    · have e1 : min (max e (p.e + 1)) 2147483648 = 2147483648 := by omega
      have e2 : max m p.e = 2147483648 := by omega
      rw [e1, e2]
      have top : ∀ l : List Pt, (∀ p ∈ l, p.e ≤ 2147483648) → l.foldl (fun e p => min (max e (p.e + 1)) 2147483648) 2147483648 = 2147483648 ∧ l.foldl (fun m p => max m p.e) 2147483648 = 2147483648 := by
        intro l
        induction l with
        | nil => intro _; exact ⟨rfl, rfl⟩
        | cons r l ih =>
          intro hl
          have := hl r (by simp)
          have ih := ih (fun s hs => hl s (List.mem_cons_of_mem _ hs))
          rw [List.foldl_cons, List.foldl_cons, show min (max (2147483648 : Int) (r.e + 1)) 2147483648 = 2147483648 by omega, show max (2147483648 : Int) r.e = 2147483648 by omega]
          exact ih
      have := top (q :: l) (fun r hr => (hp r (List.mem_cons_of_mem _ hr)).2)
      rw [this.1, this.2]; omega
theorem refE_eq {d : List Pt} {x y : ByteArray} (h : ∀ p ∈ d, 1 ≤ p.e ∧ p.e ≤ 2147483648) (hne : ∃ p ∈ d, tch x y p = true) : refE x y d = min (epL (tl d x y d.length) + 1) 2147483648 := by
  rw [epL_mx]
  unfold refE mxE
  refine refE_from _ 0 (by omega) (by omega) (fun p hp => h p (List.mem_filter.1 hp).1) 0 (Or.inr ⟨rfl, rfl⟩) ?_
  obtain ⟨p, hp, ht⟩ := hne
  exact List.ne_nil_of_mem (List.mem_filter.2 ⟨hp, ht⟩)
theorem refL_new {d : List Pt} {x y : ByteArray} (g : Int) (hd : ChT ⟨#[]⟩ d) (hr : okR x y = true) : putL y ⟨x, y, g, min (epL (tl d x y d.length) + 1) 2147483648⟩ (refL x y d) = newL d x y g := by
  obtain ⟨f, T, R, hT⟩ := nums (allL d x y ⟨#[]⟩)
  have hx : x ∈ allL d x y ⟨#[]⟩ := by simp [allL]
  have hy : y ∈ allL d x y ⟨#[]⟩ := by simp [allL]
  have h0 : (⟨#[]⟩ : ByteArray) ∈ allL d x y ⟨#[]⟩ := by simp [allL]
  obtain ⟨pre, mid, post, hp, lp, c, c', M⟩ := move_cut R hT g hx hy h0 allL_d hd hr
  have hxy : f x < en f T y := by
    have := hr
    rw [okR_en R hT hx hy] at this
    simp only [Bool.and_eq_true, decide_eq_true_eq] at this
    exact this.2.2
  have e0 : refL x y d = pre ++ hp ++ (lp ++ post) := by
    have f1 : ∀ l : List Pt, (∀ p ∈ l, tch x y p = false) → refL x y l = l := by
      intro l
      induction l with
      | nil => intro _; rfl
      | cons p l ih =>
        intro h
        unfold refL at ih ⊢
        rw [List.flatMap_cons, h p (by simp), if_neg (by simp), ih (fun q hq => h q (List.mem_cons_of_mem _ hq))]; rfl
    have f2 : refL x y mid = mid.flatMap (pcs x y) := fm_congr (fun p hp => if_pos (M.p2 p hp))
    rw [M.hd]
    unfold refL at f1 f2 ⊢
    rw [List.flatMap_append, List.flatMap_append, f1 pre M.p1, f2, f1 post M.p3, M.fl]
    simp
  have e1 : min (epL (tl d x y d.length) + 1) 2147483648 = min (mxE mid + 1) 2147483648 := by rw [epL_mx, M.filt]
  rw [e0, e1, M.new]
  have low : ∀ p ∈ pre ++ hp, ¬ (y ≠ ⟨#[]⟩ ∧ p.f = y) := by
    rintro p hp' ⟨h1, h2⟩
    have hfy : f y ≠ 0 := fun e => h1 ((rank_zero R hy).1 e)
    have hey : en f T y = f y := by unfold en; rw [if_neg hfy]
    rcases List.mem_append.1 hp' with h | h
    · have := (nch_le M.n1).2 _ (List.mem_map_of_mem (f := nOf f T) h)
      have := M.cx
      have : (nOf f T p).a = f y := by show f p.f = f y; rw [h2]
      omega
    · have hh := List.mem_map_of_mem (f := nOf f T) h
      rw [M.h] at hh
      split at hh
      · rw [List.mem_singleton] at hh
        have h3 : (nOf f T p).a = f y := by show f p.f = f y; rw [h2]
        rw [hh] at h3
        have h4 : c = f y := h3
        have := M.cx
        omega
      · cases hh
  rw [putL_skip low]
  have tail : putL y ⟨x, y, g, min (mxE mid + 1) 2147483648⟩ (lp ++ post) = ⟨x, y, g, min (mxE mid + 1) 2147483648⟩ :: (lp ++ post) := by
    cases hl : lp ++ post with
    | nil => rfl
    | cons p l =>
      have hy0 : y ≠ ⟨#[]⟩ := by
        intro e
        have hz := (rank_zero R hy).2 e
        have hey : en f T y = T := by unfold en; rw [if_pos hz]
        have hc := M.cy
        have hn3 := (nch_le M.n3).1
        have hlp : lp = [] := by
          have := M.l
          rw [if_neg (by omega)] at this
          exact List.map_eq_nil_iff.1 this
        have hpo : post = [] := by
          cases hq : post with
          | nil => rfl
          | cons q po =>
            have := (nch_le M.n3).2 (nOf f T q) (by rw [hq]; simp)
            omega
        rw [hlp, hpo] at hl; cases hl
      have hfy : f y ≠ 0 := fun e => hy0 ((rank_zero R hy).1 e)
      have hey : en f T y = f y := by unfold en; rw [if_neg hfy]
      have hpf : f p.f = f y ∧ p.f ∈ allL d x y ⟨#[]⟩ := by
        rcases map_nil_or M.l with ⟨hc, q, hq1, hq2⟩ | ⟨hc, hq1⟩
        · rw [hq1] at hl
          injection hl with h1 h2
          subst h1
          have h3 : f q.f = en f T y := congrArg NP.a hq2
          refine ⟨by omega, ?_⟩
          rcases (M.txt q (by rw [hq1]; simp)).1 with e | e | e
          · rw [e]; exact hx
          · rw [e]; exact hy
          · exact by unfold allL; simp only [List.mem_cons]; exact Or.inr (Or.inr (Or.inr (Or.inr e)))
        · rw [hq1, List.nil_append] at hl
          have h3 : (nOf f T p).a = c' := by
            have := M.n3
            rw [hl] at this
            exact this.1
          have := M.cy
          have hin : p ∈ d := by rw [M.hd, hl]; simp
          refine ⟨?_, (allL_d p hin).1⟩
          have : f p.f = c' := h3
          omega
      have : p.f = y := rank_eq R hpf.2 hy hpf.1
      rw [putL, if_pos ⟨hy0, this⟩]
  rw [tail]
  simp
end
section
/- the same by the bytes' lists: what the kernel can run -/
theorem tlE (x : ByteArray) : x.toList = x.data.toList := ByteArray.toList_eq ..
def okS' (x : ByteArray) : Bool := x.data.toList == ([] : List UInt8) || isName x.data.toList
def okR' (f t : ByteArray) : Bool := okS' f && (okS' t && (t.data.toList == ([] : List UInt8) || Op.bytesLess f.data.toList t.data.toList))
def endLt' (x y : ByteArray) : Bool := !(x.data.toList == y.data.toList) && (!(x.data.toList == ([] : List UInt8)) && (y.data.toList == ([] : List UInt8) || Op.bytesLess x.data.toList y.data.toList))
def hasR' (f t k : ByteArray) : Bool := okR' f t && (isName k.data.toList && (!Op.bytesLess k.data.toList f.data.toList && endLt' k t))
def maxS' (x y : ByteArray) : ByteArray := if !Op.bytesLess x.data.toList y.data.toList then x else y
def minE' (x y : ByteArray) : ByteArray := if endLt' y x then y else x
def outL' (af at' bf bt : ByteArray) : List (ByteArray × ByteArray) :=
  (if Op.bytesLess af.data.toList bf.data.toList then [(af, minE' bf at')] else []) ++ (if endLt' bt at' then [(maxS' af bt, at')] else [])
def tch' (x y : ByteArray) (p : Pt) : Bool := (okR' p.f p.t && okR' x y) && okR' (maxS' p.f x) (minE' p.t y)
def tl' (d : List Pt) (x y : ByteArray) : Nat → List (Nat × Pt)
  | 0 => []
  | k + 1 => tl' d x y k ++ (match d[k]? with | some p => if tch' x y p then [(k, p)] else [] | none => [])
def pieces' (x y : ByteArray) (q : Nat × Pt) : List Pt := (outL' q.2.f q.2.t x y).map fun p => ⟨p.1, p.2, q.2.g, q.2.e⟩
def atL' (x : ByteArray) (left : List Pt) : Nat := match left with | [] => 0 | p :: _ => if p.t.data.toList = x.data.toList ∧ x.data.toList ≠ [] then 1 else 0
def newL' (d : List Pt) (x y : ByteArray) (g : Int) : List Pt :=
  let xs := tl' d x y d.length
  let left := xs.flatMap (pieces' x y)
  let a := atL' x left
  d.take (fstL xs).toNat ++ left.take a ++ [⟨x, y, g, min (epL xs + 1) 2147483648⟩] ++ left.drop a ++ d.drop ((lstL xs).toNat + 1)
def ownerV' (d : List Pt) (x y : ByteArray) : Int × Bool × Int :=
  if d = [] then (0, false, 1) else if okR' x y = false then (0, false, 2) else match ownL (tl' d x y d.length) 0 with | none => (0, false, 0) | some o => (o, decide (0 < o), 0)
def moveV' (d : List Pt) (x y : ByteArray) (g : Int) : Int × Int × List Pt :=
  if (ownerV' d x y).2.2 ≠ 0 then (0, (ownerV' d x y).2.2, d)
  else if ¬ (1 ≤ g ∧ g < 8) then (0, 2, d)
  else if (ownerV' d x y).2.1 = false ∨ (ownerV' d x y).1 = g then (0, 9, d)
  else if 64 < (newL' d x y g).length then (0, 4, d)
  else (min (epL (tl' d x y d.length) + 1) 2147483648, 0, newL' d x y g)
def findV' (d : List Pt) (key : ByteArray) : Pt × Int :=
  if d = [] then (⟨⟨#[]⟩, ⟨#[]⟩, 0, 0⟩, 1) else if isName key.data.toList then ((d.find? (fun p => hasR' p.f p.t key)).getD ⟨⟨#[]⟩, ⟨#[]⟩, 0, 0⟩, 0) else (⟨⟨#[]⟩, ⟨#[]⟩, 0, 0⟩, 2)
theorem okS_run (x : ByteArray) : okS x = okS' x := by simp only [okS, okS', tlE]
theorem okR_run (x y : ByteArray) : okR x y = okR' x y := by simp only [okR, okR', okS_run, tlE]
theorem endLt_run (x y : ByteArray) : endLt x y = endLt' x y := by simp only [endLt, endLt', tlE]
theorem hasR_run (x y k : ByteArray) : hasR x y k = hasR' x y k := by simp only [hasR, hasR', okR_run, endLt_run, tlE]
theorem maxS_run (x y : ByteArray) : maxS x y = maxS' x y := by simp only [maxS, maxS', tlE]
theorem minE_run (x y : ByteArray) : minE x y = minE' x y := by simp only [minE, minE', endLt_run]
theorem outL_run (a b c d : ByteArray) : outL a b c d = outL' a b c d := by simp only [outL, outL', endLt_run, maxS_run, minE_run, tlE]
theorem tch_run (x y : ByteArray) (p : Pt) : tch x y p = tch' x y p := by simp only [tch, tch', okR_run, maxS_run, minE_run]
theorem tl_run (d : List Pt) (x y : ByteArray) : ∀ k, tl d x y k = tl' d x y k
  | 0 => rfl
  | k + 1 => by
    rw [tl, tl', tl_run d x y k]
    cases d[k]? with
    | none => rfl
    | some p => simp only [tch_run]
theorem atL_run (x : ByteArray) (l : List Pt) : atL x l = atL' x l := by
  cases l with
  | nil => rfl
  | cons p l =>
    have : (p.t = x) = (p.t.data.toList = x.data.toList) := propext ⟨fun h => by rw [h], fun h => ba_eq (by rw [tlE, tlE, h])⟩
    simp only [atL, atL', this, tlE]
theorem pieces_run (x y : ByteArray) : pieces x y = pieces' x y := by funext q; simp only [pieces, pieces', outL_run]
theorem newL_run (d : List Pt) (x y : ByteArray) (g : Int) : newL d x y g = newL' d x y g := by
  simp only [newL, newL', tl_run, leftL, pieces_run, atL_run]
theorem ownerV_run (d : List Pt) (x y : ByteArray) : ownerV d x y = ownerV' d x y := by
  unfold ownerV ownerV'
  rw [tl_run, okR_run]
  cases ownL (tl' d x y d.length) 0 <;> rfl
theorem moveV_run (d : List Pt) (x y : ByteArray) (g : Int) : moveV d x y g = moveV' d x y g := by
  simp only [moveV, moveV', ownerV_run, newL_run, tl_run]
theorem findV_run (d : List Pt) (k : ByteArray) : findV d k = findV' d k := by
  simp only [findV, findV', hasR_run]
def dW0 : List Pt := [⟨⟨#[]⟩, ⟨#[]⟩, 1, 1⟩]
def dW1 : List Pt := [⟨⟨#[]⟩, ⟨#[99]⟩, 1, 1⟩, ⟨⟨#[99]⟩, ⟨#[109]⟩, 2, 2⟩, ⟨⟨#[109]⟩, ⟨#[]⟩, 1, 1⟩]
def dW2 : List Pt := [⟨⟨#[]⟩, ⟨#[99]⟩, 1, 1⟩, ⟨⟨#[99]⟩, ⟨#[100]⟩, 2, 2⟩, ⟨⟨#[100]⟩, ⟨#[102]⟩, 1, 3⟩, ⟨⟨#[102]⟩, ⟨#[109]⟩, 2, 2⟩, ⟨⟨#[109]⟩, ⟨#[]⟩, 1, 1⟩]
theorem mv1 : moveV dW0 ⟨#[99]⟩ ⟨#[109]⟩ 2 = (2, 0, dW1) := by rw [moveV_run]; rfl
theorem mv2 : moveV dW1 ⟨#[97]⟩ ⟨#[100]⟩ 3 = (0, 9, dW1) := by rw [moveV_run]; rfl
theorem mv3 : moveV dW1 ⟨#[100]⟩ ⟨#[102]⟩ 1 = (3, 0, dW2) := by rw [moveV_run]; rfl
theorem fv1 : findV dW1 ⟨#[100]⟩ = (⟨⟨#[99]⟩, ⟨#[109]⟩, 2, 2⟩, 0) := by rw [findV_run]; rfl
theorem fv2 : findV dW1 ⟨#[109]⟩ = (⟨⟨#[109]⟩, ⟨#[]⟩, 1, 1⟩, 0) := by rw [findV_run]; rfl
end
end Go.Proofs.YtkkkppbcjmeapaaDoor
