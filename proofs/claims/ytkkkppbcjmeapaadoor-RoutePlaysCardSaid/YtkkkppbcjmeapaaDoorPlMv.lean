/- Plain facts about moves: what a move makes of a map whose parts follow one another; which part has a key. No condition. -/
import Derived.Test.YtkkkppbcjmeapaaDoorPlMove
import Derived.Test.YtkkkppbcjmeapaaDoorPlRng2
namespace Go.Proofs.YtkkkppbcjmeapaaDoor
/-- A part by numbers. -/
structure NP where
  a : Nat
  b : Nat
  g : Int
  e : Int
/-- Parts follow one another from a to T. -/
def NCh (T : Nat) : Nat → List NP → Prop
  | a, [] => a = T
  | a, p :: l => p.a = a ∧ p.a < p.b ∧ NCh T p.b l
def ntch (x y : Nat) (p : NP) : Bool := decide (max p.a x < min p.b y)
theorem nch_le {T : Nat} : ∀ {a : Nat} {l : List NP}, NCh T a l → a ≤ T ∧ ∀ p ∈ l, a ≤ p.a ∧ p.a < p.b ∧ p.b ≤ T
  | a, [], h => ⟨by have : a = T := h; omega, fun p hp => by cases hp⟩
  | a, q :: l, h => by
    obtain ⟨h1, h2, h3⟩ := h
    obtain ⟨i1, i2⟩ := nch_le h3
    refine ⟨by omega, fun p hp => ?_⟩
    rcases List.mem_cons.1 hp with rfl | hp
    · omega
    · have := i2 p hp; omega
theorem nch_app {T : Nat} : ∀ {a : Nat} {l m : List NP} {c : Nat}, NCh c a l → NCh T c m → NCh T a (l ++ m)
  | a, [], m, c, h, h' => by have : a = c := h; subst this; exact h'
  | a, q :: l, m, c, ⟨h1, h2, h3⟩, h' => ⟨h1, h2, nch_app h3 h'⟩
theorem nch_split {T : Nat} : ∀ {a : Nat} {l m : List NP}, NCh T a (l ++ m) → ∃ c, NCh c a l ∧ NCh T c m
  | a, [], m, h => ⟨a, rfl, h⟩
  | a, q :: l, m, ⟨h1, h2, h3⟩ => by
    obtain ⟨c, i1, i2⟩ := nch_split h3
    exact ⟨c, ⟨h1, h2, i1⟩, i2⟩
/-- A chain cut at a range: what is ahead of it, what it touches, what is behind. -/
theorem nch_cut {T x y : Nat} (hxy : x < y) (hy : y ≤ T) : ∀ {a : Nat} {l : List NP}, NCh T a l → a ≤ x →
    ∃ pre mid post c c', l = pre ++ mid ++ post ∧ NCh c a pre ∧ NCh c' c mid ∧ NCh T c' post ∧ c ≤ x ∧ y ≤ c' ∧ (∀ p ∈ pre, p.b ≤ x) ∧ (∀ p ∈ mid, ntch x y p = true) ∧ (∀ p ∈ post, y ≤ p.a) ∧ mid ≠ [] := by
  intro a l
  induction l generalizing a with
  | nil => intro h h2; have : a = T := h; omega
  | cons q l ih =>
    rintro ⟨h1, h2, h3⟩ hax
    by_cases hq : q.b ≤ x
    · obtain ⟨pre, mid, post, c, c', rfl, i1, i2, i3, i4, i5, i6, i7, i8, i9⟩ := ih h3 hq
      exact ⟨q :: pre, mid, post, c, c', rfl, ⟨h1, h2, i1⟩, i2, i3, i4, i5, fun p hp => by
        rcases List.mem_cons.1 hp with rfl | hp
        · exact hq
        · exact i6 p hp, i7, i8, i9⟩
    · -- q is touched: now the rest from q.b, where the touched go on while p.a < y
      have hm : ∀ {b : Nat} {m : List NP}, NCh T b m → x < b → ∃ mid post c', m = mid ++ post ∧ NCh c' b mid ∧ NCh T c' post ∧ (y ≤ c') ∧ (∀ p ∈ mid, ntch x y p = true) ∧ (∀ p ∈ post, y ≤ p.a) := by
        intro b m
        induction m generalizing b with
        | nil => intro h hb; have h' : b = T := h; exact ⟨[], [], b, rfl, rfl, h, by omega, fun p hp => (by cases hp), fun p hp => (by cases hp)⟩
        | cons r m ihm =>
          intro h hb
          by_cases hr : y ≤ b
          · exact ⟨[], r :: m, b, rfl, rfl, h, hr, fun p hp => (by cases hp), fun p hp => Nat.le_trans hr ((nch_le h).2 p hp).1⟩
          · obtain ⟨k1, k2, k3⟩ := h
            obtain ⟨mid, post, c', rfl, j1, j2, j3, j4, j5⟩ := ihm k3 (by omega)
            exact ⟨r :: mid, post, c', rfl, ⟨k1, k2, j1⟩, j2, j3, fun p hp => by
              rcases List.mem_cons.1 hp with rfl | hp
              · simp [ntch]; omega
              · exact j4 p hp, j5⟩
      obtain ⟨mid, post, c', rfl, j1, j2, j3, j4, j5⟩ := hm h3 (by omega)
      exact ⟨[], q :: mid, post, a, c', rfl, rfl, ⟨h1, h2, j1⟩, j2, hax, j3, fun p hp => (by cases hp), fun p hp => by
        rcases List.mem_cons.1 hp with rfl | hp
        · simp [ntch]; omega
        · exact j4 p hp, j5, by simp⟩
/-- What stays of a part. -/
def npc (x y : Nat) (p : NP) : List NP := (if p.a < x then [⟨p.a, min x p.b, p.g, p.e⟩] else []) ++ (if y < p.b then [⟨max p.a y, p.b, p.g, p.e⟩] else [])
theorem npc_mid {T x y : Nat} (hxy : x < y) : ∀ {c : Nat} {mid : List NP}, NCh T c mid → x ≤ c → (∀ p ∈ mid, ntch x y p = true) → y ≤ T → mid ≠ [] →
    mid.flatMap (npc x y) = if y < T then [⟨y, T, (mid.getLast?.map NP.g).getD 0, (mid.getLast?.map NP.e).getD 0⟩] else []
  | c, [], _, _, _, _, h => absurd rfl h
  | c, [p], ⟨h1, h2, h3⟩, hx, ht, hy, _ => by
    have h3' : p.b = T := h3
    have := ht p (by simp)
    simp only [ntch, decide_eq_true_eq] at this
    have hmax : max p.a y = y := by omega
    simp [npc, h3', show ¬ p.a < x by omega, hmax]
  | c, p :: q :: l, ⟨h1, h2, h3⟩, hx, ht, hy, _ => by
    have hq := (nch_le h3).2 q (by simp)
    have t1 := ht p (by simp)
    have t2 := ht q (by simp)
    simp only [ntch, decide_eq_true_eq] at t1 t2
    have ih := npc_mid hxy h3 (by omega) (fun r hr => ht r (List.mem_cons_of_mem _ hr)) hy (by simp)
    have hqb : q.a = p.b := h3.1
    rw [List.flatMap_cons, ih]
    simp [npc, show ¬ p.a < x by omega, show ¬ y < p.b by omega]
theorem npc_cut {x y c c' : Nat} (hxy : x < y) {mid : List NP} (h : NCh c' c mid) (hc : c ≤ x) (ht : ∀ p ∈ mid, ntch x y p = true) (hy : y ≤ c') (hne : mid ≠ []) :
    mid.flatMap (npc x y) = (if c < x then [⟨c, x, (mid.head?.map NP.g).getD 0, (mid.head?.map NP.e).getD 0⟩] else []) ++ (if y < c' then [⟨y, c', (mid.getLast?.map NP.g).getD 0, (mid.getLast?.map NP.e).getD 0⟩] else []) := by
  cases mid with
  | nil => exact absurd rfl hne
  | cons p l =>
    obtain ⟨h1, h2, h3⟩ := h
    have t1 := ht p (by simp)
    simp only [ntch, decide_eq_true_eq] at t1
    cases l with
    | nil =>
      have h3' : p.b = c' := h3
      have e1 : min x p.b = x := by omega
      have e2 : max p.a y = y := by omega
      simp [npc, h3', h1]
      subst h3'
      have e3 : max c y = y := by omega
      simp [e3]
      by_cases hh : c < x <;> simp [hh] <;> omega
    | cons q l =>
      have hq := (nch_le h3).2 q (by simp)
      have t2 := ht q (by simp)
      simp only [ntch, decide_eq_true_eq] at t2
      have hqb : q.a = p.b := h3.1
      have := npc_mid hxy h3 (by omega) (fun r hr => ht r (List.mem_cons_of_mem _ hr)) hy (by simp)
      rw [List.flatMap_cons, this]
      have e1 : min x p.b = x := by omega
      have e2 : ¬ y < p.b := by omega
      simp [npc, e1, e2, h1]
theorem nums (L : List ByteArray) : ∃ f T, Ranks L f ∧ ∀ s ∈ L, f s < T := by
  obtain ⟨f, R⟩ := ranks L
  have : ∀ M : List ByteArray, ∃ T, ∀ s ∈ M, f s < T := by
    intro M
    induction M with
    | nil => exact ⟨0, fun s hs => by cases hs⟩
    | cons a M ih =>
      obtain ⟨T, hT⟩ := ih
      refine ⟨T + f a + 1, fun s hs => ?_⟩
      rcases List.mem_cons.1 hs with rfl | hs
      · omega
      · have := hT s hs; omega
  obtain ⟨T, hT⟩ := this L
  exact ⟨f, T, R, hT⟩
/-- The number of an end: the empty one is behind all. -/
def en (f : ByteArray → Nat) (T : Nat) (s : ByteArray) : Nat := if f s = 0 then T else f s
def nOf (f : ByteArray → Nat) (T : Nat) (p : Pt) : NP := ⟨f p.f, en f T p.t, p.g, p.e⟩
section
variable {L : List ByteArray} {f : ByteArray → Nat} {T : Nat}
theorem endLt_en (R : Ranks L f) (hT : ∀ s ∈ L, f s < T) {x y : ByteArray} (hx : x ∈ L) (hy : y ∈ L) : endLt x y = decide (en f T x < en f T y) := by
  rw [endLt_num R hx hy]
  have := hT x hx; have := hT y hy
  unfold en
  congr 1
  apply propext
  split <;> split <;> omega
theorem okR_en (R : Ranks L f) (hT : ∀ s ∈ L, f s < T) {x y : ByteArray} (hx : x ∈ L) (hy : y ∈ L) : okR x y = (okS x && (okS y && decide (f x < en f T y))) := by
  rw [okR_num R hx hy]
  have := hT x hx
  unfold en
  have : (f y = 0 ∨ f x < f y) ↔ (f x < if f y = 0 then T else f y) := by split <;> omega
  simp only [this]
theorem maxS_mem {x y : ByteArray} (hx : x ∈ L) (hy : y ∈ L) : maxS x y ∈ L := by rcases maxS_or x y with h | h <;> rw [h] <;> assumption
theorem minE_mem {x y : ByteArray} (hx : x ∈ L) (hy : y ∈ L) : minE x y ∈ L := by rcases minE_or x y with h | h <;> rw [h] <;> assumption
theorem maxS_en (R : Ranks L f) {x y : ByteArray} (hx : x ∈ L) (hy : y ∈ L) : f (maxS x y) = max (f x) (f y) := by
  rcases maxS_num R hx hy with h | h <;> omega
theorem minE_en (R : Ranks L f) (hT : ∀ s ∈ L, f s < T) {x y : ByteArray} (hx : x ∈ L) (hy : y ∈ L) : en f T (minE x y) = min (en f T x) (en f T y) := by
  have := hT x hx; have := hT y hy
  unfold en
  rcases minE_num R hx hy with ⟨h, e⟩ | ⟨h, e⟩ <;> rw [e] <;> split <;> split <;> omega
theorem en_le (hT : ∀ s ∈ L, f s < T) {x : ByteArray} (hx : x ∈ L) : en f T x ≤ T := by
  have := hT x hx
  unfold en; split <;> omega
theorem tch_num (R : Ranks L f) (hT : ∀ s ∈ L, f s < T) {x y : ByteArray} {p : Pt} (h1 : p.f ∈ L) (h2 : p.t ∈ L) (hx : x ∈ L) (hy : y ∈ L) (hp : okR p.f p.t = true) (hr : okR x y = true) : tch x y p = ntch (f x) (en f T y) (nOf f T p) := by
  unfold tch ntch nOf
  rw [hp, hr, okR_en R hT (maxS_mem h1 hx) (minE_mem h2 hy), okS_maxS (okR_left hp) (okR_left hr), okS_minE (okR_right hp) (okR_right hr), maxS_en R h1 hx, minE_en R hT h2 hy]
  simp
end
/-- The parts of a map: from the empty text on, each begins where the one ahead ends; the last one ends nowhere. -/
def ChT : ByteArray → List Pt → Prop
  | _, [] => False
  | a, p :: l => p.f = a ∧ okR p.f p.t = true ∧ ((l = [] ∧ p.t = ⟨#[]⟩) ∨ (l ≠ [] ∧ p.t ≠ ⟨#[]⟩ ∧ ChT p.t l))
def txsP (d : List Pt) : List ByteArray := d.flatMap fun p => [p.f, p.t]
theorem txs_mem {d : List Pt} {p : Pt} (hp : p ∈ d) : p.f ∈ txsP d ∧ p.t ∈ txsP d := by
  simp only [txsP, List.mem_flatMap]
  exact ⟨⟨p, hp, by simp⟩, ⟨p, hp, by simp⟩⟩
theorem rank_zero {L : List ByteArray} {f : ByteArray → Nat} (R : Ranks L f) {x : ByteArray} (hx : x ∈ L) : f x = 0 ↔ x = ⟨#[]⟩ := by
  have h := R.em x hx
  constructor
  · intro h0
    rw [decide_eq_true h0] at h
    exact ba_eq (by rw [beq_iff_eq] at h; rw [h, ByteArray.toList_eq])
  · intro h0
    subst h0
    have : (ByteArray.toList ⟨#[]⟩ == ([] : List UInt8)) = true := by rw [ByteArray.toList_eq]; rfl
    rw [this] at h
    simpa using h.symm
theorem chT_ok : ∀ {a : ByteArray} {d : List Pt}, ChT a d → d ≠ [] ∧ ∀ p ∈ d, okR p.f p.t = true
  | a, [], h => h.elim
  | a, p :: l, ⟨h1, h2, h3⟩ => ⟨by simp, fun q hq => by
    rcases List.mem_cons.1 hq with rfl | hq
    · exact h2
    · rcases h3 with ⟨rfl, _⟩ | ⟨_, _, h⟩
      · cases hq
      · exact (chT_ok h).2 q hq⟩
theorem chT_num {L : List ByteArray} {f : ByteArray → Nat} {T : Nat} (R : Ranks L f) (hT : ∀ s ∈ L, f s < T) : ∀ {d : List Pt} {a : ByteArray}, a ∈ L → (∀ p ∈ d, p.f ∈ L ∧ p.t ∈ L) →
    (ChT a d ↔ (d ≠ [] ∧ (∀ p ∈ d, okR p.f p.t = true) ∧ NCh T (f a) (d.map (nOf f T))))
  | [], a, _, _ => by simp [ChT]
  | p :: l, a, ha, hl => by
    have hp := hl p (by simp)
    have hl' : ∀ q ∈ l, q.f ∈ L ∧ q.t ∈ L := fun q hq => hl q (List.mem_cons_of_mem _ hq)
    have ih := chT_num R hT (d := l) (a := p.t) hp.2 hl'
    constructor
    · intro h
      refine ⟨by simp, (chT_ok h).2, ?_⟩
      obtain ⟨h1, h2, h3⟩ := h
      have ho := h2
      rw [okR_en R hT hp.1 hp.2] at ho
      simp only [Bool.and_eq_true, decide_eq_true_eq] at ho
      refine ⟨by simp [nOf, h1], by simpa [nOf] using ho.2.2, ?_⟩
      rcases h3 with ⟨rfl, h3⟩ | ⟨h3, h4, h5⟩
      · show en f T p.t = T
        unfold en; rw [if_pos ((rank_zero R hp.2).2 h3)]
      · have : en f T p.t = f p.t := by unfold en; rw [if_neg (fun e => h4 ((rank_zero R hp.2).1 e))]
        show NCh T (en f T p.t) (l.map (nOf f T))
        rw [this]
        exact (ih.1 h5).2.2
    · rintro ⟨_, h2, h3, h4, h5⟩
      refine ⟨rank_eq R hp.1 ha h3, h2 p (by simp), ?_⟩
      change NCh T (en f T p.t) (l.map (nOf f T)) at h5
      by_cases h0 : f p.t = 0
      · left
        have : en f T p.t = T := by unfold en; rw [if_pos h0]
        rw [this] at h5
        cases l with
        | nil => exact ⟨rfl, (rank_zero R hp.2).1 h0⟩
        | cons q m =>
          have h6 : f q.f = T := h5.1
          have := hT q.f (hl' q (by simp)).1
          omega
      · right
        have : en f T p.t = f p.t := by unfold en; rw [if_neg h0]
        rw [this] at h5
        cases l with
        | nil =>
          have h6 : f p.t = T := h5
          have := hT p.t hp.2
          omega
        | cons q m => exact ⟨by simp, fun e => h0 ((rank_zero R hp.2).2 e), ih.2 ⟨by simp, fun r hr => h2 r (List.mem_cons_of_mem _ hr), h5⟩⟩
/-- A list with numbers from s on. -/
def ix : Nat → List Pt → List (Nat × Pt)
  | _, [] => []
  | s, p :: l => (s, p) :: ix (s + 1) l
theorem ix_app : ∀ (s : Nat) (l m : List Pt), ix s (l ++ m) = ix s l ++ ix (s + l.length) m
  | s, [], m => by simp [ix]
  | s, p :: l, m => by simp [ix, ix_app (s + 1) l m]; congr 1; omega
theorem tl_ix (d : List Pt) (x y : ByteArray) : ∀ k, tl d x y k = (ix 0 (d.take k)).filter (fun q => tch x y q.2)
  | 0 => by simp [tl, ix]
  | k + 1 => by
    rw [tl, tl_ix d x y k, List.take_add_one]
    cases h : d[k]? with
    | none => simp
    | some p =>
      have hk := (List.getElem?_eq_some_iff.1 h).1
      rw [ix_app]
      simp only [List.length_take, Nat.min_eq_left (Nat.le_of_lt hk), Nat.zero_add, Option.toList, ix, List.filter_append]
      by_cases ht : tch x y p = true <;> simp [ht]
theorem ix_no (x y : ByteArray) : ∀ (l : List Pt) (s : Nat), (∀ p ∈ l, tch x y p = false) → (ix s l).filter (fun q => tch x y q.2) = []
  | [], s, _ => rfl
  | p :: l, s, h => by simp [ix, h p (by simp), ix_no x y l (s + 1) (fun q hq => h q (List.mem_cons_of_mem _ hq))]
theorem ix_yes (x y : ByteArray) : ∀ (l : List Pt) (s : Nat), (∀ p ∈ l, tch x y p = true) → (ix s l).filter (fun q => tch x y q.2) = ix s l
  | [], s, _ => rfl
  | p :: l, s, h => by simp [ix, h p (by simp), ix_yes x y l (s + 1) (fun q hq => h q (List.mem_cons_of_mem _ hq))]
theorem tl_mid {pre mid post : List Pt} {x y : ByteArray} (h1 : ∀ p ∈ pre, tch x y p = false) (h2 : ∀ p ∈ mid, tch x y p = true) (h3 : ∀ p ∈ post, tch x y p = false) :
    tl (pre ++ mid ++ post) x y (pre ++ mid ++ post).length = ix pre.length mid := by
  rw [tl_ix, List.take_length, ix_app, ix_app, List.filter_append, List.filter_append, ix_no x y pre 0 h1, ix_no x y post _ h3, ix_yes x y mid _ h2]
  simp
def pcs (x y : ByteArray) (p : Pt) : List Pt := (outL p.f p.t x y).map fun q => ⟨q.1, q.2, p.g, p.e⟩
theorem leftL_ix (x y : ByteArray) : ∀ (s : Nat) (l : List Pt), leftL x y (ix s l) = l.flatMap (pcs x y)
  | s, [] => rfl
  | s, p :: l => by
    have := leftL_ix x y (s + 1) l
    unfold leftL at this ⊢
    rw [ix, List.flatMap_cons, List.flatMap_cons, this]; rfl
theorem fstL_ix (s : Nat) (l : List Pt) (h : l ≠ []) : fstL (ix s l) = (s : Int) := by
  cases l with
  | nil => exact absurd rfl h
  | cons p l => rfl
theorem lstL_ix : ∀ (l : List Pt) (s : Nat), l ≠ [] → lstL (ix s l) = ((s + l.length - 1 : Nat) : Int)
  | [], s, h => absurd rfl h
  | [p], s, _ => by simp [ix, lstL]
  | p :: q :: l, s, _ => by
    have := lstL_ix (q :: l) (s + 1) (by simp)
    unfold lstL at this ⊢
    rw [ix, ix, List.getLast?_cons_cons, ← ix, this]
    simp; omega
theorem epL_ix : ∀ (l : List Pt) (s : Nat) (m : Int), (ix s l).foldl (fun m q => max m q.2.e) m = l.foldl (fun m p => max m p.e) m
  | [], s, m => rfl
  | p :: l, s, m => by simp [ix, epL_ix l (s + 1)]
/-- The greatest epoch of parts. -/
def mxE (l : List Pt) : Int := l.foldl (fun m p => max m p.e) 0
theorem pcs_num {L : List ByteArray} {f : ByteArray → Nat} {T : Nat} (R : Ranks L f) (hT : ∀ s ∈ L, f s < T) {x y : ByteArray} {p : Pt} (h1 : p.f ∈ L) (h2 : p.t ∈ L) (hx : x ∈ L) (hy : y ∈ L) :
    (pcs x y p).map (nOf f T) = npc (f x) (en f T y) (nOf f T p) := by
  unfold pcs outL npc
  rw [R.lt _ h1 _ hx, endLt_en R hT hy h2, List.map_append, List.map_append]
  have ex : f p.f < f x → en f T x = f x := fun h => by unfold en; rw [if_neg (by omega)]
  have ey : en f T y < en f T p.t → en f T y = f y := fun h => by
    have := en_le hT h2
    unfold en at h ⊢
    split <;> rename_i h0
    · rw [if_pos h0] at h; unfold en at this; omega
    · rfl
  congr 1
  · by_cases h : f p.f < f x
    · rw [if_pos (decide_eq_true h), if_pos (by simpa [nOf] using h)]
      simp [nOf, minE_en R hT hx h2, ex h]
    · rw [if_neg (by simpa using h), if_neg (by simpa [nOf] using h)]; rfl
  · by_cases h : en f T y < en f T p.t
    · rw [if_pos (decide_eq_true h), if_pos (by simpa [nOf] using h)]
      simp [nOf, maxS_en R h1 hy, ey h]
    · rw [if_neg (by simpa using h), if_neg (by simpa [nOf] using h)]; rfl
theorem fm_congr {α β : Type} {g h : α → List β} : ∀ {l : List α}, (∀ a ∈ l, g a = h a) → l.flatMap g = l.flatMap h
  | [], _ => rfl
  | a :: l, H => by rw [List.flatMap_cons, List.flatMap_cons, H a (by simp), fm_congr (fun b hb => H b (List.mem_cons_of_mem _ hb))]
theorem okR_outL {a b c d : ByteArray} (h1 : okS a = true) (h2 : okS b = true) (h3 : okS c = true) (h4 : okS d = true) : ∀ q ∈ outL a b c d, okS q.1 = true ∧ okS q.2 = true := by
  intro q hq
  unfold outL at hq
  rcases List.mem_append.1 hq with hq | hq
  · split at hq
    · rcases List.mem_singleton.1 hq with rfl; exact ⟨h1, okS_minE h3 h2⟩
    · cases hq
  · split at hq
    · rcases List.mem_singleton.1 hq with rfl; exact ⟨okS_maxS h1 h4, h2⟩
    · cases hq
theorem map_nil_or {α β : Type} {g : α → β} {l : List α} {c : Prop} [Decidable c] {n : β} (h : l.map g = if c then [n] else []) : (c ∧ ∃ q, l = [q] ∧ g q = n) ∨ (¬ c ∧ l = []) := by
  by_cases hc : c
  · rw [if_pos hc] at h
    cases l with
    | nil => cases h
    | cons a l => cases l with
      | nil => exact Or.inl ⟨hc, a, rfl, by simpa using h⟩
      | cons b l => simp at h
  · rw [if_neg hc] at h
    exact Or.inr ⟨hc, List.map_eq_nil_iff.1 h⟩
/-- What a move makes of a map, by parts: what is ahead, what stays of the first, the new one, what stays of the last, what is behind. -/
structure MoveCut (d : List Pt) (x y : ByteArray) (g : Int) (f : ByteArray → Nat) (T : Nat) (pre mid post hp lp : List Pt) (c c' : Nat) : Prop where
  hd : d = pre ++ mid ++ post
  new : newL d x y g = pre ++ hp ++ [⟨x, y, g, min (mxE mid + 1) 2147483648⟩] ++ lp ++ post
  n1 : NCh c 0 (pre.map (nOf f T))
  n2 : NCh c' c (mid.map (nOf f T))
  n3 : NCh T c' (post.map (nOf f T))
  cx : c ≤ f x
  cy : en f T y ≤ c'
  p1 : ∀ p ∈ pre, tch x y p = false
  p2 : ∀ p ∈ mid, tch x y p = true
  p3 : ∀ p ∈ post, tch x y p = false
  ne : mid ≠ []
  h : hp.map (nOf f T) = if c < f x then [⟨c, f x, (mid.head?.map Pt.g).getD 0, (mid.head?.map Pt.e).getD 0⟩] else []
  l : lp.map (nOf f T) = if en f T y < c' then [⟨en f T y, c', (mid.getLast?.map Pt.g).getD 0, (mid.getLast?.map Pt.e).getD 0⟩] else []
  txt : ∀ p ∈ hp ++ lp, (p.f = x ∨ p.f = y ∨ p.f ∈ txsP d) ∧ (p.t = x ∨ p.t = y ∨ p.t ∈ txsP d) ∧ okS p.f = true ∧ okS p.t = true
  fl : mid.flatMap (pcs x y) = hp ++ lp
theorem move_cut {L : List ByteArray} {f : ByteArray → Nat} {T : Nat} (R : Ranks L f) (hT : ∀ s ∈ L, f s < T) {d : List Pt} {x y : ByteArray} (g : Int) (hx : x ∈ L) (hy : y ∈ L) (h0 : (⟨#[]⟩ : ByteArray) ∈ L) (hl : ∀ p ∈ d, p.f ∈ L ∧ p.t ∈ L) (hd : ChT ⟨#[]⟩ d) (hr : okR x y = true) :
    ∃ pre mid post hp lp c c', MoveCut d x y g f T pre mid post hp lp c c' := by
  obtain ⟨hne, hok, hch⟩ := (chT_num R hT h0 hl).1 hd
  rw [(rank_zero R h0).2 rfl] at hch
  have hxy : f x < en f T y := by
    have := hr
    rw [okR_en R hT hx hy] at this
    simp only [Bool.and_eq_true, decide_eq_true_eq] at this
    exact this.2.2
  obtain ⟨pre', mid', post', c, c', he, i1, i2, i3, i4, i5, i6, i7, i8, i9⟩ := nch_cut hxy (en_le hT hy) hch (Nat.zero_le _)
  obtain ⟨pm, post, hd1, hpm, rfl⟩ := List.map_eq_append_iff.1 he
  obtain ⟨pre, mid, rfl, rfl, rfl⟩ := List.map_eq_append_iff.1 hpm
  subst hd1
  have ht : ∀ p ∈ pre ++ mid ++ post, tch x y p = ntch (f x) (en f T y) (nOf f T p) := fun p hp => tch_num R hT (hl p hp).1 (hl p hp).2 hx hy (hok p hp) hr
  have t1 : ∀ p ∈ pre, tch x y p = false := fun p hp => by
    rw [ht p (by simp [hp])]
    have := i6 _ (List.mem_map_of_mem hp)
    simp only [ntch, decide_eq_false_iff_not]; omega
  have t2 : ∀ p ∈ mid, tch x y p = true := fun p hp => by
    rw [ht p (by simp [hp])]
    exact i7 _ (List.mem_map_of_mem hp)
  have t3 : ∀ p ∈ post, tch x y p = false := fun p hp => by
    rw [ht p (by simp [hp])]
    have := i8 _ (List.mem_map_of_mem hp)
    simp only [ntch, decide_eq_false_iff_not]; omega
  have hmn : mid ≠ [] := fun e => i9 (by rw [e]; rfl)
  have hleft : (mid.flatMap (pcs x y)).map (nOf f T) = (if c < f x then [⟨c, f x, (mid.head?.map Pt.g).getD 0, (mid.head?.map Pt.e).getD 0⟩] else []) ++ (if en f T y < c' then [⟨en f T y, c', (mid.getLast?.map Pt.g).getD 0, (mid.getLast?.map Pt.e).getD 0⟩] else []) := by
    have h1 := npc_cut hxy i2 i4 i7 i5 i9
    have h2 : (mid.flatMap (pcs x y)).map (nOf f T) = (mid.map (nOf f T)).flatMap (npc (f x) (en f T y)) := by
      rw [List.map_flatMap, List.flatMap_map]
      refine fm_congr ?_
      intro p hp
      have := hl p (by simp [hp])
      exact pcs_num R hT this.1 this.2 hx hy
    rw [h2, h1]
    simp only [List.head?_map, List.getLast?_map, Option.map_map]
    rfl
  obtain ⟨hp, lp, e1, e2, e3⟩ := List.map_eq_append_iff.1 hleft
  have htl := tl_mid t1 t2 t3
  have htx : ∀ p ∈ hp ++ lp, (p.f = x ∨ p.f = y ∨ p.f ∈ txsP (pre ++ mid ++ post)) ∧ (p.t = x ∨ p.t = y ∨ p.t ∈ txsP (pre ++ mid ++ post)) ∧ okS p.f = true ∧ okS p.t = true := by
    intro p hp'
    rw [← e1] at hp'
    obtain ⟨q, hq, hpq⟩ := List.mem_flatMap.1 hp'
    have hq' : q ∈ pre ++ mid ++ post := by simp [hq]
    have m1 := (txs_mem hq').1
    have m2 := (txs_mem hq').2
    have o := hok q hq'
    unfold pcs at hpq
    obtain ⟨s, hs, rfl⟩ := List.mem_map.1 hpq
    have ho := okR_outL (okR_left o) (okR_right o) (okR_left hr) (okR_right hr) s hs
    refine ⟨?_, ?_, ho⟩
    · unfold outL at hs
      rcases List.mem_append.1 hs with hs | hs
      · split at hs
        · rcases List.mem_singleton.1 hs with rfl; exact Or.inr (Or.inr m1)
        · cases hs
      · split at hs
        · rcases List.mem_singleton.1 hs with rfl
          rcases maxS_or q.f y with e | e
          · exact Or.inr (Or.inr (by simp only [e]; exact m1))
          · exact Or.inr (Or.inl (by simp only [e]))
        · cases hs
    · unfold outL at hs
      rcases List.mem_append.1 hs with hs | hs
      · split at hs
        · rcases List.mem_singleton.1 hs with rfl
          rcases minE_or x q.t with e | e
          · exact Or.inl (by simp only [e])
          · exact Or.inr (Or.inr (by simp only [e]; exact m2))
        · cases hs
      · split at hs
        · rcases List.mem_singleton.1 hs with rfl; exact Or.inr (Or.inr m2)
        · cases hs
  have hmem : ∀ p ∈ hp ++ lp, p.t ∈ L := fun p hp' => by
    rcases (htx p hp').2.1 with e | e | e
    · rw [e]; exact hx
    · rw [e]; exact hy
    · obtain ⟨q, hq, h⟩ := List.mem_flatMap.1 e
      simp at h
      rcases h with h | h <;> rw [h]
      · exact (hl q hq).1
      · exact (hl q hq).2
  have hat : atL x (hp ++ lp) = hp.length := by
    rcases map_nil_or e2 with ⟨hc, q, rfl, hq⟩ | ⟨hc, rfl⟩
    · have hqt : en f T q.t = f x := congrArg NP.b hq
      have hq0 : q.t ∈ L := hmem q (by simp)
      have h1 : q.t = x := by
        unfold en at hqt
        split at hqt
        · have := hT x hx; omega
        · exact rank_eq R hq0 hx hqt
      have h2 : x.toList ≠ [] := by
        intro e
        have : x = ⟨#[]⟩ := ba_eq (by rw [e, ByteArray.toList_eq])
        have := (rank_zero R hx).2 this
        omega
      simp [atL, h1, h2]
    · rcases map_nil_or e3 with ⟨hc2, q, rfl, hq⟩ | ⟨hc2, rfl⟩
      · have hqt : en f T q.t = c' := congrArg NP.b hq
        have : ¬ (q.t = x ∧ x.toList ≠ []) := by
          rintro ⟨rfl, h2⟩
          have h3 : f q.t ≠ 0 := fun e => h2 (by rw [(rank_zero R hx).1 e, ByteArray.toList_eq])
          have : en f T q.t = f q.t := by unfold en; rw [if_neg h3]
          omega
        simp only [List.nil_append, atL, if_neg this, List.length_nil]
      · rfl
  refine ⟨pre, mid, post, hp, lp, c, c', rfl, ?_, i1, i2, i3, i4, i5, t1, t2, t3, hmn, e2, e3, htx, e1⟩
  · unfold newL
    simp only [htl, leftL_ix, e1, fstL_ix _ _ hmn, lstL_ix _ _ hmn, hat]
    have : 0 < mid.length := List.length_pos_iff.2 hmn
    have e4 : (pre ++ mid ++ post).take (pre.length : Int).toNat = pre := by simp
    have e5 : (pre ++ mid ++ post).drop (((pre.length + mid.length - 1 : Nat) : Int).toNat + 1) = post := by
      rw [show (((pre.length + mid.length - 1 : Nat) : Int).toNat + 1) = (pre ++ mid).length by simp; omega]
      simp
    rw [e4, e5]
    have e6 : epL (ix pre.length mid) = mxE mid := epL_ix _ _ _
    rw [e6]
    simp
section
variable {L : List ByteArray} {f : ByteArray → Nat} {T : Nat}
theorem nch_at {T : Nat} : ∀ {a : Nat} {l : List NP} {K : Nat}, NCh T a l → a ≤ K → K < T → ∃ p ∈ l, p.a ≤ K ∧ K < p.b
  | a, [], K, h, h1, h2 => by have : a = T := h; omega
  | a, p :: l, K, ⟨h1, h2, h3⟩, h4, h5 => by
    by_cases hK : K < p.b
    · exact ⟨p, by simp, by omega, hK⟩
    · obtain ⟨q, hq, h⟩ := nch_at h3 (Nat.le_of_not_lt hK) h5
      exact ⟨q, List.mem_cons_of_mem _ hq, h⟩
theorem nch_uniq {T : Nat} (n : Pt → NP) : ∀ {a : Nat} {l : List Pt} {K : Nat}, NCh T a (l.map n) → ∀ p ∈ l, ∀ q ∈ l, (n p).a ≤ K → K < (n p).b → (n q).a ≤ K → K < (n q).b → p = q
  | a, [], K, _, p, hp, _, _, _, _, _, _ => by cases hp
  | a, r :: l, K, ⟨h1, h2, h3⟩, p, hp, q, hq, i1, i2, i3, i4 => by
    have hb := (nch_le h3).2
    rcases List.mem_cons.1 hp with rfl | hp'
    · rcases List.mem_cons.1 hq with rfl | hq'
      · rfl
      · have := hb _ (List.mem_map_of_mem hq'); omega
    · rcases List.mem_cons.1 hq with rfl | hq'
      · have := hb _ (List.mem_map_of_mem hp'); omega
      · exact nch_uniq n h3 p hp' q hq' i1 i2 i3 i4
theorem hasR_en (R : Ranks L f) (hT : ∀ s ∈ L, f s < T) {p : Pt} {k : ByteArray} (h1 : p.f ∈ L) (h2 : p.t ∈ L) (hk : k ∈ L) (hp : okR p.f p.t = true) (hn : isName k.data.toList = true) :
    hasR p.f p.t k = decide ((nOf f T p).a ≤ f k ∧ f k < (nOf f T p).b) := by
  rw [hasR_num R h1 h2 hk, hp, hn]
  have := name_pos R hk hn
  have := hT k hk
  simp only [Bool.true_and, nOf, en]
  congr 1
  apply propext
  split <;> omega
end
/-- The part that has a key. -/
def findP (d : List Pt) (k : ByteArray) : Option Pt := d.find? (fun p => hasR p.f p.t k)
def allL (d : List Pt) (x y k : ByteArray) : List ByteArray := ⟨#[]⟩ :: x :: y :: k :: txsP d
theorem allL_d {d : List Pt} {x y k : ByteArray} : ∀ p ∈ d, p.f ∈ allL d x y k ∧ p.t ∈ allL d x y k := fun p hp =>
  have h := txs_mem hp
  ⟨by simp [allL, h.1], by simp [allL, h.2]⟩
theorem chT_find {d : List Pt} {k : ByteArray} (hd : ChT ⟨#[]⟩ d) (hk : isName k.data.toList = true) : ∃ p, findP d k = some p ∧ p ∈ d ∧ hasR p.f p.t k = true ∧ ∀ q ∈ d, hasR q.f q.t k = true → q = p := by
  obtain ⟨f, T, R, hT⟩ := nums (allL d ⟨#[]⟩ ⟨#[]⟩ k)
  have h0 : (⟨#[]⟩ : ByteArray) ∈ allL d ⟨#[]⟩ ⟨#[]⟩ k := by simp [allL]
  have hkm : k ∈ allL d ⟨#[]⟩ ⟨#[]⟩ k := by simp [allL]
  obtain ⟨hne, hok, hch⟩ := (chT_num R hT h0 allL_d).1 hd
  rw [(rank_zero R h0).2 rfl] at hch
  have hh : ∀ p ∈ d, hasR p.f p.t k = decide ((nOf f T p).a ≤ f k ∧ f k < (nOf f T p).b) := fun p hp => hasR_en R hT (allL_d p hp).1 (allL_d p hp).2 hkm (hok p hp) hk
  obtain ⟨n, hn, h1, h2⟩ := nch_at hch (Nat.zero_le _) (hT k hkm)
  obtain ⟨p, hp, rfl⟩ := List.mem_map.1 hn
  have hpk : hasR p.f p.t k = true := by rw [hh p hp]; exact decide_eq_true ⟨h1, h2⟩
  have huq : ∀ q ∈ d, hasR q.f q.t k = true → q = p := fun q hq hqk => by
    rw [hh q hq] at hqk
    have := of_decide_eq_true hqk
    exact nch_uniq (nOf f T) hch q hq p hp this.1 this.2 h1 h2
  cases hf : findP d k with
  | none =>
    have := List.find?_eq_none.1 hf p hp
    simp [hpk] at this
  | some q =>
    have hq1 := List.mem_of_find?_eq_some hf
    have hq2 := List.find?_some hf
    have := huq q hq1 hq2
    subst this
    exact ⟨_, rfl, hq1, hq2, huq⟩
theorem chT_find_eq {d : List Pt} {k : ByteArray} (hd : ChT ⟨#[]⟩ d) (hk : isName k.data.toList = true) {p : Pt} (hp : p ∈ d) (h : hasR p.f p.t k = true) : findP d k = some p := by
  obtain ⟨q, hq, _, _, hu⟩ := chT_find hd hk
  rw [hu p hp h]; exact hq
/-- The epoch that a move gives. -/
def mvE (d : List Pt) (x y : ByteArray) : Int := min (mxE (d.filter (tch x y)) + 1) 2147483648
theorem filt_no {q : Pt → Bool} : ∀ {l : List Pt}, (∀ p ∈ l, q p = false) → l.filter q = []
  | [], _ => rfl
  | p :: l, h => by rw [List.filter_cons, h p (by simp)]; exact filt_no (fun r hr => h r (List.mem_cons_of_mem _ hr))
theorem filt_yes {q : Pt → Bool} : ∀ {l : List Pt}, (∀ p ∈ l, q p = true) → l.filter q = l
  | [], _ => rfl
  | p :: l, h => by rw [List.filter_cons, h p (by simp), if_pos rfl, filt_yes (fun r hr => h r (List.mem_cons_of_mem _ hr))]
theorem MoveCut.filt {d : List Pt} {x y : ByteArray} {g : Int} {f : ByteArray → Nat} {T : Nat} {pre mid post hp lp : List Pt} {c c' : Nat} (M : MoveCut d x y g f T pre mid post hp lp c c') : d.filter (tch x y) = mid := by
  rw [M.hd, List.filter_append, List.filter_append, filt_no M.p1, filt_yes M.p2, filt_no M.p3]; simp
/-- What a move makes of a map. -/
structure MoveSays (d : List Pt) (x y : ByteArray) (g : Int) : Prop where
  ch : ChT ⟨#[]⟩ (newL d x y g)
  len : (newL d x y g).length ≤ d.length + 2
  txt : ∀ p ∈ newL d x y g, (p.f = x ∨ p.f = y ∨ p.f ∈ txsP d) ∧ (p.t = x ∨ p.t = y ∨ p.t ∈ txsP d)
  grp : ∀ p ∈ newL d x y g, p = ⟨x, y, g, mvE d x y⟩ ∨ ∃ q ∈ d, q.g = p.g ∧ q.e = p.e
  mem : (⟨x, y, g, mvE d x y⟩ : Pt) ∈ newL d x y g
  ne : ∃ p ∈ d, tch x y p = true
  at' : ∀ k, isName k.data.toList = true → ∃ q, findP (newL d x y g) k = some q ∧ (hasR x y k = true → q = ⟨x, y, g, mvE d x y⟩) ∧ (hasR x y k = false → ∃ p, findP d k = some p ∧ p.g = q.g ∧ p.e = q.e)
theorem head_in {l : List Pt} (h : l ≠ []) : ∃ p ∈ l, l.head? = some p := by
  cases l with
  | nil => exact absurd rfl h
  | cons p l => exact ⟨p, by simp, rfl⟩
theorem last_in {l : List Pt} (h : l ≠ []) : ∃ p ∈ l, l.getLast? = some p := ⟨l.getLast h, List.getLast_mem h, List.getLast?_eq_some_getLast h⟩
theorem nch_head {T a : Nat} {l : List Pt} {n : Pt → NP} {p : Pt} (h : NCh T a (l.map n)) (hp : l.head? = some p) : (n p).a = a := by
  cases l with
  | nil => cases hp
  | cons q l => simp at hp; subst hp; exact h.1
theorem nch_last {T : Nat} {n : Pt → NP} {p : Pt} : ∀ {a : Nat} {l : List Pt}, NCh T a (l.map n) → l.getLast? = some p → (n p).b = T
  | a, [], h, hp => by cases hp
  | a, [q], h, hp => by simp at hp; subst hp; exact h.2.2
  | a, q :: r :: l, h, hp => nch_last (l := r :: l) h.2.2 (by rw [List.getLast?_cons_cons] at hp; exact hp)
theorem move_says {d : List Pt} {x y : ByteArray} (g : Int) (hd : ChT ⟨#[]⟩ d) (hr : okR x y = true) : MoveSays d x y g := by
  have main : ∀ k : ByteArray, ∃ (L : List ByteArray) (f : ByteArray → Nat) (T : Nat), Ranks L f ∧ (∀ s ∈ L, f s < T) ∧ x ∈ L ∧ y ∈ L ∧ k ∈ L ∧ (⟨#[]⟩ : ByteArray) ∈ L ∧ (∀ p ∈ d, p.f ∈ L ∧ p.t ∈ L) ∧ (∀ s ∈ txsP d, s ∈ L) := fun k => by
    obtain ⟨f, T, R, hT⟩ := nums (allL d x y k)
    exact ⟨_, f, T, R, hT, by simp [allL], by simp [allL], by simp [allL], by simp [allL], allL_d, fun s hs => by simp [allL, hs]⟩
  have shape : ∀ k : ByteArray, ∃ (L : List ByteArray) (f : ByteArray → Nat) (T : Nat) (pre mid post hp lp : List Pt) (c c' : Nat), Ranks L f ∧ (∀ s ∈ L, f s < T) ∧ x ∈ L ∧ y ∈ L ∧ k ∈ L ∧ (⟨#[]⟩ : ByteArray) ∈ L ∧ (∀ p ∈ d, p.f ∈ L ∧ p.t ∈ L) ∧ MoveCut d x y g f T pre mid post hp lp c c' ∧ (∀ p ∈ newL d x y g, p.f ∈ L ∧ p.t ∈ L) ∧ NCh T 0 ((newL d x y g).map (nOf f T)) ∧ (∀ p ∈ newL d x y g, okS p.f = true ∧ okS p.t = true) := fun k => by
    obtain ⟨L, f, T, R, hT, hx, hy, hk, h0, hl, ht⟩ := main k
    obtain ⟨pre, mid, post, hp, lp, c, c', M⟩ := move_cut R hT g hx hy h0 hl hd hr
    have hok := (chT_ok hd).2
    have hx1 : f x < en f T y := by
      have := hr
      rw [okR_en R hT hx hy] at this
      simp only [Bool.and_eq_true, decide_eq_true_eq] at this
      exact this.2.2
    refine ⟨L, f, T, pre, mid, post, hp, lp, c, c', R, hT, hx, hy, hk, h0, hl, M, ?_, ?_, ?_⟩
    · intro p hp'
      rw [M.new] at hp'
      have hpre : ∀ q ∈ pre, q ∈ d := fun q hq => by rw [M.hd]; simp [hq]
      have hpost : ∀ q ∈ post, q ∈ d := fun q hq => by rw [M.hd]; simp [hq]
      have hhl : ∀ q ∈ hp ++ lp, q.f ∈ L ∧ q.t ∈ L := fun q hq => by
        obtain ⟨a, b, _⟩ := M.txt q hq
        refine ⟨?_, ?_⟩
        · rcases a with a | a | a
          · rw [a]; exact hx
          · rw [a]; exact hy
          · exact ht _ a
        · rcases b with a | a | a
          · rw [a]; exact hx
          · rw [a]; exact hy
          · exact ht _ a
      simp only [List.mem_append, List.mem_singleton] at hp'
      rcases hp' with (((h | h) | h) | h) | h
      · exact hl p (hpre p h)
      · exact hhl p (by simp [h])
      · subst h; exact ⟨hx, hy⟩
      · exact hhl p (by simp [h])
      · exact hl p (hpost p h)
    · rw [M.new]
      simp only [List.map_append]
      have e1 : NCh (f x) c (hp.map (nOf f T)) := by
        rw [M.h]
        have := M.cx
        split
        · exact ⟨rfl, by assumption, rfl⟩
        · show c = f x; omega
      have e2 : NCh c' (en f T y) (lp.map (nOf f T)) := by
        rw [M.l]
        have := M.cy
        split
        · exact ⟨rfl, by assumption, rfl⟩
        · show en f T y = c'; omega
      exact nch_app (nch_app (nch_app (nch_app M.n1 e1) (m := [_]) ⟨rfl, hx1, rfl⟩) e2) M.n3
    · intro p hp'
      rw [M.new] at hp'
      have hpre : ∀ q ∈ pre, q ∈ d := fun q hq => by rw [M.hd]; simp [hq]
      have hpost : ∀ q ∈ post, q ∈ d := fun q hq => by rw [M.hd]; simp [hq]
      simp only [List.mem_append, List.mem_singleton] at hp'
      rcases hp' with (((h | h) | h) | h) | h
      · exact ⟨okR_left (hok p (hpre p h)), okR_right (hok p (hpre p h))⟩
      · exact (M.txt p (by simp [h])).2.2
      · subst h; exact ⟨okR_left hr, okR_right hr⟩
      · exact (M.txt p (by simp [h])).2.2
      · exact ⟨okR_left (hok p (hpost p h)), okR_right (hok p (hpost p h))⟩
  have hch : ChT ⟨#[]⟩ (newL d x y g) := by
    obtain ⟨L, f, T, pre, mid, post, hp, lp, c, c', R, hT, hx, hy, hk, h0, hl, M, hm, hn, ho⟩ := shape x
    refine (chT_num R hT h0 hm).2 ⟨by rw [M.new]; simp, fun p hp' => ?_, by rw [(rank_zero R h0).2 rfl]; exact hn⟩
    rw [okR_en R hT (hm p hp').1 (hm p hp').2, (ho p hp').1, (ho p hp').2]
    simp only [Bool.true_and, decide_eq_true_eq]
    exact ((nch_le hn).2 _ (List.mem_map_of_mem hp')).2.1
  have hhp : ∀ {f : ByteArray → Nat} {T : Nat} {pre mid post hp lp : List Pt} {c c' : Nat}, MoveCut d x y g f T pre mid post hp lp c c' → ∀ p ∈ hp, hp = [p] ∧ (nOf f T p).a = c ∧ (nOf f T p).b = f x ∧ ∃ q ∈ mid, q.g = p.g ∧ q.e = p.e ∧ (nOf f T q).a = c := by
    intro f T pre mid post hp lp c c' M p hp'
    obtain ⟨q, hq, hq2⟩ := head_in M.ne
    rcases map_nil_or M.h with ⟨_, r, rfl, hr'⟩ | ⟨_, rfl⟩
    · rcases List.mem_singleton.1 hp' with rfl
      refine ⟨rfl, by rw [hr'], by rw [hr'], q, hq, ?_, ?_, nch_head M.n2 hq2⟩
      · have := congrArg NP.g hr'; rw [hq2] at this; exact this.symm
      · have := congrArg NP.e hr'; rw [hq2] at this; exact this.symm
    · cases hp'
  have hlp : ∀ {f : ByteArray → Nat} {T : Nat} {pre mid post hp lp : List Pt} {c c' : Nat}, MoveCut d x y g f T pre mid post hp lp c c' → ∀ p ∈ lp, lp = [p] ∧ (nOf f T p).a = en f T y ∧ (nOf f T p).b = c' ∧ ∃ q ∈ mid, q.g = p.g ∧ q.e = p.e ∧ (nOf f T q).b = c' := by
    intro f T pre mid post hp lp c c' M p hp'
    obtain ⟨q, hq, hq2⟩ := last_in M.ne
    rcases map_nil_or M.l with ⟨_, r, rfl, hr'⟩ | ⟨_, rfl⟩
    · rcases List.mem_singleton.1 hp' with rfl
      refine ⟨rfl, by rw [hr'], by rw [hr'], q, hq, ?_, ?_, nch_last M.n2 hq2⟩
      · have := congrArg NP.g hr'; rw [hq2] at this; exact this.symm
      · have := congrArg NP.e hr'; rw [hq2] at this; exact this.symm
    · cases hp'
  have hE : ∀ {f : ByteArray → Nat} {T : Nat} {pre mid post hp lp : List Pt} {c c' : Nat}, MoveCut d x y g f T pre mid post hp lp c c' → min (mxE mid + 1) 2147483648 = mvE d x y := fun M => by
    unfold mvE; rw [M.filt]
  obtain ⟨L, f, T, pre, mid, post, hp, lp, c, c', R, hT, hx, hy, hk, h0, hl, M, hm, hn, ho⟩ := shape x
  have hN : (⟨x, y, g, mvE d x y⟩ : Pt) ∈ newL d x y g := by rw [M.new, hE M]; simp
  refine ⟨hch, ?_, ?_, ?_, hN, ?_, ?_⟩
  · rw [M.new]
    have h1 : hp.length ≤ 1 := by
      rcases map_nil_or M.h with ⟨_, r, rfl, _⟩ | ⟨_, rfl⟩ <;> simp
    have h2 : lp.length ≤ 1 := by
      rcases map_nil_or M.l with ⟨_, r, rfl, _⟩ | ⟨_, rfl⟩ <;> simp
    have h3 := List.length_pos_iff.2 M.ne
    have h4 := congrArg List.length M.hd
    simp only [List.length_append, List.length_singleton] at h4 ⊢
    omega
  · intro p hp'
    rw [M.new] at hp'
    simp only [List.mem_append, List.mem_singleton] at hp'
    have hpre : ∀ q ∈ pre, q ∈ d := fun q hq => by rw [M.hd]; simp [hq]
    have hpost : ∀ q ∈ post, q ∈ d := fun q hq => by rw [M.hd]; simp [hq]
    rcases hp' with (((h | h) | h) | h) | h
    · have := txs_mem (hpre p h); exact ⟨Or.inr (Or.inr this.1), Or.inr (Or.inr this.2)⟩
    · have := M.txt p (by simp [h]); exact ⟨this.1, this.2.1⟩
    · subst h; exact ⟨Or.inl rfl, Or.inr (Or.inl rfl)⟩
    · have := M.txt p (by simp [h]); exact ⟨this.1, this.2.1⟩
    · have := txs_mem (hpost p h); exact ⟨Or.inr (Or.inr this.1), Or.inr (Or.inr this.2)⟩
  · intro p hp'
    rw [M.new, hE M] at hp'
    simp only [List.mem_append, List.mem_singleton] at hp'
    have hmid : ∀ q ∈ mid, q ∈ d := fun q hq => by rw [M.hd]; simp [hq]
    rcases hp' with (((h | h) | h) | h) | h
    · exact Or.inr ⟨p, by rw [M.hd]; simp [h], rfl, rfl⟩
    · obtain ⟨_, _, _, q, hq, h1, h2, _⟩ := hhp M p h
      exact Or.inr ⟨q, hmid q hq, h1, h2⟩
    · exact Or.inl h
    · obtain ⟨_, _, _, q, hq, h1, h2, _⟩ := hlp M p h
      exact Or.inr ⟨q, hmid q hq, h1, h2⟩
    · exact Or.inr ⟨p, by rw [M.hd]; simp [h], rfl, rfl⟩
  · obtain ⟨q, hq, _⟩ := head_in M.ne
    exact ⟨q, by rw [M.hd]; simp [hq], M.p2 q hq⟩
  · intro k hkn
    obtain ⟨L, f, T, pre, mid, post, hp, lp, c, c', R, hT, hx, hy, hk, h0, hl, M, hm, hn, ho⟩ := shape k
    obtain ⟨q, hq1, hq2, hq3, hq4⟩ := chT_find hch hkn
    refine ⟨q, hq1, fun h => (hq4 _ hN h).symm, fun h => ?_⟩
    have hok := (chT_ok hd).2
    have hokn := (chT_ok hch).2
    have hh : ∀ p ∈ d, hasR p.f p.t k = decide ((nOf f T p).a ≤ f k ∧ f k < (nOf f T p).b) := fun p hp => hasR_en R hT (hl p hp).1 (hl p hp).2 hk (hok p hp) hkn
    have hq5 := hasR_en R hT (hm q hq2).1 (hm q hq2).2 hk (hokn q hq2) hkn
    rw [hq3] at hq5
    have hq6 := of_decide_eq_true hq5.symm
    have hmid : ∀ q ∈ mid, q ∈ d := fun q hq => by rw [M.hd]; simp [hq]
    have hq7 := hq2
    rw [M.new] at hq2
    simp only [List.mem_append, List.mem_singleton] at hq2
    have tmid : ∀ r ∈ mid, max (nOf f T r).a (f x) < min (nOf f T r).b (en f T y) := fun r hr => by
      have := M.p2 r hr
      rw [tch_num R hT (hl r (hmid r hr)).1 (hl r (hmid r hr)).2 hx hy (hok r (hmid r hr)) ‹_›] at this
      simpa [ntch] using this
    rcases hq2 with (((h' | h') | h') | h') | h'
    · have : q ∈ d := by rw [M.hd]; simp [h']
      exact ⟨q, chT_find_eq hd hkn this hq3, rfl, rfl⟩
    · obtain ⟨_, e1, e2, r, hr, h1, h2, h3⟩ := hhp M q h'
      have := tmid r hr
      exact ⟨r, chT_find_eq hd hkn (hmid r hr) (by rw [hh r (hmid r hr)]; exact decide_eq_true (by omega)), h1, h2⟩
    · subst h'; rw [hq3] at h; cases h
    · obtain ⟨_, e1, e2, r, hr, h1, h2, h3⟩ := hlp M q h'
      have := tmid r hr
      exact ⟨r, chT_find_eq hd hkn (hmid r hr) (by rw [hh r (hmid r hr)]; exact decide_eq_true (by omega)), h1, h2⟩
    · have : q ∈ d := by rw [M.hd]; simp [h']
      exact ⟨q, chT_find_eq hd hkn this hq3, rfl, rfl⟩
theorem ownL_all {o : Int} (ho : o ≠ 0) : ∀ (l : List Pt) (s : Nat), (∀ p ∈ l, p.g = o) → ownL (ix s l) o = some o
  | [], s, _ => rfl
  | p :: l, s, h => by
    have hp := h p (by simp)
    rw [ix, ownL, if_neg (by simp [hp])]
    simp only [hp]
    exact ownL_all ho l (s + 1) (fun q hq => h q (List.mem_cons_of_mem _ hq))
theorem ownL_not {o : Int} (ho : o ≠ 0) : ∀ (l : List Pt) (s : Nat), (∃ p ∈ l, p.g ≠ o) → ownL (ix s l) o = none
  | [], s, ⟨p, hp, _⟩ => by cases hp
  | p :: l, s, h => by
    rw [ix, ownL]
    by_cases hp : p.g = o
    · rw [if_neg (by simp [hp])]
      simp only [hp]
      obtain ⟨q, hq, hne⟩ := h
      rcases List.mem_cons.1 hq with rfl | hq'
      · exact absurd hp hne
      · exact ownL_not ho l (s + 1) ⟨q, hq', hne⟩
    · rw [if_pos ⟨ho, hp⟩]
/-- What Owner answers of a map whose parts follow one another. -/
theorem owner_chain {d : List Pt} {x y : ByteArray} (hd : ChT ⟨#[]⟩ d) (hr : okR x y = true) (hg : ∀ p ∈ d, 1 ≤ p.g) :
    (∃ o, 1 ≤ o ∧ (∀ p ∈ d, tch x y p = true → p.g = o) ∧ ownerV d x y = (o, true, 0)) ∨ ((∃ p ∈ d, ∃ q ∈ d, tch x y p = true ∧ tch x y q = true ∧ p.g ≠ q.g) ∧ ownerV d x y = (0, false, 0)) := by
  obtain ⟨f, T, R, hT⟩ := nums (allL d x y x)
  obtain ⟨pre, mid, post, hp, lp, c, c', M⟩ := move_cut R hT 1 (x := x) (y := y) (by simp [allL]) (by simp [allL]) (by simp [allL]) allL_d hd hr
  have hv : ownerV d x y = match ownL (ix pre.length mid) 0 with | none => (0, false, 0) | some o => (o, decide (0 < o), 0) := by
    unfold ownerV
    rw [if_neg (chT_ok hd).1, if_neg (by rw [hr]; simp)]
    have := tl_mid M.p1 M.p2 M.p3
    rw [← M.hd] at this
    rw [this]
    cases ownL (ix pre.length mid) 0 <;> rfl
  have hmid : ∀ q ∈ mid, q ∈ d := fun q hq => by rw [M.hd]; simp [hq]
  have hin : ∀ p ∈ d, tch x y p = true → p ∈ mid := fun p hp ht => by
    rw [← M.filt]; exact List.mem_filter.2 ⟨hp, ht⟩
  cases hm : mid with
  | nil => exact absurd hm M.ne
  | cons p l =>
    have hpg := hg p (hmid p (by rw [hm]; simp))
    rw [hm, ix, ownL, if_neg (by simp)] at hv
    by_cases ha : ∀ q ∈ l, q.g = p.g
    · left
      refine ⟨p.g, hpg, fun q hq ht => ?_, ?_⟩
      · have := hin q hq ht
        rw [hm] at this
        rcases List.mem_cons.1 this with rfl | h
        · rfl
        · exact ha q h
      · rw [hv, ownL_all (by omega) l _ ha]
        simp; omega
    · right
      have : ∃ q ∈ l, q.g ≠ p.g := Classical.byContradiction fun h => ha fun q hq => Classical.byContradiction fun h2 => h ⟨q, hq, h2⟩
      obtain ⟨q, hq, hne⟩ := this
      have h1 : p ∈ mid := by rw [hm]; simp
      have h2 : q ∈ mid := by rw [hm]; simp [hq]
      refine ⟨⟨q, hmid q h2, p, hmid p h1, M.p2 q h2, M.p2 p h1, hne⟩, ?_⟩
      rw [hv, ownL_not (by omega) l _ ⟨q, hq, hne⟩]
theorem owner_bad {d : List Pt} {x y : ByteArray} (hd : d ≠ []) (hr : okR x y = false) : ownerV d x y = (0, false, 2) := by
  unfold ownerV
  rw [if_neg hd, if_pos hr]
theorem mxE_ge : ∀ (l : List Pt) (m : Int), m ≤ l.foldl (fun m p => max m p.e) m ∧ ∀ p ∈ l, p.e ≤ l.foldl (fun m p => max m p.e) m
  | [], m => ⟨Int.le_refl _, fun p hp => by cases hp⟩
  | p :: l, m => by
    have := mxE_ge l (max m p.e)
    rw [List.foldl_cons]
    refine ⟨by omega, fun q hq => ?_⟩
    rcases List.mem_cons.1 hq with rfl | hq
    · omega
    · exact this.2 q hq
theorem mxE_le : ∀ (l : List Pt) (m b : Int), m ≤ b → (∀ p ∈ l, p.e ≤ b) → l.foldl (fun m p => max m p.e) m ≤ b
  | [], m, b, h, _ => h
  | p :: l, m, b, h, h2 => by
    rw [List.foldl_cons]
    have := h2 p (by simp)
    exact mxE_le l _ b (by omega) (fun q hq => h2 q (List.mem_cons_of_mem _ hq))
theorem mxE_mem : ∀ (l : List Pt) (m : Int), l.foldl (fun m p => max m p.e) m = m ∨ ∃ p ∈ l, l.foldl (fun m p => max m p.e) m = p.e
  | [], m => Or.inl rfl
  | p :: l, m => by
    rw [List.foldl_cons]
    rcases mxE_mem l (max m p.e) with h | ⟨q, hq, h⟩
    · rw [h]
      rcases Int.le_total p.e m with h1 | h1
      · left; omega
      · right; exact ⟨p, by simp, by omega⟩
    · exact Or.inr ⟨q, List.mem_cons_of_mem _ hq, h⟩
/-- A key of both: the range touches the part. -/
theorem tch_of_key {x y k : ByteArray} {p : Pt} (hp : okR p.f p.t = true) (hr : okR x y = true) (h1 : hasR p.f p.t k = true) (h2 : hasR x y k = true) : tch x y p = true := by
  have := (keys_law p.f p.t x y k hp hr).1
  rw [h1, h2] at this
  simp only [Bool.and_self, Bool.and_eq_true] at this
  unfold tch
  rw [hp, hr, this.1]; rfl
theorem key_of_tch {x y k : ByteArray} {p : Pt} (hp : okR p.f p.t = true) (hr : okR x y = true) (h : hasR (maxS p.f x) (minE p.t y) k = true) (ht : tch x y p = true) : hasR p.f p.t k = true ∧ hasR x y k = true := by
  have := (keys_law p.f p.t x y k hp hr).1
  unfold tch at ht
  simp only [Bool.and_eq_true] at ht
  rw [ht.2, h] at this
  simpa using this.symm
end Go.Proofs.YtkkkppbcjmeapaaDoor
