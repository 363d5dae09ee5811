/- Plain facts on the register of a checksum: steps are additive, so a matrix, the reference's products, joined parts and bursts are all sums of steps. No condition. -/
namespace Go.Proofs.YtdgloipckcjhaaaDoor.Crc

/-- One step of the register. -/
def step (r : Nat) : Nat := if r % 2 = 1 then (r / 2) ^^^ 3988292384 else r / 2
/-- So many steps. -/
def stepn : Nat → Nat → Nat
  | 0, r => r
  | k + 1, r => stepn k (step r)

theorem xor_lc (a b c : Nat) : a ^^^ (b ^^^ c) = b ^^^ (a ^^^ c) := by rw [← Nat.xor_assoc, Nat.xor_comm a b, Nat.xor_assoc]
theorem xor_can (a b : Nat) : a ^^^ (a ^^^ b) = b := by rw [← Nat.xor_assoc, Nat.xor_self, Nat.zero_xor]
theorem xor_mod2 (a b : Nat) : (a ^^^ b) % 2 = (a % 2 ^^^ b % 2) := by
  have := @Nat.xor_mod_two_pow a b 1
  simpa using this
theorem step_xor (a b : Nat) : step (a ^^^ b) = step a ^^^ step b := by
  unfold step
  rw [xor_mod2, Nat.xor_div_two]
  rcases Nat.mod_two_eq_zero_or_one a with ha | ha <;> rcases Nat.mod_two_eq_zero_or_one b with hb | hb <;> rw [ha, hb]
  · simp
  · simp [Nat.xor_assoc]
  · simp only [Nat.xor_zero, if_true, if_neg (show ¬ (0 : Nat) = 1 by decide)]
    ac_rfl
  · simp only [if_true]
    rw [show (1 ^^^ 1 : Nat) = 0 from rfl, if_neg (by decide)]
    have e : ∀ x y z : Nat, (x ^^^ z) ^^^ (y ^^^ z) = (x ^^^ y) ^^^ (z ^^^ z) := fun x y z => by ac_rfl
    rw [e, Nat.xor_self, Nat.xor_zero]
theorem stepn_xor (k : Nat) : ∀ a b : Nat, stepn k (a ^^^ b) = stepn k a ^^^ stepn k b := by
  induction k with
  | zero => intro a b; rfl
  | succ k ih => intro a b; simp only [stepn, step_xor, ih]
theorem stepn_add (a b r : Nat) : stepn (a + b) r = stepn a (stepn b r) := by
  induction b generalizing r with
  | zero => rfl
  | succ b ih => exact ih (step r)
theorem stepn_succ (k r : Nat) : stepn (k + 1) r = step (stepn k r) := by
  rw [Nat.add_comm, stepn_add]; rfl
theorem stepn_comm (a b r : Nat) : stepn a (stepn b r) = stepn b (stepn a r) := by
  rw [← stepn_add, ← stepn_add, Nat.add_comm]
theorem step_zero : step 0 = 0 := rfl
theorem stepn_zero (k : Nat) : stepn k 0 = 0 := by
  induction k with
  | zero => rfl
  | succ k ih => exact ih
theorem step_lt {r : Nat} (h : r < 4294967296) : step r < 4294967296 := by
  unfold step
  split
  · exact Nat.xor_lt_two_pow (n := 32) (by omega) (by decide)
  · omega
theorem stepn_lt (k : Nat) : ∀ {r : Nat}, r < 4294967296 → stepn k r < 4294967296 := by
  induction k with
  | zero => intro r h; exact h
  | succ k ih => intro r h; exact ih (step_lt h)
theorem step_double (w : Nat) : step (w * 2) = w := by
  unfold step
  rw [if_neg (by omega)]; omega
theorem stepn_shift (k w : Nat) : stepn k (w * 2 ^ k) = w := by
  induction k generalizing w with
  | zero => simp [stepn]
  | succ k ih =>
    show stepn k (step (w * 2 ^ (k + 1))) = w
    rw [show w * 2 ^ (k + 1) = (w * 2 ^ k) * 2 by rw [Nat.pow_succ, Nat.mul_assoc], step_double, ih]
theorem step_inj {r : Nat} (h : r < 4294967296) (h0 : step r = 0) : r = 0 := by
  unfold step at h0
  split at h0
  · have h1 : r / 2 = 3988292384 := by
      have := xor_can 3988292384 (r / 2)
      rw [Nat.xor_comm 3988292384 (r / 2), h0] at this
      exact this.symm
    omega
  · omega
theorem stepn_inj (k : Nat) : ∀ {r : Nat}, r < 4294967296 → stepn k r = 0 → r = 0 := by
  induction k with
  | zero => intro r _ h; exact h
  | succ k ih => intro r h h0; exact step_inj h (ih (step_lt h) h0)

/-- Bits that do not meet are added. -/
theorem mul_xor (k q s : Nat) (h : s < 2 ^ k) : q * 2 ^ k ^^^ s = q * 2 ^ k + s := by
  apply Nat.eq_of_testBit_eq
  intro i
  rw [Nat.testBit_xor, Nat.mul_comm, Nat.testBit_two_pow_mul_add _ h]
  by_cases hi : i < k
  · rw [if_pos hi, Nat.testBit_two_pow_mul]
    simp [Nat.not_le.2 hi]
  · rw [if_neg hi, Nat.testBit_two_pow_mul]
    have : s.testBit i = false := Nat.testBit_lt_two_pow (Nat.lt_of_lt_of_le h (Nat.pow_le_pow_right (by decide) (Nat.not_lt.1 hi)))
    simp [this, Nat.not_lt.1 hi]
theorem split_xor (k r : Nat) : r = r / 2 ^ k * 2 ^ k ^^^ r % 2 ^ k := by
  rw [mul_xor _ _ _ (Nat.mod_lt _ (Nat.two_pow_pos k)), Nat.mul_comm, Nat.div_add_mod]
theorem mod_succ (r k : Nat) : r % 2 ^ (k + 1) = r % 2 ^ k ^^^ (r / 2 ^ k % 2) * 2 ^ k := by
  rw [Nat.xor_comm, mul_xor _ _ _ (Nat.mod_lt _ (Nat.two_pow_pos k)), Nat.pow_succ, Nat.mod_mul, Nat.mul_comm (2 ^ k), Nat.add_comm]

/-- The table of four steps. -/
def fours : List Nat := [0, 498536548, 997073096, 651767980, 1994146192, 1802195444, 1303535960, 1342533948, 3988292384, 4027552580, 3604390888, 3412177804, 2607071920, 2262029012, 2685067896, 3183342108]
theorem fours_of : ∀ i, i < 16 → stepn 4 i = fours.getD i 0 := by decide
theorem four_steps (r : Nat) : r / 16 ^^^ fours.getD (r % 16) 0 = stepn 4 r := by
  rw [← fours_of _ (Nat.mod_lt _ (by decide))]
  conv => rhs; rw [split_xor 4 r, stepn_xor, stepn_shift]

/-- Two maps that are additive and agree on single bits agree. -/
theorem lin_ext (f g : Nat → Nat) (hf : ∀ a b, f (a ^^^ b) = f a ^^^ f b) (hg : ∀ a b, g (a ^^^ b) = g a ^^^ g b) (n : Nat) (h : ∀ i, i < n → f (2 ^ i) = g (2 ^ i)) : ∀ r, r < 2 ^ n → f r = g r := by
  have z (f : Nat → Nat) (hf : ∀ a b, f (a ^^^ b) = f a ^^^ f b) : f 0 = 0 := by
    have := hf 0 0
    rw [Nat.xor_self, Nat.xor_self] at this
    exact this
  induction n with
  | zero => intro r hr; obtain rfl : r = 0 := by simpa using hr
            rw [z f hf, z g hg]
  | succ n ih =>
    intro r hr
    have hr' : r % 2 ^ (n + 1) = r := Nat.mod_eq_of_lt hr
    have hm := mod_succ r n
    rw [hr'] at hm
    rw [hm, hf, hg, ih (fun i hi => h i (by omega)) _ (Nat.mod_lt _ (Nat.two_pow_pos n))]
    congr 1
    rcases Nat.mod_two_eq_zero_or_one (r / 2 ^ n) with e | e <;> rw [e]
    · rw [Nat.zero_mul, z f hf, z g hg]
    · rw [Nat.one_mul, h n (by omega)]

/-- What a matrix (its columns) makes of the lowest bits of a register. -/
def ofM (m : Nat → Nat) (r : Nat) : Nat → Nat
  | 0 => 0
  | i + 1 => ofM m r i ^^^ (if r / 2 ^ i % 2 = 1 then m i else 0)
theorem ofM_lin (f : Nat → Nat) (hf : ∀ a b, f (a ^^^ b) = f a ^^^ f b) (r : Nat) : ∀ k, ofM (fun i => f (2 ^ i)) r k = f (r % 2 ^ k) := by
  have z : f 0 = 0 := by
    have := hf 0 0
    rw [Nat.xor_self, Nat.xor_self] at this
    exact this
  intro k
  induction k with
  | zero => simp [ofM, Nat.mod_one, z]
  | succ k ih =>
    show ofM _ r k ^^^ _ = _
    rw [ih, mod_succ, hf]
    congr 1
    rcases Nat.mod_two_eq_zero_or_one (r / 2 ^ k) with e | e <;> rw [e]
    · simp [z]
    · simp
theorem ofM_stepn (j r : Nat) (h : r < 4294967296) : ofM (fun i => stepn j (2 ^ i)) r 32 = stepn j r := by
  rw [ofM_lin (stepn j) (stepn_xor j), Nat.mod_eq_of_lt (by simpa using h)]

/-- The reference's times, so many rounds of it. -/
def timesR (a b : Nat) : Nat → Nat
  | 0 => 0
  | j + 1 => timesR a b j ^^^ (if b / 2 ^ (31 - j) % 2 = 1 then stepn j a else 0)
theorem timesR_a (a c b : Nat) (j : Nat) : timesR (a ^^^ c) b j = timesR a b j ^^^ timesR c b j := by
  induction j with
  | zero => simp [timesR]
  | succ j ih =>
    simp only [timesR, ih]
    split
    · rw [stepn_xor]; ac_rfl
    · simp
theorem bit_xor (b c k : Nat) : (b ^^^ c) / 2 ^ k % 2 = (b / 2 ^ k % 2 ^^^ c / 2 ^ k % 2) := by
  rw [Nat.xor_div_two_pow, xor_mod2]
theorem timesR_b (a b c : Nat) (j : Nat) : timesR a (b ^^^ c) j = timesR a b j ^^^ timesR a c j := by
  induction j with
  | zero => simp [timesR]
  | succ j ih =>
    simp only [timesR, ih, bit_xor]
    rcases Nat.mod_two_eq_zero_or_one (b / 2 ^ (31 - j)) with hb | hb <;> rcases Nat.mod_two_eq_zero_or_one (c / 2 ^ (31 - j)) with hc | hc <;> rw [hb, hc]
    · simp
    · simp [Nat.xor_assoc]
    · simp only [Nat.xor_zero, if_true, if_neg (show ¬ (0 : Nat) = 1 by decide)]
      ac_rfl
    · simp only [if_true]
      rw [show (1 ^^^ 1 : Nat) = 0 from rfl, if_neg (by decide)]
      have e : ∀ x y z : Nat, (x ^^^ z) ^^^ (y ^^^ z) = (x ^^^ y) ^^^ (z ^^^ z) := fun x y z => by ac_rfl
      rw [e, Nat.xor_self]
theorem timesR_step (a b : Nat) (j : Nat) : timesR (step a) b j = step (timesR a b j) := by
  induction j with
  | zero => simp [timesR, step]
  | succ j ih =>
    simp only [timesR, ih, step_xor]
    congr 1
    split
    · show stepn (j + 1) a = _
      rw [stepn_succ]
    · rfl
theorem timesR_stepn (k a b : Nat) (j : Nat) : timesR (stepn k a) b j = stepn k (timesR a b j) := by
  induction k generalizing a with
  | zero => rfl
  | succ k ih => show timesR (stepn k (step a)) b j = stepn k (step (timesR a b j)); rw [ih, timesR_step]
theorem times_one : ∀ b, b < 4294967296 → timesR 2147483648 b 32 = b := by
  refine lin_ext (fun b => timesR 2147483648 b 32) (fun b => b) (fun b c => timesR_b _ b c 32) (fun _ _ => rfl) 32 ?_
  decide +kernel
theorem times_stepn (k a : Nat) (h : a < 4294967296) : timesR a (stepn k 2147483648) 32 = stepn k a := by
  refine lin_ext (fun a => timesR a (stepn k 2147483648) 32) (stepn k) (fun b c => timesR_a b c _ 32) (stepn_xor k) 32 ?_ a h
  intro i hi
  have h1 : 2 ^ i = stepn (31 - i) 2147483648 := by
    have : (2147483648 : Nat) = 2 ^ i * 2 ^ (31 - i) := by
      rw [← Nat.pow_add, show i + (31 - i) = 31 by omega]
    rw [this, stepn_shift]
  show timesR (2 ^ i) (stepn k 2147483648) 32 = stepn k (2 ^ i)
  rw [h1, timesR_stepn, times_one _ (stepn_lt k (by decide)), stepn_comm]

/-- Bytes, taken in one after the other. -/
def take (r c : Nat) : Nat := stepn 8 (r ^^^ c)
def many (r : Nat) (l : List Nat) : Nat := l.foldl take r
/-- Bytes as one number, the first one lowest. -/
def big : List Nat → Nat
  | [] => 0
  | c :: t => c ^^^ big t * 256
theorem many_big (l : List Nat) (r : Nat) : many r l = stepn (8 * l.length) (r ^^^ big l) := by
  induction l generalizing r with
  | nil => simp [many, big, stepn]
  | cons c t ih =>
    show many (take r c) t = _
    rw [ih, List.length_cons, Nat.mul_succ, stepn_add, big, ← Nat.xor_assoc, stepn_xor 8]
    congr 2
    rw [show (256 : Nat) = 2 ^ 8 from rfl, stepn_shift]
theorem many_append (r : Nat) (a b : List Nat) : many r (a ++ b) = many (many r a) b := List.foldl_append
theorem many_lt {r : Nat} {l : List Nat} (hr : r < 4294967296) (hl : ∀ c ∈ l, c < 256) : many r l < 4294967296 := by
  induction l generalizing r with
  | nil => exact hr
  | cons c t ih =>
    exact ih (stepn_lt 8 (Nat.xor_lt_two_pow (n := 32) hr (Nat.lt_of_lt_of_le (hl c (List.mem_cons_self ..)) (by decide)))) (fun x hx => hl x (List.mem_cons_of_mem _ hx))

/-- More, and Sum. -/
def more (s : Nat) (l : List Nat) : Nat := 4294967295 ^^^ many (4294967295 ^^^ s) l
def sum (l : List Nat) : Nat := more 0 l
def join (a b n : Nat) : Nat := stepn (8 * n) a ^^^ b

theorem parts (a b : List Nat) : more (sum a) b = sum (a ++ b) ∧ join (sum a) (sum b) b.length = sum (a ++ b) := by
  have h1 : more (sum a) b = sum (a ++ b) := by
    unfold sum more
    rw [xor_can, many_append]
  refine ⟨h1, ?_⟩
  rw [← h1]
  unfold join more
  generalize sum a = s
  unfold sum more
  rw [many_big, many_big, Nat.xor_zero, stepn_xor, stepn_xor, stepn_xor]
  ac_rfl
theorem join_join (a b c k l : Nat) : join (join a b k) c l = join a (join b c l) (k + l) := by
  unfold join
  rw [stepn_xor, ← stepn_add, Nat.mul_add, Nat.add_comm (8 * k), Nat.xor_assoc]
theorem join_zero (a b : Nat) : join a b 0 = a ^^^ b := rfl
theorem join_none (b n : Nat) : join 0 b n = b := by unfold join; rw [stepn_zero, Nat.zero_xor]

theorem big_xor : ∀ (a b c : List Nat), a.length = b.length → b.length = c.length → big (List.zipWith (· ^^^ ·) (List.zipWith (· ^^^ ·) a b) c) = big a ^^^ big b ^^^ big c
  | [], [], [], _, _ => rfl
  | x :: a, y :: b, z :: c, h1, h2 => by
    have ih := big_xor a b c (by simpa using h1) (by simpa using h2)
    simp only [List.zipWith_cons_cons, big, ih]
    have e : ∀ p q : Nat, (p ^^^ q) * 256 = p * 256 ^^^ q * 256 := fun p q => by
      have := @Nat.shiftLeft_xor_distrib 8 p q
      simpa [Nat.shiftLeft_eq] using this
    rw [e, e]
    ac_rfl
theorem three (a b c : List Nat) (h1 : a.length = b.length) (h2 : b.length = c.length) : sum a ^^^ sum b ^^^ sum c = sum (List.zipWith (· ^^^ ·) (List.zipWith (· ^^^ ·) a b) c) := by
  unfold sum more
  simp only [many_big, big_xor a b c h1 h2, Nat.xor_zero, stepn_xor, List.length_zipWith, h1, h2, Nat.min_self]
  generalize stepn (8 * c.length) 4294967295 = s
  generalize stepn (8 * c.length) (big a) = x
  generalize stepn (8 * c.length) (big b) = y
  generalize stepn (8 * c.length) (big c) = z
  have h3 : ∀ m p q u v : Nat, (m ^^^ (p ^^^ q)) ^^^ (m ^^^ (p ^^^ u)) ^^^ (m ^^^ (p ^^^ v)) = (m ^^^ (p ^^^ (q ^^^ u ^^^ v))) ^^^ ((m ^^^ m) ^^^ (p ^^^ p)) := fun m p q u v => by ac_rfl
  rw [h3, Nat.xor_self, Nat.xor_self, Nat.xor_self, Nat.xor_zero]

theorem big_set : ∀ (l : List Nat) (k x : Nat), k < l.length → big (l.set k (l.getD k 0 ^^^ x)) = big l ^^^ x * 2 ^ (8 * k)
  | c :: t, 0, x, _ => by simp only [List.set_cons_zero, List.getD_cons_zero, big, Nat.mul_zero, Nat.pow_zero, Nat.mul_one]; rw [Nat.xor_assoc, Nat.xor_assoc, Nat.xor_comm x]
  | c :: t, k + 1, x, h => by
    have ih := big_set t k x (by simpa using h)
    simp only [List.set_cons_succ, List.getD_cons_succ, big, ih]
    have e : ∀ p q : Nat, (p ^^^ q) * 256 = p * 256 ^^^ q * 256 := fun p q => by
      have := @Nat.shiftLeft_xor_distrib 8 p q
      simpa [Nat.shiftLeft_eq] using this
    rw [e, show 8 * (k + 1) = 8 * k + 8 from rfl, Nat.pow_add, ← Nat.mul_assoc, Nat.xor_assoc]
theorem burst (b c : List Nat) (w bit : Nat) (hw : w < 4294967296) (hl : c.length = b.length) (hbit : bit ≤ 8 * b.length) (h : big c = big b ^^^ w * 2 ^ bit) : sum b = sum c ↔ w = 0 := by
  unfold sum more
  simp only [many_big, h, hl, Nat.xor_zero]
  have e : stepn (8 * b.length) (w * 2 ^ bit) = stepn (8 * b.length - bit) w := by
    conv => lhs; rw [show 8 * b.length = (8 * b.length - bit) + bit by omega]
    rw [stepn_add, stepn_shift]
  rw [← Nat.xor_assoc 4294967295 (big b), stepn_xor _ (4294967295 ^^^ big b) (w * 2 ^ bit), e]
  generalize stepn (8 * b.length) (4294967295 ^^^ big b) = s
  constructor
  · intro hx
    have : stepn (8 * b.length - bit) w = 0 := by
      have h1 := congrArg (fun t => s ^^^ (4294967295 ^^^ t)) hx
      simp only [xor_can, Nat.xor_self] at h1
      exact h1.symm
    exact stepn_inj _ hw this
  · rintro rfl
    rw [stepn_zero, Nat.xor_zero]
end Go.Proofs.YtdgloipckcjhaaaDoor.Crc
