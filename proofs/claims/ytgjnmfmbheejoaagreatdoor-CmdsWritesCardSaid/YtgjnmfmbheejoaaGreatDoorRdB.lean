/- Merged by program: Nbr, Rdr, Rdr2. -/
import Derived.Test.YtgjnmfmbheejoaaGreatDoorWrA
import Derived.IntWalk
import Derived.Shelf.Bytes.SlEqualAll
import Derived.Outline
namespace Go.Proofs.YtgjnmfmbheejoaaGreatDoor
section
open Go.RowKit Go.Shelf

theorem pow128 (k : Nat) : (128 : Nat) ^ k = 2 ^ (7 * k) := by rw [Nat.pow_mul]
theorem low7 {c : Nat} (h : c < 256) : bits .andNot .u8 (c : Int) 128 = ((c % 128 : Nat) : Int) := by
  have e := u8_andNot_nat c 128 h (by decide)
  have e2 : c &&& (255 - 128) = c % 128 := Nat.and_two_pow_sub_one_eq_mod c 7
  rw [e2] at e
  exact e
theorem or_add {a d k : Nat} (ha : a < 128 ^ k) (hk : k ≤ 9) (hd : d < 128) (h9 : k = 9 → d ≤ 1) : bits .or .u64 (a : Int) ((d * 128 ^ k : Nat) : Int) = ((a + d * 128 ^ k : Nat) : Int) := by
  have p9 : (128 : Nat) ^ 9 = 9223372036854775808 := by decide
  have hp : (128 : Nat) ^ k ≤ 128 ^ 9 := Nat.pow_le_pow_right (by decide) hk
  have hb : d * 128 ^ k < 18446744073709551616 := by
    by_cases e : k = 9
    · have := h9 e; subst e; rw [p9]; omega
    · have h1 : (128 : Nat) ^ (k + 1) ≤ 128 ^ 9 := Nat.pow_le_pow_right (by decide) (by omega)
      rw [Nat.pow_succ, p9] at h1
      have h2 : d * 128 ^ k ≤ 127 * 128 ^ k := Nat.mul_le_mul_right _ (by omega)
      omega
  rw [u64_or_nat _ _ (by omega) hb, Nat.or_comm, nat_join (7 * k) (d * 128 ^ k) a (by rw [pow128]; exact Nat.mul_mod_left _ _) (by rw [← pow128]; exact ha), Nat.add_comm]
theorem shl_or {a d k : Nat} (ha : a < 128 ^ k) (hk : k ≤ 9) (hd : d < 128) (h9 : k = 9 → d ≤ 1) : bits .or .u64 (a : Int) (IntKind.u64.wrap (IntKind.u64.wrap (d : Int) * 2 ^ (7 * k))) = ((a + d * 128 ^ k : Nat) : Int) := by
  have p9 : (128 : Nat) ^ 9 = 9223372036854775808 := by decide
  have hb : d * 128 ^ k < 18446744073709551616 := by
    by_cases e : k = 9
    · have := h9 e; subst e; rw [p9]; omega
    · have h1 : (128 : Nat) ^ (k + 1) ≤ 128 ^ 9 := Nat.pow_le_pow_right (by decide) (by omega)
      rw [Nat.pow_succ, p9] at h1
      have h2 : d * 128 ^ k ≤ 127 * 128 ^ k := Nat.mul_le_mul_right _ (by omega)
      omega
  rw [← or_add ha hk hd h9]
  congr 1
  have h1 : IntKind.u64.wrap (d : Int) = (d : Int) := by rw [IntKind.wrap_u64]; omega
  have hc : (d : Int) * 2 ^ (7 * k) = ((d * 128 ^ k : Nat) : Int) := by rw [pow128]; simp
  rw [h1, hc, IntKind.wrap_u64]
  omega
/-- What number answers. -/
def nbV (l : List UInt8) : Nat × Nat := match uvR l with | none => (0, 0) | some p => p
theorem uvGo_stop {i n : Nat} {c : UInt8} {l : List UInt8} (h : (i = 9 ∧ 1 < c.toNat) ∨ (0 < i ∧ c.toNat = 0)) : uvGo i n (c :: l) = none := by rw [uvGo, if_pos h]
theorem uvGo_last {i n : Nat} {c : UInt8} {l : List UInt8} (h : ¬ ((i = 9 ∧ 1 < c.toNat) ∨ (0 < i ∧ c.toNat = 0))) (hc : c.toNat < 128) : uvGo i n (c :: l) = some (n + c.toNat * 128 ^ i, i + 1) := by rw [uvGo, if_neg h, if_pos hc]
theorem uvGo_next {i n : Nat} {c : UInt8} {l : List UInt8} (h : ¬ ((i = 9 ∧ 1 < c.toNat) ∨ (0 < i ∧ c.toNat = 0))) (hc : ¬ c.toNat < 128) : uvGo i n (c :: l) = uvGo (i + 1) (n + (c.toNat - 128) * 128 ^ i) l := by rw [uvGo, if_neg h, if_neg hc]

set_option maxRecDepth 100000 in
set_option maxHeartbeats 8000000 in
theorem number_any (A : Option Addr) (n cap : Nat) (l : List UInt8) (w : World) (h : SlB w A n l) (hn : n ≤ 1000000000000) :
    Calls Tryz.prog 120 #[.slice A n cap] w fun e w' => e = .returned (.tuple #[.int .u64 ((nbV l).1 : Int), .int .i64 ((nbV l).2 : Int)]) ∧ w = w' := by
  generalize hq : nbV l = q
  have HQ := Lib.hid hq
  have HS := Lib.hid h
  have HL := Lib.hid h.1
  clear hq h
  go_enter Tryz.func120, Tryz.ntmps120
  go_wp2
  go_loop [4, 9] (fun a i => ∃ k acc : Nat, k ≤ n ∧ k ≤ 9 ∧ i = .int .i64 k ∧ a = .int .u64 acc ∧ Hid (acc < 128 ^ k ∧ uvR l = uvGo k acc (l.drop k))) (fun _ i => n - (intOf i).toNat)
  case atStart => exact ⟨0, 0, Nat.zero_le _, Nat.zero_le _, rfl, rfl, Lib.hid ⟨by decide, rfl⟩⟩
  case round =>
    obtain ⟨k, acc, hk, hk9, rfl, rfl, HU⟩ := hrel
    by_cases hlt : k < n
    · obtain ⟨c, hc⟩ : ∃ c, l[k]? = some c := ⟨_, List.getElem?_eq_getElem (show k < l.length by rw [HL.out]; exact hlt)⟩
      obtain ⟨g, o, rfl, hcell⟩ := HS.out.2 k c hc
      have hd : l.drop k = c :: l.drop (k + 1) := by
        obtain ⟨hx, rfl⟩ := List.getElem?_eq_some_iff.1 hc
        exact List.drop_eq_getElem_cons hx
      unfold u8V at hcell
      have hcl := c.toNat_lt
      have HV : Hid (uvR l = uvGo k acc (c :: l.drop (k + 1))) := Lib.hid (by rw [HU.out.2, hd])
      have HA := Lib.hid HU.out.1
      clear hd hc HU
      by_cases hst : (k = 9 ∧ 1 < c.toNat) ∨ (0 < k ∧ c.toNat = 0)
      · have HE : Hid (q = (0, 0)) := Lib.hid (by rw [← HQ.out]; unfold nbV; rw [HV.out, uvGo_stop hst])
        generalize c.toNat = x at hcell hcl hst
        clear HV HQ
        rcases hst with ⟨h9, h1⟩ | ⟨h0, h1⟩
        · subst h9
          go_wp2
          go_ret2
          exact ⟨by rw [HE.out]; rfl, rfl⟩
        · subst h1
          have e9 : ((k : Int) == 9) = true ∨ ((k : Int) == 9) = false := by cases ((k : Int) == 9) <;> simp
          rcases e9 with e9 | e9
          all_goals
            go_wp2
            go_ret2
            exact ⟨by rw [HE.out]; rfl, rfl⟩
      · have h9 : k = 9 → c.toNat ≤ 1 := fun e => by
          rcases Nat.lt_or_ge 1 c.toNat with h1 | h1
          · exact absurd (Or.inl ⟨e, h1⟩) hst
          · exact h1
        have h0 : 0 < k → c.toNat ≠ 0 := fun e e2 => hst (Or.inr ⟨e, e2⟩)
        have e29 := low7 (c := c.toNat) (by omega)
        have e34 := shl_or (d := c.toNat % 128) HA.out hk9 (by omega) (fun e => by have := h9 e; omega)
        obtain ⟨sh, hsh⟩ : ∃ sh : Nat, sh = c.toNat % 128 * 128 ^ k := ⟨_, rfl⟩
        obtain ⟨ac, hac⟩ : ∃ ac : Nat, ac = acc + sh := ⟨_, rfl⟩
        obtain ⟨d, hd⟩ : ∃ d : Nat, d = c.toNat % 128 := ⟨_, rfl⟩
        rw [← hsh, ← hac] at e34
        rw [← hd] at e29 e34
        have hw : IntKind.i64.wrap ((k : Int) + 1) = (k : Int) + 1 := IntWalk.i64_in _ (by omega)
        by_cases h128 : c.toNat < 128
        · have HE : Hid (q = (ac, k + 1)) := Lib.hid (by rw [← HQ.out]; unfold nbV; rw [HV.out, uvGo_last hst h128, hac, hsh, Nat.mod_eq_of_lt h128])
          clear HV HQ HA hst hsh hac hd
          have t9 : (k = 9 ∧ c.toNat ≤ 1) ∨ k ≠ 9 := by omega
          have t0 : (k = 0) ∨ (0 < k ∧ c.toNat ≠ 0) := by omega
          clear h9 h0
          generalize c.toNat = x at hcell hcl h128 e29 t9 t0
          have f9 : (((k : Int) == 9) = true ∧ (x : Int) ≤ 1) ∨ ((k : Int) == 9) = false := by
            rcases t9 with ⟨e, h⟩ | e
            · exact .inl ⟨by rw [beq_iff_eq]; omega, by omega⟩
            · exact .inr (by rw [beq_eq_false_iff_ne]; omega)
          have f0 : (k : Int) ≤ 0 ∨ (0 < (k : Int) ∧ ((x : Int) == 0) = false) := by
            rcases t0 with e | ⟨e, h⟩
            · exact .inl (by omega)
            · exact .inr ⟨by omega, by rw [beq_eq_false_iff_ne]; omega⟩
          clear t9 t0
          rcases f9 with ⟨f9, f1⟩ | f9 <;> rcases f0 with f0 | ⟨f0, f2⟩
          all_goals
            go_wp2
            go_ret2
            exact ⟨by rw [HE.out]; rfl, rfl⟩
        · have HN : Hid (ac < 128 ^ (k + 1) ∧ uvR l = uvGo (k + 1) ac (l.drop (k + 1))) := Lib.hid ⟨by
            rw [hac, hsh, Nat.pow_succ]
            have h1 := HA.out
            have h2 : c.toNat % 128 * 128 ^ k ≤ 127 * 128 ^ k := Nat.mul_le_mul_right _ (by omega)
            omega, by
            rw [HV.out, uvGo_next hst h128, hac, hsh]
            congr 2
            congr 1
            omega⟩
          have hk8 : k ≤ 8 := by
            rcases Nat.lt_or_ge k 9 with h1 | h1
            · omega
            · have := h9 (by omega); omega
          clear HV HQ HA hst hsh hac hd
          have t0 : (k = 0) ∨ (0 < k ∧ c.toNat ≠ 0) := by omega
          clear h9 h0
          generalize c.toNat = x at hcell hcl h128 e29 t0
          have f9 : ((k : Int) == 9) = false := by rw [beq_eq_false_iff_ne]; omega
          have f0 : (k : Int) ≤ 0 ∨ (0 < (k : Int) ∧ ((x : Int) == 0) = false) := by
            rcases t0 with e | ⟨e, h⟩
            · exact .inl (by omega)
            · exact .inr ⟨by omega, by rw [beq_eq_false_iff_ne]; omega⟩
          clear t0
          rcases f0 with f0 | ⟨f0, f2⟩
          all_goals
            go_wp2
            go_round
            case rel => exact ⟨k + 1, ac, by omega, by omega, by go_num, rfl, HN⟩
            case measure => simp [intOf]; omega
    · obtain rfl : k = n := by omega
      have HE : Hid (q = (0, 0)) := Lib.hid (by rw [← HQ.out]; unfold nbV; rw [HU.out.2, List.drop_eq_nil_of_le (by rw [HL.out]; exact Nat.le_refl _)]; rfl)
      clear HU HQ
      go_wp2
      go_ret2
      exact ⟨by rw [HE.out]; rfl, rfl⟩
end
section
open Go.RowKit Go.Shelf

/-- A reader in memory: what it has left. -/
def RdP (W : World) (C : Nat) (st : WS) : Prop := ∃ A n c, Whole W C 150 #[.bool true, .bool st.isNone, .slice A n c] ∧ n ≤ c ∧ n ≤ 1000000000000 ∧ ((st = none → A = none ∧ n = 0 ∧ c = 0) ∧ ∀ a : Addr, A = some a → a.block < C) ∧ ∀ l, st = some l → SlB W A n l
theorem RdP.lt {W : World} {C : Nat} {st : WS} (h : RdP W C st) : C < W.heap.size := by obtain ⟨_, _, _, h1, _⟩ := h; exact h1.lt
theorem slB_ne {W : World} {C n : Nat} {A : Option Addr} {l : List UInt8} {t : TypeId} {x y z : Value} (hC : Whole W C t #[x, y, z]) (hx : ∀ k i, x ≠ .int k i) (hy : ∀ k i, y ≠ .int k i) (hz : ∀ k i, z ≠ .int k i) (h : SlB W A n l) : ∀ a : Addr, A = some a → l ≠ [] → some a.block ≠ some C := by
  rintro a rfl hl e
  obtain ⟨c, hc⟩ : ∃ c, l[0]? = some c := by cases l with | nil => exact absurd rfl hl | cons c l => exact ⟨c, rfl⟩
  obtain ⟨g, o, he, hcell⟩ := h.2 0 c hc
  cases he
  cases e
  rw [hC.cell] at hcell
  match o with
  | 0 => exact hx _ _ (by simpa [u8V] using hcell)
  | 1 => exact hy _ _ (by simpa [u8V] using hcell)
  | 2 => exact hz _ _ (by simpa [u8V] using hcell)
  | o + 3 => simp at hcell
theorem RdP.keep {W W' : World} {C : Nat} {st : WS} (h : RdP W C st) (hb : Below W.heap.size W W') : RdP W' C st := by
  obtain ⟨A, n, c, h1, h2, h3, h4, h5⟩ := h
  exact ⟨A, n, c, h1.keep hb, h2, h3, h4, fun l e => (h5 l e).keep hb⟩
theorem sliced_B {w : World} {A : Option Addr} {n c lo hi mx : Nat} {l : List UInt8} (h : SlB w A n l) (h1 : lo ≤ hi) (h2 : hi ≤ n) (h3 : n ≤ c) (hm : mx = c) : ∃ A', sliced A lo hi mx 1 = .slice A' (hi - lo) (mx - lo) ∧ SlB w A' (hi - lo) ((l.take hi).drop lo) := by
  subst hm
  refine ⟨_, rfl, ?_, fun i x hi' => ?_⟩
  · rw [List.length_drop, List.length_take, h.1, Nat.min_eq_left h2]
  · rw [List.getElem?_drop] at hi'
    rw [List.getElem?_take] at hi'
    split at hi'
    case isFalse => cases hi'
    rename_i hlt
    obtain ⟨g, o, rfl, hc⟩ := h.2 _ x hi'
    by_cases e : mx = lo
    · omega
    · rw [if_neg e]
      by_cases e0 : lo = 0
      · subst e0
        refine ⟨g, o, by simp [Addr.add], by rw [Nat.zero_add] at hc; exact hc⟩
      · refine ⟨g, o + lo, by simp [Addr.add, e0], by rw [← Nat.add_assoc] at hc; exact hc⟩
theorem sliced_blk {A A' : Option Addr} {lo hi mx n' c' C : Nat} (h : sliced A lo hi mx 1 = .slice A' n' c') (hb : ∀ a : Addr, A = some a → a.block < C) : ∀ a : Addr, A' = some a → a.block < C := by
  intro a ha
  subst ha
  unfold sliced at h
  injection h with h1
  split at h1
  · exact hb a h1
  · cases A with
    | none => simp at h1
    | some b =>
      simp only [Option.map_some, Option.some.injEq] at h1
      rw [← h1]
      have := hb b rfl
      unfold Addr.add
      split <;> exact this
/-- A cut of bytes. -/
theorem cut_bytes (A : Option Addr) (n c lo : Nat) (h1 : lo ≤ n) (w : World) : (Instr.slice 22 (.slice A n c) (some (.int .i64 (lo : Int))) none none).run Tryz.prog w = .ok (sliced A lo n c 1) w := by
  have hs : (sizeOf (Tryz.prog.elem 22)).run Tryz.prog w = .ok 1 w := by kernel_rfl
  have hu : Tryz.prog.underlying 22 = some (.slice (Tryz.prog.elem 22)) := by kernel_rfl
  rw [run_slice_l w 22 A n c hu .i64 (lo : Int) (by omega) (by omega), hs]
  rfl
theorem cut_bytes2 (A : Option Addr) (n c lo hi : Nat) (h1 : lo ≤ hi) (h2 : hi ≤ c) (w : World) : (Instr.slice 22 (.slice A n c) (some (.int .i64 (lo : Int))) (some (.int .i64 (hi : Int))) none).run Tryz.prog w = .ok (sliced A lo hi c 1) w := by
  have hs : (sizeOf (Tryz.prog.elem 22)).run Tryz.prog w = .ok 1 w := by kernel_rfl
  have hu : Tryz.prog.underlying 22 = some (.slice (Tryz.prog.elem 22)) := by kernel_rfl
  rw [run_slice_lh w 22 A n c hu .i64 .i64 (lo : Int) (hi : Int) (by omega) (by omega) (by omega), hs]
  rfl
set_option maxRecDepth 100000 in
theorem conv_bytes {w : World} {A : Option Addr} {n : Nat} {l : List UInt8} (h : SlB w A n l) (c : Nat) : (convert 22 9 (.slice A n c)).run Tryz.prog w = .ok (.string ⟨l.toArray⟩) w := by
  have hB : Lib.BytesIn w A n (l.map fun c => (c.toNat : Int)) := fun hn => by
    obtain ⟨g, o, rfl, hc⟩ := slB_at h hn
    refine ⟨g, o, rfl, fun i hi => ?_⟩
    have hx := List.getElem?_eq_getElem (show i < l.length by have := h.1; omega)
    rw [hc i _ hx, List.getD_eq_getElem?_getD, List.getElem?_map, hx]
    rfl
  have := hB.convert (P := Tryz.prog) (by rw [List.length_map]; exact h.1) c 22 5 9 Tryz.underlying22 Tryz.underlying5 Tryz.underlying9
  rw [this]
  congr 2
  unfold strOfNums
  congr 2
  rw [List.map_map]
  conv => rhs; rw [← List.map_id l]
  exact List.map_congr_left fun x _ => by simp

theorem own_slice {w : World} {base n size : Nat} {e : TypeId} {v : Value} {xs : List Value} (h : w.ownsRow base e size v n xs) : ∃ A c, v = .slice A n c ∧ n ≤ c := by
  rcases h.2 with ⟨e, h0⟩ | ⟨g, cap, cur, e, _, _, hc, _⟩
  · exact ⟨none, 0, by rw [e, h0], by omega⟩
  · exact ⟨_, _, e, hc⟩
theorem read_any (A : Option Addr) (n c : Nat) (l : List UInt8) (w : World) (h : SlB w A n l) (hn : n ≤ 1000000000000) :
    Calls Tryz.prog 46 #[.slice A n c] w fun e w' => (∃ C, e = .returned (.pointer (some ⟨C, 0, none⟩)) ∧ w.heap.size ≤ C ∧ RdP w' C (some l)) ∧ Below w.heap.size w w' := by
  have B := Lib.hid (bclone_any A n c l w h hn)
  have HL := Lib.hid h.1
  clear h
  go_enter Tryz.func46, Tryz.ntmps46
  go_wp2_with (go_at_call 13; refine B.out.mono ?_; rintro e w1 ⟨⟨v1, rfl, ho⟩, hB⟩; obtain ⟨A1, c1, rfl, hc1⟩ := own_slice ho)
  go_ret
  refine ⟨⟨_, rfl, hB.size, A1, n, c1, Whole.new w1 _ _, hc1, hn, ⟨(fun e => by cases e), fun a e => by subst e; exact (ho.lt a.block rfl).2⟩, (fun l' e => by cases e; exact (SlB.of_own ho).keep ((Below.refl _ _).alloc (Nat.le_refl _) _))⟩, hB.alloc hB.size _⟩
set_option maxHeartbeats 1000000 in
theorem rfail_any (C : Nat) (st : WS) (w : World) (h : RdP w C st) :
    Calls Tryz.prog 101 #[.pointer (some ⟨C, 0, none⟩)] w fun e w' => e = .returned (.tuple #[]) ∧ RdP w' C none ∧ w.grownBy w' (some C) := by
  obtain ⟨A, n, c, h1, _⟩ := h
  have c0 := h1.cell 0
  have c1 := h1.cell 1
  have c2 := h1.cell 2
  have f1 := h1.fr 1
  have f2 := h1.fr 2
  simp only [List.getElem?_toArray, List.getElem?_cons_succ, List.getElem?_cons_zero] at c0 c1 c2
  have HF : Hid (RdP ((w.setCell ⟨C, 1, none⟩ (.bool true)).setCell ⟨C, 2, none⟩ (.slice none 0 0)) C none ∧ w.grownBy ((w.setCell ⟨C, 1, none⟩ (.bool true)).setCell ⟨C, 2, none⟩ (.slice none 0 0)) (some C)) :=
    Lib.hid ⟨⟨none, 0, 0, by simpa using (h1.put 1 (.bool true)).put 2 (.slice none 0 0), Nat.le_refl _, by omega, ⟨fun _ => ⟨rfl, rfl, rfl⟩, fun a e => by cases e⟩, fun l e => by cases e⟩, grown_set (grown_set (World.grownBy.refl w _) 1 _) 2 _⟩
  have d2 : (w.setCell ⟨C, 1, none⟩ (.bool true)).cell? ⟨C, 2, none⟩ = some (.slice A n c) := by
    have := (h1.put 1 (.bool true)).cell 2
    simpa using this
  clear h1
  go_enter Tryz.func101, Tryz.ntmps101
  go_wp2
  go_end0
  exact ⟨rfl, HF.out⟩

/-- What taking answers, and what it leaves. -/
def tkV (z : Value) (rv : List UInt8 → Value × Nat) : WS → Value
  | none => z
  | some l => if (rv l).2 = 0 then z else (rv l).1
def tkS (rv : List UInt8 → Value × Nat) : WS → WS
  | none => none
  | some l => if (rv l).2 = 0 then none else some (l.drop (rv l).2)
theorem tk_no {z : Value} {rv : List UInt8 → Value × Nat} {l : List UInt8} (h : (rv l).2 = 0) : tkV z rv (some l) = z ∧ tkS rv (some l) = none := ⟨if_pos h, if_pos h⟩
theorem tk_yes {z : Value} {rv : List UInt8 → Value × Nat} {l : List UInt8} (h : ¬ (rv l).2 = 0) : tkV z rv (some l) = (rv l).1 ∧ tkS rv (some l) = some (l.drop (rv l).2) := ⟨if_neg h, if_neg h⟩
/-- A call of a reader that goes on: what is left. -/
theorem RdP.step {w : World} {C : Nat} {A A' : Option Addr} {n c n' c' : Nat} {l' : List UInt8} (h : Whole w C 150 #[.bool true, .bool false, .slice A n c]) (hn : n ≤ 1000000000000) (h1 : n' ≤ c') (h2 : n' ≤ n) (hs : SlB w A' n' l') (hk : ∀ a : Addr, A' = some a → a.block < C) :
    RdP (w.setCell ⟨C, 2, none⟩ (.slice A' n' c')) C (some l') ∧ w.grownBy (w.setCell ⟨C, 2, none⟩ (.slice A' n' c')) (some C) :=
  ⟨⟨A', n', c', by simpa using h.put 2 (.slice A' n' c'), h1, by omega, ⟨(fun e => by cases e), hk⟩, (fun l2 e => by
    cases e
    exact hs.grown (grown_set (World.grownBy.refl w (some C)) 2 _) (slB_ne h (by intros; simp) (by intros; simp) (by intros; simp) hs))⟩, grown_set (World.grownBy.refl w (some C)) 2 _⟩
set_option maxRecDepth 100000 in
set_option maxHeartbeats 4000000 in
/-- A value that is taken by a function that reads it, and how many bytes it has. -/
theorem tstr_any (C : Nat) (st : WS) (rv : List UInt8 → Value × Nat) (w : World) (h : RdP w C st) (hle : ∀ l, (rv l).2 ≤ l.length)
    (hr : ∀ A n c l, SlB w A n l → n ≤ c → n ≤ 1000000000000 → Calls Tryz.prog 123 #[.slice A n c] w fun e w' => e = .returned (.tuple #[(rv l).1, .int .i64 ((rv l).2 : Int)]) ∧ w = w') :
    Calls Tryz.prog 122 #[.pointer (some ⟨C, 0, none⟩), .func (.func 123) #[] #[]] w fun e w' =>
      e = .returned (tkV (.string ⟨#[]⟩) rv st) ∧ RdP w' C (tkS rv st) ∧ w.grownBy w' (some C) := by
  have H := Lib.hid h
  obtain ⟨A, n, c, h1, h2, h3, h4, h5⟩ := id h
  have c0 := h1.cell 0
  have c1 := h1.cell 1
  have c2 := h1.cell 2
  have f2 := h1.fr 2
  simp only [List.getElem?_toArray, List.getElem?_cons_succ, List.getElem?_cons_zero] at c0 c1 c2
  cases st with
  | none =>
    simp only [Option.isNone_none] at c1
    clear h1 h2 h3 h4 h5 h hr hle
    go_enter Tryz.func122, Tryz.ntmps122
    go_wp2_with fail
    go_ret
    exact ⟨rfl, H.out, World.grownBy.refl _ _⟩
  | some l =>
    simp only [Option.isNone_some] at c1 h1
    have R := Lib.hid (hr A n c l (h5 l rfl) h2 h3)
    have HB := h5 l rfl
    have hk := hle l
    have hL := HB.1
    by_cases h0 : (rv l).2 = 0
    · have F := Lib.hid (rfail_any C (some l) w H.out)
      have R2 : Hid (Calls Tryz.prog 123 #[.slice A n c] w fun e w' => e = .returned (.tuple #[(rv l).1, .int .i64 0]) ∧ w = w') := Lib.hid (by have := R.out; rw [h0] at this; exact this)
      have HT := Lib.hid (tk_no (z := (.string ⟨#[]⟩)) h0)
      rw [HT.out.1, HT.out.2]
      generalize (rv l).1 = v at R2
      clear h1 h2 h3 h4 h5 h hr hle R HB hk hL
      go_enter Tryz.func122, Tryz.ntmps122
      go_wp2_with (first
        | (go_at_call 123; refine R2.out.mono ?_; rintro e w1 ⟨rfl, rfl⟩)
        | (go_at_call 101; refine F.out.mono ?_; rintro e w1 ⟨rfl, hP, hg⟩))
      go_ret
      exact ⟨rfl, hP, hg⟩
    · obtain ⟨A', hA', hB'⟩ := sliced_B (lo := (rv l).2) (hi := n) HB (by omega) (Nat.le_refl _) h2 rfl
      have hS := RdP.step (A' := A') (n' := n - (rv l).2) (c' := c - (rv l).2) h1 h3 (by omega) (by omega) hB' (sliced_blk hA' h4.2)
      rw [List.take_of_length_le (by omega)] at hS
      have hcut := fun W => cut_bytes A n c (rv l).2 (by omega) W
      rw [hA'] at hcut
      have HS := Lib.hid hS
      have hne : (((rv l).2 : Int) == 0) = false := by rw [beq_eq_false_iff_ne]; omega
      have HT := tk_yes (z := (.string ⟨#[]⟩)) h0
      rw [HT.1, HT.2]
      clear HT
      generalize hv : (rv l).1 = v at R ⊢
      generalize hk2 : (rv l).2 = k at R HS hcut hne ⊢
      clear h1 h2 h3 h4 h5 h hr hle HB hk hL hA' hB' hS h0 hv hk2 H
      go_enter Tryz.func122, Tryz.ntmps122
      go_wp2_with (go_at_call 123; refine R.out.mono ?_; rintro e w1 ⟨rfl, rfl⟩)
      go_ret
      exact ⟨rfl, HS.out⟩
set_option maxRecDepth 100000 in
set_option maxHeartbeats 4000000 in
/-- A value that is taken by a function that reads it, and how many bytes it has. -/
theorem tu64_any (C : Nat) (st : WS) (rv : List UInt8 → Value × Nat) (w : World) (h : RdP w C st) (hle : ∀ l, (rv l).2 ≤ l.length)
    (hr : ∀ A n c l, SlB w A n l → n ≤ c → n ≤ 1000000000000 → Calls Tryz.prog 120 #[.slice A n c] w fun e w' => e = .returned (.tuple #[(rv l).1, .int .i64 ((rv l).2 : Int)]) ∧ w = w') :
    Calls Tryz.prog 152 #[.pointer (some ⟨C, 0, none⟩), .func (.func 120) #[] #[]] w fun e w' =>
      e = .returned (tkV (.int .u64 0) rv st) ∧ RdP w' C (tkS rv st) ∧ w.grownBy w' (some C) := by
  have H := Lib.hid h
  obtain ⟨A, n, c, h1, h2, h3, h4, h5⟩ := id h
  have c0 := h1.cell 0
  have c1 := h1.cell 1
  have c2 := h1.cell 2
  have f2 := h1.fr 2
  simp only [List.getElem?_toArray, List.getElem?_cons_succ, List.getElem?_cons_zero] at c0 c1 c2
  cases st with
  | none =>
    simp only [Option.isNone_none] at c1
    clear h1 h2 h3 h4 h5 h hr hle
    go_enter Tryz.func152, Tryz.ntmps152
    go_wp2_with fail
    go_ret
    exact ⟨rfl, H.out, World.grownBy.refl _ _⟩
  | some l =>
    simp only [Option.isNone_some] at c1 h1
    have R := Lib.hid (hr A n c l (h5 l rfl) h2 h3)
    have HB := h5 l rfl
    have hk := hle l
    have hL := HB.1
    by_cases h0 : (rv l).2 = 0
    · have F := Lib.hid (rfail_any C (some l) w H.out)
      have R2 : Hid (Calls Tryz.prog 120 #[.slice A n c] w fun e w' => e = .returned (.tuple #[(rv l).1, .int .i64 0]) ∧ w = w') := Lib.hid (by have := R.out; rw [h0] at this; exact this)
      have HT := Lib.hid (tk_no (z := (.int .u64 0)) h0)
      rw [HT.out.1, HT.out.2]
      generalize (rv l).1 = v at R2
      clear h1 h2 h3 h4 h5 h hr hle R HB hk hL
      go_enter Tryz.func152, Tryz.ntmps152
      go_wp2_with (first
        | (go_at_call 120; refine R2.out.mono ?_; rintro e w1 ⟨rfl, rfl⟩)
        | (go_at_call 101; refine F.out.mono ?_; rintro e w1 ⟨rfl, hP, hg⟩))
      go_ret
      exact ⟨rfl, hP, hg⟩
    · obtain ⟨A', hA', hB'⟩ := sliced_B (lo := (rv l).2) (hi := n) HB (by omega) (Nat.le_refl _) h2 rfl
      have hS := RdP.step (A' := A') (n' := n - (rv l).2) (c' := c - (rv l).2) h1 h3 (by omega) (by omega) hB' (sliced_blk hA' h4.2)
      rw [List.take_of_length_le (by omega)] at hS
      have hcut := fun W => cut_bytes A n c (rv l).2 (by omega) W
      rw [hA'] at hcut
      have HS := Lib.hid hS
      have hne : (((rv l).2 : Int) == 0) = false := by rw [beq_eq_false_iff_ne]; omega
      have HT := tk_yes (z := (.int .u64 0)) h0
      rw [HT.1, HT.2]
      clear HT
      generalize hv : (rv l).1 = v at R ⊢
      generalize hk2 : (rv l).2 = k at R HS hcut hne ⊢
      clear h1 h2 h3 h4 h5 h hr hle HB hk hL hA' hB' hS h0 hv hk2 H
      go_enter Tryz.func152, Tryz.ntmps152
      go_wp2_with (go_at_call 120; refine R.out.mono ?_; rintro e w1 ⟨rfl, rfl⟩)
      go_ret
      exact ⟨rfl, HS.out⟩
set_option maxRecDepth 100000 in
set_option maxHeartbeats 4000000 in
/-- A value that is taken by a function that reads it, and how many bytes it has. -/
theorem ti64_any (C : Nat) (st : WS) (rv : List UInt8 → Value × Nat) (w : World) (h : RdP w C st) (hle : ∀ l, (rv l).2 ≤ l.length)
    (hr : ∀ A n c l, SlB w A n l → n ≤ c → n ≤ 1000000000000 → Calls Tryz.prog 119 #[.slice A n c] w fun e w' => e = .returned (.tuple #[(rv l).1, .int .i64 ((rv l).2 : Int)]) ∧ w = w') :
    Calls Tryz.prog 118 #[.pointer (some ⟨C, 0, none⟩), .func (.func 119) #[] #[]] w fun e w' =>
      e = .returned (tkV (.int .i64 0) rv st) ∧ RdP w' C (tkS rv st) ∧ w.grownBy w' (some C) := by
  have H := Lib.hid h
  obtain ⟨A, n, c, h1, h2, h3, h4, h5⟩ := id h
  have c0 := h1.cell 0
  have c1 := h1.cell 1
  have c2 := h1.cell 2
  have f2 := h1.fr 2
  simp only [List.getElem?_toArray, List.getElem?_cons_succ, List.getElem?_cons_zero] at c0 c1 c2
  cases st with
  | none =>
    simp only [Option.isNone_none] at c1
    clear h1 h2 h3 h4 h5 h hr hle
    go_enter Tryz.func118, Tryz.ntmps118
    go_wp2_with fail
    go_ret
    exact ⟨rfl, H.out, World.grownBy.refl _ _⟩
  | some l =>
    simp only [Option.isNone_some] at c1 h1
    have R := Lib.hid (hr A n c l (h5 l rfl) h2 h3)
    have HB := h5 l rfl
    have hk := hle l
    have hL := HB.1
    by_cases h0 : (rv l).2 = 0
    · have F := Lib.hid (rfail_any C (some l) w H.out)
      have R2 : Hid (Calls Tryz.prog 119 #[.slice A n c] w fun e w' => e = .returned (.tuple #[(rv l).1, .int .i64 0]) ∧ w = w') := Lib.hid (by have := R.out; rw [h0] at this; exact this)
      have HT := Lib.hid (tk_no (z := (.int .i64 0)) h0)
      rw [HT.out.1, HT.out.2]
      generalize (rv l).1 = v at R2
      clear h1 h2 h3 h4 h5 h hr hle R HB hk hL
      go_enter Tryz.func118, Tryz.ntmps118
      go_wp2_with (first
        | (go_at_call 119; refine R2.out.mono ?_; rintro e w1 ⟨rfl, rfl⟩)
        | (go_at_call 101; refine F.out.mono ?_; rintro e w1 ⟨rfl, hP, hg⟩))
      go_ret
      exact ⟨rfl, hP, hg⟩
    · obtain ⟨A', hA', hB'⟩ := sliced_B (lo := (rv l).2) (hi := n) HB (by omega) (Nat.le_refl _) h2 rfl
      have hS := RdP.step (A' := A') (n' := n - (rv l).2) (c' := c - (rv l).2) h1 h3 (by omega) (by omega) hB' (sliced_blk hA' h4.2)
      rw [List.take_of_length_le (by omega)] at hS
      have hcut := fun W => cut_bytes A n c (rv l).2 (by omega) W
      rw [hA'] at hcut
      have HS := Lib.hid hS
      have hne : (((rv l).2 : Int) == 0) = false := by rw [beq_eq_false_iff_ne]; omega
      have HT := tk_yes (z := (.int .i64 0)) h0
      rw [HT.1, HT.2]
      clear HT
      generalize hv : (rv l).1 = v at R ⊢
      generalize hk2 : (rv l).2 = k at R HS hcut hne ⊢
      clear h1 h2 h3 h4 h5 h hr hle HB hk hL hA' hB' hS h0 hv hk2 H
      go_enter Tryz.func118, Tryz.ntmps118
      go_wp2_with (go_at_call 119; refine R.out.mono ?_; rintro e w1 ⟨rfl, rfl⟩)
      go_ret
      exact ⟨rfl, HS.out⟩
end
section
open Go.RowKit Go.Shelf

theorem nbV_le (l : List UInt8) : (nbV l).2 ≤ l.length ∧ (nbV l).1 < 18446744073709551616 := by
  unfold nbV
  cases h : uvR l with
  | none => exact ⟨Nat.zero_le _, by decide⟩
  | some p => exact ⟨(uvR_le h).2, (uvR_dec h).1⟩
theorem nbV_none {l : List UInt8} (h : uvR l = none) : nbV l = (0, 0) := by unfold nbV; rw [h]
theorem nbV_some {l : List UInt8} {p : Nat × Nat} (h : uvR l = some p) : nbV l = p := by unfold nbV; rw [h]
theorem rnum_any (A : Option Addr) (n cap : Nat) (l : List UInt8) (w : World) (h : SlB w A n l) (hn : n ≤ 1000000000000) :
    Calls Tryz.prog 120 #[.slice A n cap] w fun e w' => e = .returned (.tuple #[.int .u64 ((nbV l).1 : Int), .int .i64 ((nbV l).2 : Int)]) ∧ w = w' := number_any A n cap l w h hn
/-- What the three functions that read answer. -/
def rvU (l : List UInt8) : Value × Nat := (.int .u64 ((nbV l).1 : Int), (nbV l).2)
def rvI (l : List UInt8) : Value × Nat := (.int .i64 (zag (nbV l).1), (nbV l).2)
def rvT (l : List UInt8) : Value × Nat := if (nbV l).2 = 0 ∨ 65536 < (nbV l).1 ∨ l.length - (nbV l).2 < (nbV l).1 then (.string ⟨#[]⟩, 0) else (.string ⟨((l.drop (nbV l).2).take (nbV l).1).toArray⟩, (nbV l).2 + (nbV l).1)
theorem tk_wU (st : WS) : tkV (.int .u64 0) rvU st = .int .u64 ((wU st).1 : Int) ∧ tkS rvU st = (wU st).2 := by
  cases st with
  | none => exact ⟨rfl, rfl⟩
  | some l =>
    unfold tkV tkS rvU wU
    simp only
    cases h : uvR l with
    | none => rw [nbV_none h]; exact ⟨rfl, rfl⟩
    | some p => rw [nbV_some h]; have := uvR_le (v := p.1) (k := p.2) h; rw [if_neg (by omega), if_neg (by omega)]; exact ⟨rfl, rfl⟩
theorem tk_wI (st : WS) : tkV (.int .i64 0) rvI st = .int .i64 (wI st).1 ∧ tkS rvI st = (wI st).2 := by
  unfold wI
  cases st with
  | none => exact ⟨rfl, rfl⟩
  | some l =>
    unfold tkV tkS rvI wU
    simp only
    cases h : uvR l with
    | none => rw [nbV_none h]; exact ⟨by simp [zag], rfl⟩
    | some p => rw [nbV_some h]; have := uvR_le (v := p.1) (k := p.2) h; rw [if_neg (by omega), if_neg (by omega)]; exact ⟨rfl, rfl⟩
theorem tk_wT (st : WS) : tkV (.string ⟨#[]⟩) rvT st = .string ⟨(wT st).1.toArray⟩ ∧ tkS rvT st = (wT st).2 := by
  cases st with
  | none => exact ⟨rfl, rfl⟩
  | some l =>
    unfold tkV tkS rvT wT
    simp only
    cases h : uvR l with
    | none => rw [nbV_none h]; exact ⟨rfl, rfl⟩
    | some p =>
      rw [nbV_some h]
      have hp := uvR_le (v := p.1) (k := p.2) h
      obtain ⟨v, k⟩ := p
      simp only at hp ⊢
      by_cases hc : k = 0 ∨ 65536 < v ∨ l.length - k < v
      · rw [if_pos hc, if_neg (show ¬ (v ≤ 65536 ∧ v ≤ l.length - k) by omega)]; exact ⟨rfl, rfl⟩
      · rw [if_neg hc, if_pos (show v ≤ 65536 ∧ v ≤ l.length - k by omega)]
        simp only
        rw [if_neg (by omega), if_neg (by omega)]
        exact ⟨rfl, rfl⟩
set_option maxHeartbeats 1000000 in
theorem int1_any (A : Option Addr) (n c : Nat) (l : List UInt8) (w : World) (h : SlB w A n l) (hn : n ≤ 1000000000000) :
    Calls Tryz.prog 119 #[.slice A n c] w fun e w' => e = .returned (.tuple #[(rvI l).1, .int .i64 ((rvI l).2 : Int)]) ∧ w = w' := by
  have N := Lib.hid (number_any A n c l w h hn)
  have Z := Lib.hid (zag_any (nbV l).1 w (nbV_le l).2)
  unfold rvI
  simp only
  generalize zag (nbV l).1 = z at Z ⊢
  generalize nbV l = p at N Z ⊢
  clear h hn
  go_enter Tryz.func119, Tryz.ntmps119
  go_wp2_with (first
    | (go_at_call 120; refine N.out.mono ?_; rintro e w1 ⟨rfl, rfl⟩)
    | (go_at_call 121; refine Z.out.mono ?_; rintro e w1 ⟨rfl, rfl⟩))
  go_ret2
  exact ⟨rfl, rfl⟩
set_option maxRecDepth 100000 in
set_option maxHeartbeats 4000000 in
theorem text1_any (A : Option Addr) (n c : Nat) (l : List UInt8) (w : World) (h : SlB w A n l) (hc : n ≤ c) (hn : n ≤ 1000000000000) :
    Calls Tryz.prog 123 #[.slice A n c] w fun e w' => e = .returned (.tuple #[(rvT l).1, .int .i64 ((rvT l).2 : Int)]) ∧ w = w' := by
  have N := Lib.hid (number_any A n c l w h hn)
  have hL := h.1
  have hle := nbV_le l
  unfold rvT
  generalize hp : nbV l = p at N hle ⊢
  obtain ⟨v, k⟩ := p
  simp only at N hle ⊢
  by_cases h0 : k = 0
  · subst h0
    rw [if_pos (Or.inl rfl)]
    clear hp h
    go_enter Tryz.func123, Tryz.ntmps123
    go_wp2_with (go_at_call 120; refine N.out.mono ?_; rintro e w1 ⟨rfl, rfl⟩)
    go_ret2
    exact ⟨rfl, rfl⟩
  · have e0 : ((k : Int) == 0) = false := by rw [beq_eq_false_iff_ne]; omega
    by_cases h1 : 65536 < v
    · rw [if_pos (Or.inr (Or.inl h1))]
      have e1 : (65536 : Int) < (v : Int) := by omega
      clear hp h
      go_enter Tryz.func123, Tryz.ntmps123
      go_wp2_with (go_at_call 120; refine N.out.mono ?_; rintro e w1 ⟨rfl, rfl⟩)
      go_ret2
      exact ⟨rfl, rfl⟩
    · have e1 : (v : Int) ≤ 65536 := by omega
      by_cases h2 : l.length - k < v
      · rw [if_pos (Or.inr (Or.inr h2))]
        have e2 : (n : Int) - (k : Int) < (v : Int) := by omega
        have e3 : (0 : Int) ≤ (n : Int) - (k : Int) := by omega
        clear hp h
        go_enter Tryz.func123, Tryz.ntmps123
        go_wp2_with (go_at_call 120; refine N.out.mono ?_; rintro e w1 ⟨rfl, rfl⟩)
        go_ret2
        exact ⟨rfl, rfl⟩
      · rw [if_neg (show ¬ (k = 0 ∨ 65536 < v ∨ l.length - k < v) by omega)]
        have e2 : (v : Int) ≤ (n : Int) - (k : Int) := by omega
        have e3 : (0 : Int) ≤ (n : Int) - (k : Int) := by omega
        obtain ⟨A', hA', hB'⟩ := sliced_B (lo := k) (hi := k + v) h (by omega) (by omega) hc rfl
        have hcut := fun W => cut_bytes2 A n c k (k + v) (by omega) (by omega) W
        rw [hA'] at hcut
        have hcv := conv_bytes hB' (c - k)
        rw [List.drop_take, Nat.add_sub_cancel_left] at hcv
        have hcast : ((k + v : Nat) : Int) = (k : Int) + (v : Int) := by omega
        simp only [hcast] at hcut
        rw [hcast]
        generalize (⟨((l.drop k).take v).toArray⟩ : ByteArray) = s at hcv ⊢
        clear hp h hA' hB' hcast h0 h1 h2
        go_enter Tryz.func123, Tryz.ntmps123
        go_wp2_with (go_at_call 120; refine N.out.mono ?_; rintro e w1 ⟨rfl, rfl⟩)
        go_ret2
        exact ⟨rfl, rfl⟩
theorem rvT_le (l : List UInt8) : (rvT l).2 ≤ l.length := by
  have := nbV_le l
  unfold rvT
  split
  · exact Nat.zero_le _
  · simp only; omega
set_option maxHeartbeats 1000000 in
theorem ruint_any (C : Nat) (st : WS) (w : World) (h : RdP w C st) :
    Calls Tryz.prog 100 #[.pointer (some ⟨C, 0, none⟩)] w fun e w' => e = .returned (.int .u64 ((wU st).1 : Int)) ∧ RdP w' C (wU st).2 ∧ w.grownBy w' (some C) := by
  have T := Lib.hid (tu64_any C st rvU w h (fun l => (nbV_le l).1) (fun A n c l h _ hn => number_any A n c l _ h hn))
  rw [(tk_wU st).1, (tk_wU st).2] at T
  clear h
  generalize (wU st).1 = v at T ⊢
  go_enter Tryz.func100, Tryz.ntmps100
  go_wp2_with (go_at_call 152; refine T.out.mono ?_; rintro e w1 ⟨rfl, hP, hg⟩)
  go_ret
  exact ⟨rfl, hP, hg⟩
set_option maxHeartbeats 1000000 in
theorem rint_any (C : Nat) (st : WS) (w : World) (h : RdP w C st) :
    Calls Tryz.prog 59 #[.pointer (some ⟨C, 0, none⟩)] w fun e w' => e = .returned (.int .i64 (wI st).1) ∧ RdP w' C (wI st).2 ∧ w.grownBy w' (some C) := by
  have T := Lib.hid (ti64_any C st rvI w h (fun l => (nbV_le l).1) (fun A n c l h _ hn => int1_any A n c l _ h hn))
  rw [(tk_wI st).1, (tk_wI st).2] at T
  clear h
  generalize (wI st).1 = v at T ⊢
  go_enter Tryz.func59, Tryz.ntmps59
  go_wp2_with (go_at_call 118; refine T.out.mono ?_; rintro e w1 ⟨rfl, hP, hg⟩)
  go_ret
  exact ⟨rfl, hP, hg⟩
set_option maxHeartbeats 1000000 in
theorem rtext_any (C : Nat) (st : WS) (w : World) (h : RdP w C st) :
    Calls Tryz.prog 60 #[.pointer (some ⟨C, 0, none⟩)] w fun e w' => e = .returned (.string ⟨(wT st).1.toArray⟩) ∧ RdP w' C (wT st).2 ∧ w.grownBy w' (some C) := by
  have T := Lib.hid (tstr_any C st rvT w h rvT_le (fun A n c l h hc hn => text1_any A n c l _ h hc hn))
  rw [(tk_wT st).1, (tk_wT st).2] at T
  clear h
  generalize (wT st).1 = v at T ⊢
  go_enter Tryz.func60, Tryz.ntmps60
  go_wp2_with (go_at_call 122; refine T.out.mono ?_; rintro e w1 ⟨rfl, hP, hg⟩)
  go_ret
  exact ⟨rfl, hP, hg⟩
set_option maxHeartbeats 1000000 in
theorem rend_any (C : Nat) (st : WS) (w : World) (h : RdP w C st) :
    Calls Tryz.prog 49 #[.pointer (some ⟨C, 0, none⟩)] w fun e w' => e = .returned (.int .i64 (wEnd st)) ∧ w = w' := by
  obtain ⟨A, n, c, h1, h2, h3, h4, h5⟩ := h
  have c0 := h1.cell 0
  have c1 := h1.cell 1
  have c2 := h1.cell 2
  simp only [List.getElem?_toArray, List.getElem?_cons_succ, List.getElem?_cons_zero] at c0 c1 c2
  cases st with
  | none =>
    simp only [Option.isNone_none] at c1
    clear h1 h2 h3 h4 h5
    go_enter Tryz.func49, Tryz.ntmps49
    go_wp2
    go_ret
    exact ⟨rfl, rfl⟩
  | some l =>
    simp only [Option.isNone_some] at c1
    have hl := (h5 l rfl).1
    by_cases h0 : 0 < n
    · have HE : Hid (wEnd (some l) = 10) := Lib.hid (by unfold wEnd; rw [if_neg (by intro e; cases e; simp at hl; omega)])
      rw [HE.out]
      clear h1 h2 h3 h4 h5 hl HE
      go_enter Tryz.func49, Tryz.ntmps49
      go_wp2
      go_ret
      exact ⟨rfl, rfl⟩
    · have HE : Hid (wEnd (some l) = 0) := Lib.hid (by unfold wEnd; rw [if_pos]; rw [List.eq_nil_of_length_eq_zero (by omega : l.length = 0)])
      rw [HE.out]
      clear h1 h2 h3 h4 h5 hl HE
      go_enter Tryz.func49, Tryz.ntmps49
      go_wp2
      go_ret
      exact ⟨rfl, rfl⟩
end
end Go.Proofs.YtgjnmfmbheejoaaGreatDoor
