/- The program's readers of bytes. Condition: the bytes are no longer than a machine's integer can say. -/
import Derived.Test.YtgeljnjcpkmlmaaGreatDoorNbr
import Derived.Shelf.Bytes.SlEqualAll
import Derived.Outline
namespace Go.Proofs.YtgeljnjcpkmlmaaGreatDoor
open Go.RowKit Go.Shelf

/-- A reader in memory: what it has left. -/
def RdP (W : World) (C : Nat) (st : WS) : Prop := ∃ A n c, Whole W C 125 #[.bool true, .bool st.isNone, .slice A n c] ∧ n ≤ c ∧ n ≤ 1000000000000 ∧ ((st = none → A = none ∧ n = 0 ∧ c = 0) ∧ ∀ a : Addr, A = some a → a.block < C) ∧ ∀ l, st = some l → SlB W A n l
theorem RdP.lt {W : World} {C : Nat} {st : WS} (h : RdP W C st) : C < W.heap.size := by obtain ⟨_, _, _, h1, _⟩ := h; exact h1.lt
theorem slB_ne {W : World} {C n : Nat} {A : Option Addr} {l : List UInt8} {t : TypeId} {x y z : Value} (hC : Whole W C t #[x, y, z]) (hx : ∀ k i, x ≠ .int k i) (hy : ∀ k i, y ≠ .int k i) (hz : ∀ k i, z ≠ .int k i) (h : SlB W A n l) : ∀ a : Addr, A = some a → l ≠ [] → some a.block ≠ some C := by
  rintro a rfl hl e
  obtain ⟨c, hc⟩ : ∃ c, l[0]? = some c := by cases l with | nil => exact absurd rfl hl | cons c l => exact ⟨c, rfl⟩
  obtain ⟨g, o, he, hcell⟩ := h.2 0 c hc
  cases he
  cases e
  rw [hC.cell] at hcell
  match o with
  | 0 => exact hx _ _ (by simpa [u8V] using hcell)
  | 1 => exact hy _ _ (by simpa [u8V] using hcell)
  | 2 => exact hz _ _ (by simpa [u8V] using hcell)
  | o + 3 => simp at hcell
theorem RdP.keep {W W' : World} {C : Nat} {st : WS} (h : RdP W C st) (hb : Below W.heap.size W W') : RdP W' C st := by
  obtain ⟨A, n, c, h1, h2, h3, h4, h5⟩ := h
  exact ⟨A, n, c, h1.keep hb, h2, h3, h4, fun l e => (h5 l e).keep hb⟩
theorem sliced_B {w : World} {A : Option Addr} {n c lo hi mx : Nat} {l : List UInt8} (h : SlB w A n l) (h1 : lo ≤ hi) (h2 : hi ≤ n) (h3 : n ≤ c) (hm : mx = c) : ∃ A', sliced A lo hi mx 1 = .slice A' (hi - lo) (mx - lo) ∧ SlB w A' (hi - lo) ((l.take hi).drop lo) := by
  subst hm
  refine ⟨_, rfl, ?_, fun i x hi' => ?_⟩
  · rw [List.length_drop, List.length_take, h.1, Nat.min_eq_left h2]
  · rw [List.getElem?_drop] at hi'
    rw [List.getElem?_take] at hi'
    split at hi'
    case isFalse => cases hi'
    rename_i hlt
    obtain ⟨g, o, rfl, hc⟩ := h.2 _ x hi'
    by_cases e : mx = lo
    · omega
    · rw [if_neg e]
      by_cases e0 : lo = 0
      · subst e0
        refine ⟨g, o, by simp [Addr.add], by rw [Nat.zero_add] at hc; exact hc⟩
      · refine ⟨g, o + lo, by simp [Addr.add, e0], by rw [← Nat.add_assoc] at hc; exact hc⟩
theorem sliced_blk {A A' : Option Addr} {lo hi mx n' c' C : Nat} (h : sliced A lo hi mx 1 = .slice A' n' c') (hb : ∀ a : Addr, A = some a → a.block < C) : ∀ a : Addr, A' = some a → a.block < C := by
  intro a ha
  subst ha
  unfold sliced at h
  injection h with h1
  split at h1
  · exact hb a h1
  · cases A with
    | none => simp at h1
    | some b =>
      simp only [Option.map_some, Option.some.injEq] at h1
      rw [← h1]
      have := hb b rfl
      unfold Addr.add
      split <;> exact this
/-- A cut of bytes. -/
theorem cut_bytes (A : Option Addr) (n c lo : Nat) (h1 : lo ≤ n) (w : World) : (Instr.slice 38 (.slice A n c) (some (.int .i64 (lo : Int))) none none).run Tryz.prog w = .ok (sliced A lo n c 1) w := by
  have hs : (sizeOf (Tryz.prog.elem 38)).run Tryz.prog w = .ok 1 w := by kernel_rfl
  have hu : Tryz.prog.underlying 38 = some (.slice (Tryz.prog.elem 38)) := by kernel_rfl
  rw [run_slice_l w 38 A n c hu .i64 (lo : Int) (by omega) (by omega), hs]
  rfl
theorem cut_bytes2 (A : Option Addr) (n c lo hi : Nat) (h1 : lo ≤ hi) (h2 : hi ≤ c) (w : World) : (Instr.slice 38 (.slice A n c) (some (.int .i64 (lo : Int))) (some (.int .i64 (hi : Int))) none).run Tryz.prog w = .ok (sliced A lo hi c 1) w := by
  have hs : (sizeOf (Tryz.prog.elem 38)).run Tryz.prog w = .ok 1 w := by kernel_rfl
  have hu : Tryz.prog.underlying 38 = some (.slice (Tryz.prog.elem 38)) := by kernel_rfl
  rw [run_slice_lh w 38 A n c hu .i64 .i64 (lo : Int) (hi : Int) (by omega) (by omega) (by omega), hs]
  rfl
set_option maxRecDepth 100000 in
theorem conv_bytes {w : World} {A : Option Addr} {n : Nat} {l : List UInt8} (h : SlB w A n l) (c : Nat) : (convert 38 9 (.slice A n c)).run Tryz.prog w = .ok (.string ⟨l.toArray⟩) w := by
  have hB : Lib.BytesIn w A n (l.map fun c => (c.toNat : Int)) := fun hn => by
    obtain ⟨g, o, rfl, hc⟩ := slB_at h hn
    refine ⟨g, o, rfl, fun i hi => ?_⟩
    have hx := List.getElem?_eq_getElem (show i < l.length by have := h.1; omega)
    rw [hc i _ hx, List.getD_eq_getElem?_getD, List.getElem?_map, hx]
    rfl
  have := hB.convert (P := Tryz.prog) (by rw [List.length_map]; exact h.1) c 38 5 9 Tryz.underlying38 Tryz.underlying5 Tryz.underlying9
  rw [this]
  congr 2
  unfold strOfNums
  congr 2
  rw [List.map_map]
  conv => rhs; rw [← List.map_id l]
  exact List.map_congr_left fun x _ => by simp

theorem own_slice {w : World} {base n size : Nat} {e : TypeId} {v : Value} {xs : List Value} (h : w.ownsRow base e size v n xs) : ∃ A c, v = .slice A n c ∧ n ≤ c := by
  rcases h.2 with ⟨e, h0⟩ | ⟨g, cap, cur, e, _, _, hc, _⟩
  · exact ⟨none, 0, by rw [e, h0], by omega⟩
  · exact ⟨_, _, e, hc⟩
theorem read_any (A : Option Addr) (n c : Nat) (l : List UInt8) (w : World) (h : SlB w A n l) (hn : n ≤ 1000000000000) :
    Calls Tryz.prog 60 #[.slice A n c] w fun e w' => (∃ C, e = .returned (.pointer (some ⟨C, 0, none⟩)) ∧ w.heap.size ≤ C ∧ RdP w' C (some l)) ∧ Below w.heap.size w w' := by
  have B := Lib.hid (bclone_any A n c l w h hn)
  have HL := Lib.hid h.1
  clear h
  go_enter Tryz.func60, Tryz.ntmps60
  go_wp2_with (go_at_call 78; refine B.out.mono ?_; rintro e w1 ⟨⟨v1, rfl, ho⟩, hB⟩; obtain ⟨A1, c1, rfl, hc1⟩ := own_slice ho)
  go_ret
  refine ⟨⟨_, rfl, hB.size, A1, n, c1, Whole.new w1 _ _, hc1, hn, ⟨(fun e => by cases e), fun a e => by subst e; exact (ho.lt a.block rfl).2⟩, (fun l' e => by cases e; exact (SlB.of_own ho).keep ((Below.refl _ _).alloc (Nat.le_refl _) _))⟩, hB.alloc hB.size _⟩
set_option maxHeartbeats 1000000 in
theorem rfail_any (C : Nat) (st : WS) (w : World) (h : RdP w C st) :
    Calls Tryz.prog 63 #[.pointer (some ⟨C, 0, none⟩)] w fun e w' => e = .returned (.tuple #[]) ∧ RdP w' C none ∧ w.grownBy w' (some C) := by
  obtain ⟨A, n, c, h1, _⟩ := h
  have c0 := h1.cell 0
  have c1 := h1.cell 1
  have c2 := h1.cell 2
  have f1 := h1.fr 1
  have f2 := h1.fr 2
  simp only [List.getElem?_toArray, List.getElem?_cons_succ, List.getElem?_cons_zero] at c0 c1 c2
  have HF : Hid (RdP ((w.setCell ⟨C, 1, none⟩ (.bool true)).setCell ⟨C, 2, none⟩ (.slice none 0 0)) C none ∧ w.grownBy ((w.setCell ⟨C, 1, none⟩ (.bool true)).setCell ⟨C, 2, none⟩ (.slice none 0 0)) (some C)) :=
    Lib.hid ⟨⟨none, 0, 0, by simpa using (h1.put 1 (.bool true)).put 2 (.slice none 0 0), Nat.le_refl _, by omega, ⟨fun _ => ⟨rfl, rfl, rfl⟩, fun a e => by cases e⟩, fun l e => by cases e⟩, grown_set (grown_set (World.grownBy.refl w _) 1 _) 2 _⟩
  have d2 : (w.setCell ⟨C, 1, none⟩ (.bool true)).cell? ⟨C, 2, none⟩ = some (.slice A n c) := by
    have := (h1.put 1 (.bool true)).cell 2
    simpa using this
  clear h1
  go_enter Tryz.func63, Tryz.ntmps63
  go_wp2
  go_end0
  exact ⟨rfl, HF.out⟩

/-- What taking answers, and what it leaves. -/
def tkV (z : Value) (rv : List UInt8 → Value × Nat) : WS → Value
  | none => z
  | some l => if (rv l).2 = 0 then z else (rv l).1
def tkS (rv : List UInt8 → Value × Nat) : WS → WS
  | none => none
  | some l => if (rv l).2 = 0 then none else some (l.drop (rv l).2)
theorem tk_no {z : Value} {rv : List UInt8 → Value × Nat} {l : List UInt8} (h : (rv l).2 = 0) : tkV z rv (some l) = z ∧ tkS rv (some l) = none := ⟨if_pos h, if_pos h⟩
theorem tk_yes {z : Value} {rv : List UInt8 → Value × Nat} {l : List UInt8} (h : ¬ (rv l).2 = 0) : tkV z rv (some l) = (rv l).1 ∧ tkS rv (some l) = some (l.drop (rv l).2) := ⟨if_neg h, if_neg h⟩
/-- A call of a reader that goes on: what is left. -/
theorem RdP.step {w : World} {C : Nat} {A A' : Option Addr} {n c n' c' : Nat} {l' : List UInt8} (h : Whole w C 125 #[.bool true, .bool false, .slice A n c]) (hn : n ≤ 1000000000000) (h1 : n' ≤ c') (h2 : n' ≤ n) (hs : SlB w A' n' l') (hk : ∀ a : Addr, A' = some a → a.block < C) :
    RdP (w.setCell ⟨C, 2, none⟩ (.slice A' n' c')) C (some l') ∧ w.grownBy (w.setCell ⟨C, 2, none⟩ (.slice A' n' c')) (some C) :=
  ⟨⟨A', n', c', by simpa using h.put 2 (.slice A' n' c'), h1, by omega, ⟨(fun e => by cases e), hk⟩, (fun l2 e => by
    cases e
    exact hs.grown (grown_set (World.grownBy.refl w (some C)) 2 _) (slB_ne h (by intros; simp) (by intros; simp) (by intros; simp) hs))⟩, grown_set (World.grownBy.refl w (some C)) 2 _⟩
set_option maxRecDepth 100000 in
set_option maxHeartbeats 4000000 in
/-- A value that is taken by a function that reads it, and how many bytes it has. -/
theorem tstr_any (C : Nat) (st : WS) (rv : List UInt8 → Value × Nat) (w : World) (h : RdP w C st) (hle : ∀ l, (rv l).2 ≤ l.length)
    (hr : ∀ A n c l, SlB w A n l → n ≤ c → n ≤ 1000000000000 → Calls Tryz.prog 100 #[.slice A n c] w fun e w' => e = .returned (.tuple #[(rv l).1, .int .i64 ((rv l).2 : Int)]) ∧ w = w') :
    Calls Tryz.prog 99 #[.pointer (some ⟨C, 0, none⟩), .func (.func 100) #[] #[]] w fun e w' =>
      e = .returned (tkV (.string ⟨#[]⟩) rv st) ∧ RdP w' C (tkS rv st) ∧ w.grownBy w' (some C) := by
  have H := Lib.hid h
  obtain ⟨A, n, c, h1, h2, h3, h4, h5⟩ := id h
  have c0 := h1.cell 0
  have c1 := h1.cell 1
  have c2 := h1.cell 2
  have f2 := h1.fr 2
  simp only [List.getElem?_toArray, List.getElem?_cons_succ, List.getElem?_cons_zero] at c0 c1 c2
  cases st with
  | none =>
    simp only [Option.isNone_none] at c1
    clear h1 h2 h3 h4 h5 h hr hle
    go_enter Tryz.func99, Tryz.ntmps99
    go_wp2_with fail
    go_ret
    exact ⟨rfl, H.out, World.grownBy.refl _ _⟩
  | some l =>
    simp only [Option.isNone_some] at c1 h1
    have R := Lib.hid (hr A n c l (h5 l rfl) h2 h3)
    have HB := h5 l rfl
    have hk := hle l
    have hL := HB.1
    by_cases h0 : (rv l).2 = 0
    · have F := Lib.hid (rfail_any C (some l) w H.out)
      have R2 : Hid (Calls Tryz.prog 100 #[.slice A n c] w fun e w' => e = .returned (.tuple #[(rv l).1, .int .i64 0]) ∧ w = w') := Lib.hid (by have := R.out; rw [h0] at this; exact this)
      have HT := Lib.hid (tk_no (z := (.string ⟨#[]⟩)) h0)
      rw [HT.out.1, HT.out.2]
      generalize (rv l).1 = v at R2
      clear h1 h2 h3 h4 h5 h hr hle R HB hk hL
      go_enter Tryz.func99, Tryz.ntmps99
      go_wp2_with (first
        | (go_at_call 100; refine R2.out.mono ?_; rintro e w1 ⟨rfl, rfl⟩)
        | (go_at_call 63; refine F.out.mono ?_; rintro e w1 ⟨rfl, hP, hg⟩))
      go_ret
      exact ⟨rfl, hP, hg⟩
    · obtain ⟨A', hA', hB'⟩ := sliced_B (lo := (rv l).2) (hi := n) HB (by omega) (Nat.le_refl _) h2 rfl
      have hS := RdP.step (A' := A') (n' := n - (rv l).2) (c' := c - (rv l).2) h1 h3 (by omega) (by omega) hB' (sliced_blk hA' h4.2)
      rw [List.take_of_length_le (by omega)] at hS
      have hcut := fun W => cut_bytes A n c (rv l).2 (by omega) W
      rw [hA'] at hcut
      have HS := Lib.hid hS
      have hne : (((rv l).2 : Int) == 0) = false := by rw [beq_eq_false_iff_ne]; omega
      have HT := tk_yes (z := (.string ⟨#[]⟩)) h0
      rw [HT.1, HT.2]
      clear HT
      generalize hv : (rv l).1 = v at R ⊢
      generalize hk2 : (rv l).2 = k at R HS hcut hne ⊢
      clear h1 h2 h3 h4 h5 h hr hle HB hk hL hA' hB' hS h0 hv hk2 H
      go_enter Tryz.func99, Tryz.ntmps99
      go_wp2_with (go_at_call 100; refine R.out.mono ?_; rintro e w1 ⟨rfl, rfl⟩)
      go_ret
      exact ⟨rfl, HS.out⟩
set_option maxRecDepth 100000 in
set_option maxHeartbeats 4000000 in
/-- A value that is taken by a function that reads it, and how many bytes it has. -/
theorem tu64_any (C : Nat) (st : WS) (rv : List UInt8 → Value × Nat) (w : World) (h : RdP w C st) (hle : ∀ l, (rv l).2 ≤ l.length)
    (hr : ∀ A n c l, SlB w A n l → n ≤ c → n ≤ 1000000000000 → Calls Tryz.prog 101 #[.slice A n c] w fun e w' => e = .returned (.tuple #[(rv l).1, .int .i64 ((rv l).2 : Int)]) ∧ w = w') :
    Calls Tryz.prog 102 #[.pointer (some ⟨C, 0, none⟩), .func (.func 101) #[] #[]] w fun e w' =>
      e = .returned (tkV (.int .u64 0) rv st) ∧ RdP w' C (tkS rv st) ∧ w.grownBy w' (some C) := by
  have H := Lib.hid h
  obtain ⟨A, n, c, h1, h2, h3, h4, h5⟩ := id h
  have c0 := h1.cell 0
  have c1 := h1.cell 1
  have c2 := h1.cell 2
  have f2 := h1.fr 2
  simp only [List.getElem?_toArray, List.getElem?_cons_succ, List.getElem?_cons_zero] at c0 c1 c2
  cases st with
  | none =>
    simp only [Option.isNone_none] at c1
    clear h1 h2 h3 h4 h5 h hr hle
    go_enter Tryz.func102, Tryz.ntmps102
    go_wp2_with fail
    go_ret
    exact ⟨rfl, H.out, World.grownBy.refl _ _⟩
  | some l =>
    simp only [Option.isNone_some] at c1 h1
    have R := Lib.hid (hr A n c l (h5 l rfl) h2 h3)
    have HB := h5 l rfl
    have hk := hle l
    have hL := HB.1
    by_cases h0 : (rv l).2 = 0
    · have F := Lib.hid (rfail_any C (some l) w H.out)
      have R2 : Hid (Calls Tryz.prog 101 #[.slice A n c] w fun e w' => e = .returned (.tuple #[(rv l).1, .int .i64 0]) ∧ w = w') := Lib.hid (by have := R.out; rw [h0] at this; exact this)
      have HT := Lib.hid (tk_no (z := (.int .u64 0)) h0)
      rw [HT.out.1, HT.out.2]
      generalize (rv l).1 = v at R2
      clear h1 h2 h3 h4 h5 h hr hle R HB hk hL
      go_enter Tryz.func102, Tryz.ntmps102
      go_wp2_with (first
        | (go_at_call 101; refine R2.out.mono ?_; rintro e w1 ⟨rfl, rfl⟩)
        | (go_at_call 63; refine F.out.mono ?_; rintro e w1 ⟨rfl, hP, hg⟩))
      go_ret
      exact ⟨rfl, hP, hg⟩
    · obtain ⟨A', hA', hB'⟩ := sliced_B (lo := (rv l).2) (hi := n) HB (by omega) (Nat.le_refl _) h2 rfl
      have hS := RdP.step (A' := A') (n' := n - (rv l).2) (c' := c - (rv l).2) h1 h3 (by omega) (by omega) hB' (sliced_blk hA' h4.2)
      rw [List.take_of_length_le (by omega)] at hS
      have hcut := fun W => cut_bytes A n c (rv l).2 (by omega) W
      rw [hA'] at hcut
      have HS := Lib.hid hS
      have hne : (((rv l).2 : Int) == 0) = false := by rw [beq_eq_false_iff_ne]; omega
      have HT := tk_yes (z := (.int .u64 0)) h0
      rw [HT.1, HT.2]
      clear HT
      generalize hv : (rv l).1 = v at R ⊢
      generalize hk2 : (rv l).2 = k at R HS hcut hne ⊢
      clear h1 h2 h3 h4 h5 h hr hle HB hk hL hA' hB' hS h0 hv hk2 H
      go_enter Tryz.func102, Tryz.ntmps102
      go_wp2_with (go_at_call 101; refine R.out.mono ?_; rintro e w1 ⟨rfl, rfl⟩)
      go_ret
      exact ⟨rfl, HS.out⟩
set_option maxRecDepth 100000 in
set_option maxHeartbeats 4000000 in
/-- A value that is taken by a function that reads it, and how many bytes it has. -/
theorem ti64_any (C : Nat) (st : WS) (rv : List UInt8 → Value × Nat) (w : World) (h : RdP w C st) (hle : ∀ l, (rv l).2 ≤ l.length)
    (hr : ∀ A n c l, SlB w A n l → n ≤ c → n ≤ 1000000000000 → Calls Tryz.prog 104 #[.slice A n c] w fun e w' => e = .returned (.tuple #[(rv l).1, .int .i64 ((rv l).2 : Int)]) ∧ w = w') :
    Calls Tryz.prog 103 #[.pointer (some ⟨C, 0, none⟩), .func (.func 104) #[] #[]] w fun e w' =>
      e = .returned (tkV (.int .i64 0) rv st) ∧ RdP w' C (tkS rv st) ∧ w.grownBy w' (some C) := by
  have H := Lib.hid h
  obtain ⟨A, n, c, h1, h2, h3, h4, h5⟩ := id h
  have c0 := h1.cell 0
  have c1 := h1.cell 1
  have c2 := h1.cell 2
  have f2 := h1.fr 2
  simp only [List.getElem?_toArray, List.getElem?_cons_succ, List.getElem?_cons_zero] at c0 c1 c2
  cases st with
  | none =>
    simp only [Option.isNone_none] at c1
    clear h1 h2 h3 h4 h5 h hr hle
    go_enter Tryz.func103, Tryz.ntmps103
    go_wp2_with fail
    go_ret
    exact ⟨rfl, H.out, World.grownBy.refl _ _⟩
  | some l =>
    simp only [Option.isNone_some] at c1 h1
    have R := Lib.hid (hr A n c l (h5 l rfl) h2 h3)
    have HB := h5 l rfl
    have hk := hle l
    have hL := HB.1
    by_cases h0 : (rv l).2 = 0
    · have F := Lib.hid (rfail_any C (some l) w H.out)
      have R2 : Hid (Calls Tryz.prog 104 #[.slice A n c] w fun e w' => e = .returned (.tuple #[(rv l).1, .int .i64 0]) ∧ w = w') := Lib.hid (by have := R.out; rw [h0] at this; exact this)
      have HT := Lib.hid (tk_no (z := (.int .i64 0)) h0)
      rw [HT.out.1, HT.out.2]
      generalize (rv l).1 = v at R2
      clear h1 h2 h3 h4 h5 h hr hle R HB hk hL
      go_enter Tryz.func103, Tryz.ntmps103
      go_wp2_with (first
        | (go_at_call 104; refine R2.out.mono ?_; rintro e w1 ⟨rfl, rfl⟩)
        | (go_at_call 63; refine F.out.mono ?_; rintro e w1 ⟨rfl, hP, hg⟩))
      go_ret
      exact ⟨rfl, hP, hg⟩
    · obtain ⟨A', hA', hB'⟩ := sliced_B (lo := (rv l).2) (hi := n) HB (by omega) (Nat.le_refl _) h2 rfl
      have hS := RdP.step (A' := A') (n' := n - (rv l).2) (c' := c - (rv l).2) h1 h3 (by omega) (by omega) hB' (sliced_blk hA' h4.2)
      rw [List.take_of_length_le (by omega)] at hS
      have hcut := fun W => cut_bytes A n c (rv l).2 (by omega) W
      rw [hA'] at hcut
      have HS := Lib.hid hS
      have hne : (((rv l).2 : Int) == 0) = false := by rw [beq_eq_false_iff_ne]; omega
      have HT := tk_yes (z := (.int .i64 0)) h0
      rw [HT.1, HT.2]
      clear HT
      generalize hv : (rv l).1 = v at R ⊢
      generalize hk2 : (rv l).2 = k at R HS hcut hne ⊢
      clear h1 h2 h3 h4 h5 h hr hle HB hk hL hA' hB' hS h0 hv hk2 H
      go_enter Tryz.func103, Tryz.ntmps103
      go_wp2_with (go_at_call 104; refine R.out.mono ?_; rintro e w1 ⟨rfl, rfl⟩)
      go_ret
      exact ⟨rfl, HS.out⟩
end Go.Proofs.YtgeljnjcpkmlmaaGreatDoor
