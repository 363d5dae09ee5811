/- The reference's readers of bytes. Condition: the bytes are no longer than a machine's integer can say. -/
import Derived.Test.YtgjnmfmbheejoaaGreatDoorRwr2
import Derived.Test.YtgjnmfmbheejoaaGreatDoorPlC
namespace Go.Proofs.YtgjnmfmbheejoaaGreatDoor
open Go.RowKit Go.Shelf

/-- A reader of the reference in memory: what it has left. -/
def RdQ (W : World) (C : Nat) (st : WS) : Prop := ∃ A n c, Whole W C 154 #[.bool true, .slice A n c, .bool st.isNone] ∧ n ≤ c ∧ n ≤ 1000000000000 ∧ ((st = none → A = none ∧ n = 0 ∧ c = 0) ∧ ∀ a : Addr, A = some a → a.block < C) ∧ ∀ l, st = some l → SlB W A n l
theorem RdQ.lt {W : World} {C : Nat} {st : WS} (h : RdQ W C st) : C < W.heap.size := by obtain ⟨_, _, _, h1, _⟩ := h; exact h1.lt
theorem RdQ.keep {W W' : World} {C : Nat} {st : WS} (h : RdQ W C st) (hb : Below W.heap.size W W') : RdQ W' C st := by
  obtain ⟨A, n, c, h1, h2, h3, h4, h5⟩ := h
  exact ⟨A, n, c, h1.keep hb, h2, h3, h4, fun l e => (h5 l e).keep hb⟩
theorem RdQ.step {w : World} {C : Nat} {A A' : Option Addr} {n c n' c' : Nat} {l' : List UInt8} (h : Whole w C 154 #[.bool true, .slice A n c, .bool false]) (hn : n ≤ 1000000000000) (h1 : n' ≤ c') (h2 : n' ≤ n) (hs : SlB w A' n' l') (hk : ∀ a : Addr, A' = some a → a.block < C) :
    RdQ (w.setCell ⟨C, 1, none⟩ (.slice A' n' c')) C (some l') ∧ w.grownBy (w.setCell ⟨C, 1, none⟩ (.slice A' n' c')) (some C) :=
  ⟨⟨A', n', c', by simpa using h.put 1 (.slice A' n' c'), h1, by omega, ⟨(fun e => by cases e), hk⟩, (fun l2 e => by
    cases e
    exact hs.grown (grown_set (World.grownBy.refl w (some C)) 1 _) (slB_ne h (by intros; simp) (by intros; simp) (by intros; simp) hs))⟩, grown_set (World.grownBy.refl w (some C)) 1 _⟩
set_option maxHeartbeats 1000000 in
theorem rread_any (A : Option Addr) (n c : Nat) (l : List UInt8) (w : World) (h : SlB w A n l) (hn : n ≤ 1000000000000) :
    Calls Tryz.prog 50 #[.slice A n c] w fun e w' => (∃ C, e = .returned (.pointer (some ⟨C, 0, none⟩)) ∧ w.heap.size ≤ C ∧ RdQ w' C (some l)) ∧ Below w.heap.size w w' := by
  have h2 := h.keep ((Below.refl _ w).alloc (Nat.le_refl _) (.cells #[] 5))
  have hm : (w.alloc (.cells #[] 5)).ownsRow w.heap.size 5 1 (.slice (some ⟨w.heap.size, 0, none⟩) 0 0) 0 [] := World.ownsRow_made _ _ _ (Nat.le_refl _) (Nat.zero_le _) rfl
  obtain ⟨v', w', hrun, hown', hgrow⟩ := run_app_src _ A n c l h2 hn hm (by omega) (by simp)
  have HR := Lib.hid hrun
  rw [Nat.zero_add, List.nil_append] at hown'
  obtain ⟨A1, c1, rfl, hc1⟩ := own_slice hown'
  have HF : Hid (SlB w' A1 n l ∧ Below w.heap.size w w' ∧ n ≤ c1 ∧ ∀ a : Addr, A1 = some a → a.block < w'.heap.size) := Lib.hid ⟨SlB.of_own hown', ((Below.refl _ w).alloc (Nat.le_refl _) _).grown hgrow (by simp) (fun k e => by simp [Value.ownBlock] at e; omega), hc1, fun a e => by subst e; exact (hown'.lt a.block rfl).2⟩
  clear hrun hown' hgrow hm h2 h hc1
  go_enter Tryz.func50, Tryz.ntmps50
  go_wp2_with (at_builtin; refine wpList_append_run rfl (.tmp 3) (.tmp 4) 22 22 rfl rfl rfl HR.out ?_)
  go_ret
  obtain ⟨h1, hB, hc, hk⟩ := HF.out
  exact ⟨⟨_, rfl, hB.size, A1, n, c1, Whole.new w' _ _, hc, hn, ⟨(fun e => by cases e), hk⟩, (fun l' e => by cases e; exact h1.keep ((Below.refl _ _).alloc (Nat.le_refl _) _))⟩, hB.alloc hB.size _⟩
theorem rvalid_any (C : Nat) (x y : Value) (w : World) (h : Whole w C 154 #[.bool true, x, y]) :
    Calls Tryz.prog 115 #[.pointer (some ⟨C, 0, none⟩)] w fun e w' => e = .returned (.bool true) ∧ w = w' := by
  have c0 := h.cell 0
  simp only [List.getElem?_toArray, List.getElem?_cons_zero] at c0
  clear h
  go_enter Tryz.func115, Tryz.ntmps115
  go_wp2
  go_ret
  exact ⟨rfl, rfl⟩
set_option maxHeartbeats 1000000 in
theorem qfail_any (C : Nat) (st : WS) (w : World) (h : RdQ w C st) :
    Calls Tryz.prog 52 #[.pointer (some ⟨C, 0, none⟩)] w fun e w' => e = .returned (.tuple #[]) ∧ RdQ w' C none ∧ w.grownBy w' (some C) := by
  obtain ⟨A, n, c, h1, _⟩ := h
  have V := Lib.hid (rvalid_any C _ _ w h1)
  have c1 := h1.cell 1
  have c2 := h1.cell 2
  have f1 := h1.fr 1
  have f2 := h1.fr 2
  simp only [List.getElem?_toArray, List.getElem?_cons_succ, List.getElem?_cons_zero] at c1 c2
  have HF : Hid (RdQ ((w.setCell ⟨C, 2, none⟩ (.bool true)).setCell ⟨C, 1, none⟩ (.slice none 0 0)) C none ∧ w.grownBy ((w.setCell ⟨C, 2, none⟩ (.bool true)).setCell ⟨C, 1, none⟩ (.slice none 0 0)) (some C)) :=
    Lib.hid ⟨⟨none, 0, 0, by simpa using (h1.put 2 (.bool true)).put 1 (.slice none 0 0), Nat.le_refl _, by omega, ⟨fun _ => ⟨rfl, rfl, rfl⟩, fun a e => by cases e⟩, fun l e => by cases e⟩, grown_set (grown_set (World.grownBy.refl w _) 2 _) 1 _⟩
  have d2 : (w.setCell ⟨C, 2, none⟩ (.bool true)).cell? ⟨C, 1, none⟩ = some (.slice A n c) := by
    have := (h1.put 2 (.bool true)).cell 1
    simpa using this
  clear h1
  go_enter Tryz.func52, Tryz.ntmps52
  go_wp2_with (go_at_call 115; refine V.out.mono ?_; rintro e w1 ⟨rfl, rfl⟩)
  go_end0
  exact ⟨rfl, HF.out⟩
theorem cut_to (A : Option Addr) (n c hi : Nat) (h2 : hi ≤ c) (w : World) : (Instr.slice 22 (.slice A n c) none (some (.int .i64 (hi : Int))) none).run Tryz.prog w = .ok (sliced A 0 hi c 1) w := by
  have hs : (sizeOf (Tryz.prog.elem 22)).run Tryz.prog w = .ok 1 w := by kernel_rfl
  have hu : Tryz.prog.underlying 22 = some (.slice (Tryz.prog.elem 22)) := by kernel_rfl
  rw [run_slice_h w 22 A n c hu .i64 (hi : Int) (by omega) (by omega), hs]
  rfl
theorem add_mod {V a d x k : Nat} (ha : a = V % 2 ^ 64) (hd : d = x % 128) : IntKind.u64.wrap ((a : Int) + IntKind.u64.wrap ((d : Int) * 2 ^ (7 * k))) = (((V + x % 128 * 128 ^ k) % 2 ^ 64 : Nat) : Int) := by
  have hc : (d : Int) * 2 ^ (7 * k) = ((d * 128 ^ k : Nat) : Int) := by rw [pow128]; simp
  rw [hc, IntKind.wrap_u64, IntKind.wrap_u64, ← hd, ha]
  generalize d * 128 ^ k = m
  have : (2 : Nat) ^ 64 = 18446744073709551616 := by decide
  rw [this]
  omega
end Go.Proofs.YtgjnmfmbheejoaaGreatDoor
