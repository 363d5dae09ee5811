/- Merged by program: Name, RefName, Whole, Gen, DfMem, DfChk, DfRck. -/
import Derived.Test.YtojodekmmkemgaaGreatDoorShelf
import Derived.Test.YtojodekmmkemgaaGreatDoorPlS
import Derived.WalkKit
import Derived.WalkSpells
import Derived.WalkLawsBesides
import Derived.Lib.Hide
import Derived.Below
import Derived.Laws.Rows
import Derived.RangeFuncBox
import Derived.Handy
import Derived.Maps.AppendAt
import Derived.Deep.RegionHeld3
import Derived.IntWalk
import Derived.Outline
import Derived.Deep.QuietTactic
import Derived.BigQuiet
namespace Go.Proofs.YtojodekmmkemgaaGreatDoor
section
open Go.RowKit Go.Shelf Go.Lib

set_option maxHeartbeats 400000 in
theorem name1_any (r : Nat) (w : World) : Calls Tryz.prog 129 #[.int .i32 r] w fun e w' => e = .returned (.bool (decide (122 < r))) ∧ w = w' := by
  go_enter Tryz.func129, Tryz.ntmps129
  go_wp2
  go_ret
  exact ⟨by congr 2; simp; omega, rfl⟩

theorem trim_laid (s : ByteArray) (w : World) (hs : s.size ≤ 9223372036854775807) :
    Calls Tryz.prog 127 #[.string s, .string ⟨#[97, 98, 99, 100, 101, 102, 103, 104, 105, 106, 107, 108, 109, 110, 111, 112, 113, 114, 115, 116, 117, 118, 119, 120, 121, 122, 48, 49, 50, 51, 52, 53, 54, 55, 56, 57]⟩] w
      fun e w' => e = .returned (.string ⟨(Lib.trimS s.data.toList alnum).toArray⟩) ∧ Below w.heap.size w w' :=
  Any.strings_Trim_laid Tryz.lays160 (by kernel_rfl) s _ w hs (by decide) (ascii_of_all (by decide))

theorem name1_grows (w : World) : PredGrows Tryz.prog 129 #[] (fun r => decide (122 < r)) w := by
  intro W x _ _
  refine (name1_any x W).mono ?_
  rintro e w' ⟨rfl, rfl⟩
  exact ⟨rfl, Below.refl _ _⟩

theorem contains1 (s : ByteArray) (w : World) (h : s.data.toList.all nmB = true) :
    Calls Tryz.prog 128 #[.string s, .func (.func 129) #[] #[]] w fun e w' => e = .returned (.bool false) ∧ Below w.heap.size w w' := by
  refine (Tryz.strings_ContainsFunc_grows 129 #[] (enters_of Tryz.func129 (by kernel_rfl) rfl) _ s w (name1_grows w)).mono ?_
  rintro e w' ⟨rfl, hb⟩
  refine ⟨?_, hb⟩
  unfold Lib.idxFunc
  rw [idx_name s h]
  rfl

set_option maxHeartbeats 400000 in
theorem name_any (s : ByteArray) (w : World) (hs : s.size ≤ 9223372036854775807) :
    Calls Tryz.prog 94 #[.string s] w fun e w' => e = .returned (.bool (isName s.data.toList)) ∧ Below w.heap.size w w' := by
  have hl : s.data.toList.length = s.size := by rw [← Lib.size_eq]
  by_cases h1 : 1 ≤ s.size
  · by_cases h2 : s.size ≤ 16
    · by_cases h3 : s.data.toList.all nmB = true
      · have hT := trim_laid s w hs
        have he : (Lib.trimS s.data.toList alnum).isEmpty = true := by rw [trim_alnum]; exact h3
        have he' : Lib.trimS s.data.toList alnum = [] := List.isEmpty_iff.1 he
        rw [he'] at hT
        have hfin : isName s.data.toList = true := isName_yes hl h1 h2 h3
        have HF := Lib.hid hfin
        have H3 := Lib.hid h3
        clear hfin h3 he he' hl
        go_enter Tryz.func94, Tryz.ntmps94
        go_wp2_with (first
          | (go_at_call 127; refine hT.mono ?_; rintro e w1 ⟨rfl, hb1⟩)
          | (go_at_call 128; refine (contains1 s _ H3.out).mono ?_; rintro e w2 ⟨rfl, hb2⟩))
        go_ret
        exact ⟨by rw [HF.out]; rfl, hb1.trans (hb2.mono hb1.size)⟩
      · have hT := trim_laid s w hs
        have he : (Lib.trimS s.data.toList alnum).isEmpty = false := by rw [trim_alnum]; simpa using h3
        have hfin : isName s.data.toList = false := isName_no hl (fun h => h3 h.2.2)
        have HF := Lib.hid hfin
        generalize Lib.trimS s.data.toList alnum = t at hT he
        clear hfin h3 hl
        go_enter Tryz.func94, Tryz.ntmps94
        go_wp2_with (first
          | (go_at_call 127; refine hT.mono ?_; rintro e w1 ⟨rfl, hb1⟩)
          | (go_at_call 128; fail))
        go_ret
        exact ⟨by rw [HF.out]; rfl, hb1⟩
    · have hfin : isName s.data.toList = false := isName_no hl (fun h => h2 h.2.1)
      have HF := Lib.hid hfin
      clear hfin hl
      go_enter Tryz.func94, Tryz.ntmps94
      go_wp2
      go_ret
      exact ⟨by rw [HF.out]; rfl, Below.refl _ _⟩
  · have hfin : isName s.data.toList = false := isName_no hl (fun h => h1 h.1)
    have HF := Lib.hid hfin
    clear hfin hl
    go_enter Tryz.func94, Tryz.ntmps94
    go_wp2
    go_ret
    exact ⟨by rw [HF.out]; rfl, Below.refl _ _⟩
end
section
open Go.RowKit

theorem nmB_iff {c : UInt8} : nmB c = true ↔ (97 ≤ (c.toNat : Int) ∧ (c.toNat : Int) ≤ 122) ∨ (48 ≤ (c.toNat : Int) ∧ (c.toNat : Int) ≤ 57) := by
  unfold nmB
  simp only [Bool.or_eq_true, Bool.and_eq_true, decide_eq_true_eq]
  omega
theorem all_get {s : ByteArray} (h : ∀ t (h : t < s.size), nmB (s[t]'h) = true) : s.data.toList.all nmB = true := by
  rw [List.all_eq_true]
  intro x hx
  obtain ⟨t, ht, rfl⟩ := List.getElem_of_mem hx
  have := h t (by rw [Lib.size_eq]; exact ht)
  exact this
theorem get_bad {s : ByteArray} {t : Nat} (ht : t < s.size) (h : ¬ nmB (s[t]'ht) = true) : ¬ s.data.toList.all nmB = true := fun h2 =>
  h (List.all_eq_true.1 h2 _ (List.getElem_mem (by rw [← Lib.size_eq]; exact ht)))

set_option maxHeartbeats 1000000 in
theorem refName_any (s : ByteArray) (w : World) (hs : s.size ≤ 9223372036854775807) :
    Calls Tryz.prog 97 #[.string s] w fun e w' => e = .returned (.bool (isName s.data.toList)) ∧ w = w' := by
  have hl : s.data.toList.length = s.size := by rw [← Lib.size_eq]
  generalize hq : isName s.data.toList = q
  have HQ := Lib.hid hq
  clear hq
  go_enter Tryz.func97, Tryz.ntmps97
  go_wp2
  go_loop [3] (fun n => ∃ j : Nat, j ≤ s.size ∧ n = .int .i64 j ∧ Hid (∀ t (h : t < s.size), t < j → nmB (s[t]'h) = true)) (fun n => s.size - (intOf n).toNat)
  case atStart => exact ⟨0, Nat.zero_le _, rfl, Lib.hid (fun _ _ h => absurd h (Nat.not_lt_zero _))⟩
  case round =>
    obtain ⟨j, hj, rfl, hall⟩ := hrel
    by_cases hlt : j < s.size
    · by_cases hg : nmB (s[j]'hlt) = true
      · have hn : Hid (∀ t (h : t < s.size), t < j + 1 → nmB (s[t]'h) = true) := Lib.hid (fun t h ht => by
          by_cases e : t = j
          · subst e; exact hg
          · exact hall.out t h (by omega))
        rcases nmB_iff.1 hg with ⟨g1, g2⟩ | ⟨g1, g2⟩
        all_goals
          clear hg
          go_wp2
          go_round
          case rel => exact ⟨j + 1, by omega, by go_num, hn⟩
          case measure => simp [intOf]; omega
      · obtain rfl : q = false := by rw [← HQ.out]; exact isName_no hl (fun h => get_bad hlt hg h.2.2)
        have h3 : ((s[j]'hlt).toNat : Int) < 48 ∨ (57 < ((s[j]'hlt).toNat : Int) ∧ ((s[j]'hlt).toNat : Int) < 97) ∨ 122 < ((s[j]'hlt).toNat : Int) := by
          rw [nmB_iff] at hg
          omega
        clear hg hall
        rcases h3 with g1 | ⟨g1, g2⟩ | g1
        all_goals
          go_wp2
          go_ret
          exact ⟨rfl, rfl⟩
    · obtain rfl : j = s.size := by omega
      have ha := all_get (fun t h => hall.out t h h)
      clear hall
      by_cases h1 : 1 ≤ s.size
      · by_cases h2 : s.size ≤ 16
        · obtain rfl : q = true := by rw [← HQ.out]; exact isName_yes hl h1 h2 ha
          have hd : decide ((s.size : Int) ≤ 16) = true := by simp; omega
          go_wp2
          go_ret
          exact ⟨by rw [← hd]; rfl, rfl⟩
        · obtain rfl : q = false := by rw [← HQ.out]; exact isName_no hl (fun h => h2 h.2.1)
          have hd : decide ((s.size : Int) ≤ 16) = false := by simp; omega
          go_wp2
          go_ret
          exact ⟨by rw [← hd]; rfl, rfl⟩
      · obtain rfl : q = false := by rw [← HQ.out]; exact isName_no hl (fun h => h1 h.1)
        go_wp2
        go_ret
        exact ⟨rfl, rfl⟩
end
section
open Go.RowKit

/-- A block that is known whole, not frozen. -/
def Whole (w : World) (b : Nat) (t : TypeId) (cs : Array Value) : Prop := w.heap[b]? = some (.cells cs t (0, 0))
section
variable {w w' : World} {b : Nat} {t : TypeId} {cs : Array Value}
theorem Whole.cell (h : Whole w b t cs) (i : Nat) : w.cell? ⟨b, i, none⟩ = cs[i]? := cell_of_row w b i cs t (0, 0) h
theorem Whole.fr (h : Whole w b t cs) (i : Nat) : w.frozen? ⟨b, i, none⟩ = false := by unfold Whole at h; simp [World.frozen?, h]
theorem Whole.lt (h : Whole w b t cs) : b < w.heap.size := by
  rcases Nat.lt_or_ge b w.heap.size with hlt | hge
  · exact hlt
  · unfold Whole at h; rw [Array.getElem?_eq_none hge] at h; cases h
theorem Whole.new (w : World) (t : TypeId) (cs : Array Value) : Whole (w.alloc (.cells cs t)) w.heap.size t cs := heap_alloc_new w _
theorem Whole.below {B : Nat} (h : Whole w b t cs) (hb : Below B w w') (hB : b < B) : Whole w' b t cs := (hb.block b hB).trans h
theorem Whole.alloc (h : Whole w b t cs) (o : Obj) : Whole (w.alloc o) b t cs := (Below.heap_alloc w o b h.lt).trans h
theorem Whole.put (h : Whole w b t cs) (i : Nat) (v : Value) : Whole (w.setCell ⟨b, i, none⟩ v) b t (cs.setIfInBounds i v) := by
  unfold Whole at h ⊢
  simp [World.setCell, Array.getElem?_modify, h]
theorem Whole.far {p : Addr} (h : Whole w b t cs) (hne : b ≠ p.block) (v : Value) : Whole (w.setCell p v) b t cs := (Below.heap_setCell w p v b hne).trans h
end
end
section
open Go.RowKit

theorem lt_cell {w : World} {p : Addr} {v : Value} (h : w.cell? p = some v) : p.block < w.heap.size := by
  rcases Nat.lt_or_ge p.block w.heap.size with h1 | h1
  · exact h1
  · unfold World.cell? at h
    rw [Array.getElem?_eq_none h1] at h
    simp at h
theorem gbelow {w w' : World} (h : Below w.heap.size w w') : w.grownBy w' none := ⟨h.os, h.tape, h.output, h.size, fun k hk _ => h.block k hk⟩
theorem gcell {w w' : World} {row : Option Nat} {a : Addr} {u : Value} (h : w.cell? a = some u) (hg : w.grownBy w' row) (hne : some a.block ≠ row) : w'.cell? a = some u :=
  (World.cell?_of_block (hg.block a.block (lt_cell h) hne)).trans h
theorem bcell {w w' : World} {a : Addr} {u : Value} (h : w.cell? a = some u) (hb : Below w.heap.size w w') : w'.cell? a = some u := (hb.cell (lt_cell h)).trans h
theorem acell {w : World} {a : Addr} {v : Value} (o : Obj) (h : w.cell? a = some v) : (w.alloc o).cell? a = some v := bcell h ((Below.refl _ _).alloc (Nat.le_refl _) o)
theorem Whole.grown {w w' : World} {b : Nat} {t : TypeId} {cs : Array Value} {row : Option Nat} (h : Whole w b t cs) (hg : w.grownBy w' row) (hne : some b ≠ row) : Whole w' b t cs := (hg.block b h.lt hne).trans h
theorem Whole.keep {w w' : World} {b : Nat} {t : TypeId} {cs : Array Value} (h : Whole w b t cs) (hb : Below w.heap.size w w') : Whole w' b t cs := h.below hb h.lt
theorem whole_ne {w : World} {b b' : Nat} {t t' : TypeId} {cs cs' : Array Value} (h : Whole w b t cs) (h' : Whole w b' t' cs') (ht : t ≠ t') : b ≠ b' := by
  rintro rfl
  have e := (show w.heap[b]? = _ from h).symm.trans (show w.heap[b]? = _ from h')
  injection e with e
  injection e with _ e2 _
  exact ht e2
theorem own_ne {W : World} {base n size R : Nat} {e t : TypeId} {v : Value} {xs : List Value} {cs : Array Value} (h : W.ownsRow base e size v n xs) (hr : Whole W R t cs) (ht : t ≠ e) : some R ≠ v.ownBlock := by
  rcases h.2 with ⟨rfl, _⟩ | ⟨g, cap, cur, rfl, _, hg, _⟩
  · intro h; cases h
  · intro h
    obtain rfl : R = g := by simpa [Value.ownBlock] using h
    have e := (show W.heap[R]? = _ from hg).symm.trans (show W.heap[R]? = _ from hr)
    injection e with e
    injection e with _ e2 _
    exact ht e2.symm
theorem grown_trans {a b c : World} {row : Option Nat} (h : a.grownBy b row) (k : b.grownBy c row) : a.grownBy c row :=
  ⟨k.os.trans h.os, k.tape.trans h.tape, k.output.trans h.output, Nat.le_trans h.size k.size, fun i hi hne => (k.block i (Nat.lt_of_lt_of_le hi h.size) hne).trans (h.block i hi hne)⟩
theorem grown_below {a b c : World} {row : Option Nat} (h : a.grownBy b row) (k : Below b.heap.size b c) : a.grownBy c row :=
  ⟨k.os.trans h.os, k.tape.trans h.tape, k.output.trans h.output, Nat.le_trans h.size k.size, fun i hi hne => (k.block i (Nat.lt_of_lt_of_le hi h.size)).trans (h.block i hi hne)⟩
theorem below_grown {a b c : World} {row : Option Nat} (h : Below a.heap.size a b) (k : b.grownBy c row) : a.grownBy c row :=
  ⟨k.os.trans h.os, k.tape.trans h.tape, k.output.trans h.output, Nat.le_trans h.size k.size, fun i hi hne => (k.block i (Nat.lt_of_lt_of_le hi h.size) hne).trans (h.block i hi)⟩
theorem grown_set {a w : World} {g : Nat} (h : a.grownBy w (some g)) (i : Nat) (u : Value) : a.grownBy (w.setCell ⟨g, i, none⟩ u) (some g) :=
  ⟨h.os, h.tape, h.output, by simpa [World.setCell] using h.size, fun k hk hne => (Below.heap_setCell w ⟨g, i, none⟩ u k (by rintro rfl; exact hne rfl)).trans (h.block k hk hne)⟩
/-- An append whose run is known, at the walk's list. -/
theorem wpList_append_run {P : Program} {ops : Array Oper} {rest : List Oper} {o : Oper} {a : Act} {w : World} {Q : Exit → Act → World → Prop} (hgd : o.guard = none) (s x : Operand) (t t' : TypeId)
    (ho : o.op = .call { callee := .builtin .append, args := #[s, x], argTypes := #[t, t'] }) {v xv v' : Value} {w' : World} (hs : a.eval s = v) (hx : a.eval x = xv) (hrun : (Builtin.append_ #[t, t'] o.type #[v, xv]).run P w = .ok v' w')
    (h : wpList P ops Q rest (a.put o.dst v') w') : wpList P ops Q (o :: rest) a w :=
  wpList_plain hgd fun _ hK => by
    unfold Oper.wp execOp
    simp only [ho, resolve, invoke, builtin, Sem.run_bind, Sem.run_pure, Result.andThen_ok, List.map_toArray, List.map_cons, List.map_nil, hs, hx, hrun]
    exact hK _ _ h
theorem step_append_run {P : Program} {ops : Array Oper} {o : Oper} {a : Act} {w : World} {K : Act → World → Prop} {Q : Exit → Act → World → Prop} {E : Prop} (hgd : o.guard = none) (s x : Operand) (t t' : TypeId)
    (ho : o.op = .call { callee := .builtin .append, args := #[s, x], argTypes := #[t, t'] }) {v xv v' : Value} {w' : World} (hs : a.eval s = v) (hx : a.eval x = xv) (hrun : (Builtin.append_ #[t, t'] o.type #[v, xv]).run P w = .ok v' w')
    (h : K (a.put o.dst v') w') : if Region.wanted o (yielded ops a.tmps) = true then Oper.wp P o a w K Q else E := by
  have hw : Region.wanted o (yielded ops a.tmps) = true := by simp [Region.wanted, hgd]
  rw [if_pos hw]
  unfold Oper.wp execOp
  simp only [ho, resolve, invoke, builtin, Sem.run_bind, Sem.run_pure, Result.andThen_ok, List.map_toArray, List.map_cons, List.map_nil, hs, hx, hrun]
  exact h
/-- The cells of a new block, in order. -/
theorem news_at (w : World) (T : TypeId) (cs : List Value) (b : Nat) (hb : b = w.heap.size) : ∀ j u, cs[j]? = some u → (w.alloc (.cells cs.toArray T)).cell? ((⟨b, 0, none⟩ : Addr).add j) = some u := fun j u hj => by
  subst hb
  have h := (Whole.new w T cs.toArray).cell j
  rw [show (⟨w.heap.size, 0, none⟩ : Addr).add j = ⟨w.heap.size, j, none⟩ by unfold Addr.add; split <;> simp_all]
  rw [h]
  simpa using hj

/-- Bytes as values, and slices that read as bytes. -/
def u8V (c : UInt8) : Value := .int .u8 (c.toNat : Int)
def bV (l : List UInt8) : List Value := l.map u8V
theorem bV_len (l : List UInt8) : (bV l).length = l.length := List.length_map _
theorem bV_app (a b : List UInt8) : bV (a ++ b) = bV a ++ bV b := List.map_append
def SlB (w : World) (A : Option Addr) (n : Nat) (l : List UInt8) : Prop :=
  l.length = n ∧ ∀ (i : Nat) c, l[i]? = some c → ∃ g o, A = some ⟨g, o, none⟩ ∧ w.cell? ⟨g, o + i, none⟩ = some (u8V c)
theorem SlB.grown {w w' : World} {A : Option Addr} {n : Nat} {l : List UInt8} {row : Option Nat} (h : SlB w A n l) (hg : w.grownBy w' row) (hne : ∀ a : Addr, A = some a → l ≠ [] → some a.block ≠ row) : SlB w' A n l :=
  ⟨h.1, fun i c hi => by
    obtain ⟨g, o, rfl, hc⟩ := h.2 i c hi
    exact ⟨g, o, rfl, gcell hc hg (hne ⟨g, o, none⟩ rfl (fun e => by rw [e] at hi; simp at hi))⟩⟩
theorem SlB.keep {w w' : World} {A : Option Addr} {n : Nat} {l : List UInt8} (h : SlB w A n l) (hb : Below w.heap.size w w') : SlB w' A n l := h.grown (gbelow hb) (by simp)
theorem SlB.of_own {w : World} {base n c : Nat} {e : TypeId} {A : Option Addr} {l : List UInt8} (h : w.ownsRow base e 1 (.slice A n c) n (bV l)) : SlB w A n l := by
  have hn : l.length = n := by have := h.1; rw [bV_len] at this; omega
  refine ⟨hn, fun i x hi => ?_⟩
  have hlt : i < n := by rw [← hn]; exact (List.getElem?_eq_some_iff.1 hi).1
  rcases h.2 with ⟨_, h2⟩ | ⟨g, cap, cur, h1, _, _⟩
  · omega
  · cases h1
    refine ⟨g, 0, rfl, ?_⟩
    have e : (bV l)[i]? = some (u8V x) := by unfold bV; rw [List.getElem?_map, hi]; rfl
    have := h.cellAt i (by omega)
    rw [Nat.zero_add, this, e]
end
section
open Go.RowKit Go.Shelf

def stV (p : Sp) : Value := .agg #[.string p.k, .int .i64 p.v]
def stC (p : Sp) : List Value := [.string p.k, .int .i64 p.v]
/-- A slice holds these steps. -/
def SlD (w : World) (A : Option Addr) (s : List Sp) : Prop := ∀ (i : Nat) p, s[i]? = some p → ∃ g o, A = some ⟨g, o, none⟩ ∧ w.cell? ⟨g, o + i * 2, none⟩ = some (.string p.k) ∧ w.cell? ⟨g, o + i * 2 + 1, none⟩ = some (.int .i64 p.v)
theorem SlD.grown {w w' : World} {A : Option Addr} {s : List Sp} {row : Option Nat} (h : SlD w A s) (hg : w.grownBy w' row) (hne : ∀ a : Addr, A = some a → s ≠ [] → some a.block ≠ row) : SlD w' A s := fun i p hi => by
  obtain ⟨g, o, rfl, c0, c1⟩ := h i p hi
  have hn := hne ⟨g, o, none⟩ rfl (fun e => by rw [e] at hi; simp at hi)
  exact ⟨g, o, rfl, gcell c0 hg hn, gcell c1 hg hn⟩
theorem SlD.keep {w w' : World} {A : Option Addr} {s : List Sp} (h : SlD w A s) (hb : Below w.heap.size w w') : SlD w' A s := h.grown (gbelow hb) (by simp)
/-- Sizes of a definition's parts. -/
def SpZ (p : Sp) : Prop := p.k.size ≤ 9223372036854775807 ∧ -9223372036854775808 ≤ p.v ∧ p.v ≤ 9223372036854775807
structure DefZ (d : Dv) : Prop where
  n : d.n.size ≤ 9223372036854775807
  r : -9223372036854775808 ≤ d.r ∧ d.r ≤ 9223372036854775807
  dl : -9223372036854775808 ≤ d.dl ∧ d.dl ≤ 9223372036854775807
  s : ∀ (i : Nat) p, d.s[i]? = some p → SpZ p
def dV (d : Dv) (A : Option Addr) (n c : Nat) : Value := .agg #[.string d.n, .int .i64 d.r, .int .i64 d.dl, .slice A n c]
/-- A definition in memory. -/
structure DefAt (w : World) (A : Option Addr) (n c : Nat) (d : Dv) : Prop where
  len : d.s.length = n
  le : n ≤ c
  big : n ≤ 1000000000000
  z : DefZ d
  s : SlD w A d.s
theorem DefAt.keep {w w' : World} {A : Option Addr} {n c : Nat} {d : Dv} (h : DefAt w A n c d) (hb : Below w.heap.size w w') : DefAt w' A n c d := ⟨h.len, h.le, h.big, h.z, h.s.keep hb⟩
theorem DefAt.grown {w w' : World} {A : Option Addr} {n c : Nat} {d : Dv} {row : Option Nat} (h : DefAt w A n c d) (hg : w.grownBy w' row) (hne : ∀ a : Addr, A = some a → d.s ≠ [] → some a.block ≠ row) : DefAt w' A n c d := ⟨h.len, h.le, h.big, h.z, h.s.grown hg hne⟩

theorem numCheck_any (a : Int) (w : World) : Calls Tryz.prog 126 #[.int .i64 a] w fun e w' => e = .returned (.int .i64 (if -1152921504606846976 ≤ a ∧ a ≤ 1152921504606846976 then 0 else 7)) ∧ w = w' := by
  by_cases h1 : a < -1152921504606846976
  · rw [if_neg (by omega)]
    go_enter Tryz.func126, Tryz.ntmps126
    go_wp2
    go_ret
    exact ⟨rfl, rfl⟩
  · by_cases h2 : 1152921504606846976 < a
    · rw [if_neg (by omega)]
      go_enter Tryz.func126, Tryz.ntmps126
      go_wp2
      go_ret
      exact ⟨rfl, rfl⟩
    · rw [if_pos (by omega)]
      go_enter Tryz.func126, Tryz.ntmps126
      go_wp2
      go_ret
      exact ⟨rfl, rfl⟩
theorem in_any (n m : Int) (w : World) : Calls Tryz.prog 123 #[.int .i64 n, .int .i64 m] w fun e w' => e = .returned (.bool (decide (0 ≤ n ∧ n ≤ m))) ∧ w = w' := by
  generalize hq : decide (0 ≤ n ∧ n ≤ m) = q
  have HQ := Lib.hid hq
  clear hq
  by_cases h1 : 0 ≤ n <;> by_cases h2 : n ≤ m
  all_goals
    go_enter Tryz.func123, Tryz.ntmps123
    go_wp2
    go_ret
    exact ⟨by rw [← HQ.out]; simp [h1, h2] <;> omega, rfl⟩
/-- The closure of Check. -/
theorem check1_any (q : Sp) (K : Nat) (key : ByteArray) (w : World) (hK : w.cell? ⟨K, 0, none⟩ = some (.string key)) :
    Calls Tryz.prog 125 #[stV q, .pointer (some ⟨K, 0, none⟩)] w fun e w' => e = .returned (.bool (q.k.toList == key.toList)) ∧ Below w.heap.size w w' := by
  have k2 := acell (.cells #[.string q.k, .int .i64 q.v] 71) hK
  unfold stV
  go_enter Tryz.func125, Tryz.ntmps125
  go_wp2
  go_ret
  exact ⟨rfl, (Below.refl _ _).alloc (Nat.le_refl _) _⟩
/-- Does a key stand among the first steps? -/
def hasK (s : List Sp) (k : Nat) (key : ByteArray) : Prop := ∃ (j : Nat) (q : Sp), j < k ∧ s[j]? = some q ∧ q.k = key
theorem key_eq {a b : ByteArray} : (a.toList == b.toList) = true ↔ a = b := by
  rw [beq_iff_eq]
  exact ⟨fun h => ba_toList h, fun h => by rw [h]⟩
theorem key_ne {a b : ByteArray} : (a.toList == b.toList) = false ↔ a ≠ b := by
  rw [beq_eq_false_iff_ne]
  exact ⟨fun h e => h (by rw [e]), fun h e => h (ba_toList e)⟩
set_option maxRecDepth 100000 in
set_option maxHeartbeats 4000000 in
theorem idxF_any (A : Option Addr) (n c K : Nat) (s : List Sp) (key : ByteArray) (w : World) (hs : SlD w A s) (hn : n ≤ s.length) (hb : n ≤ 1000000000000) (hK : w.cell? ⟨K, 0, none⟩ = some (.string key)) :
    Calls Tryz.prog 144 #[.slice A n c, .func (.func 125) #[] #[.pointer (some ⟨K, 0, none⟩)]] w fun e w' => (∃ r : Int, e = .returned (.int .i64 r) ∧ (0 ≤ r ↔ hasK s n key)) ∧ Below w.heap.size w w' := by
  have HS := Lib.hid hs
  have HKK := Lib.hid hK
  have HN := Lib.hid hn
  have F := Lib.hid (fun q W hK => check1_any q K key W hK)
  unfold stV at F
  clear hs hK hn
  go_enter Tryz.func144, Tryz.ntmps144
  go_wp2_with fail
  go_loopw [8] (fun i wr => Below w.heap.size w wr ∧ ∃ k : Nat, k ≤ n ∧ i = .int .i64 k ∧ Hid (¬ hasK s k key)) (fun i _ => n - (intOf i).toNat)
  case atStart => exact ⟨Below.refl _ _, 0, Nat.zero_le _, rfl, Lib.hid (fun ⟨j, q, h, _⟩ => absurd h (Nat.not_lt_zero _))⟩
  case round =>
    obtain ⟨b2, k, hk', rfl, H0⟩ := hrel
    by_cases hlt : k < n
    · obtain ⟨p, hp⟩ : ∃ p, s[k]? = some p := ⟨_, List.getElem?_eq_getElem (Nat.lt_of_lt_of_le hlt HN.out)⟩
      obtain ⟨g, o, rfl, x0, x1⟩ := (HS.out.keep b2) k p hp
      have dK := bcell HKK.out b2
      have F1 := Lib.hid (F.out p wr dK)
      have B2 := Lib.hid b2
      have HP := Lib.hid hp
      clear hp F b2
      cases hq : (p.k.toList == key.toList) with
      | true =>
        rw [hq] at F1
        have HI : Hid (hasK s n key) := Lib.hid ⟨k, p, hlt, HP.out, key_eq.1 hq⟩
        clear hq
        go_wp2_with fail
        refine F1.out.mono ?_
        rintro e1 w1 ⟨rfl, hb⟩
        go_wp2_with fail
        go_ret
        exact ⟨⟨_, rfl, by simp [HI.out]⟩, B2.out.trans (hb.mono B2.out.size)⟩
      | false =>
        rw [hq] at F1
        have HI : Hid (¬ hasK s (k + 1) key) := Lib.hid (fun ⟨j, q, h, h2, h3⟩ => by
          by_cases e : j = k
          · subst e; rw [HP.out] at h2; cases h2; exact key_ne.1 hq h3
          · exact H0.out ⟨j, q, by omega, h2, h3⟩)
        clear hq
        go_wp2_with fail
        refine F1.out.mono ?_
        rintro e1 w1 ⟨rfl, hb⟩
        go_wp2_with fail
        go_roundw
        case rel => exact ⟨B2.out.trans (hb.mono B2.out.size), k + 1, by omega, by go_num, HI⟩
        case measure => simp [intOf]; omega
    · obtain rfl : k = n := by omega
      have HI : Hid (¬ hasK s k key) := H0
      clear H0
      go_wp2_with fail
      go_ret
      exact ⟨⟨_, rfl, by simp [HI.out]⟩, b2⟩
theorem contF_any (A : Option Addr) (n c K : Nat) (s : List Sp) (key : ByteArray) (w : World) (hs : SlD w A s) (hn : n ≤ s.length) (hb : n ≤ 1000000000000) (hK : w.cell? ⟨K, 0, none⟩ = some (.string key)) :
    Calls Tryz.prog 124 #[.slice A n c, .func (.func 125) #[] #[.pointer (some ⟨K, 0, none⟩)]] w fun e w' => (∃ b : Bool, e = .returned (.bool b) ∧ (b = true ↔ hasK s n key)) ∧ Below w.heap.size w w' := by
  have I := Lib.hid (idxF_any A n c K s key w hs hn hb hK)
  clear hs hn hb hK
  go_enter Tryz.func124, Tryz.ntmps124
  go_wp2_with (go_at_call 144; refine I.out.mono ?_; rintro e w1 ⟨⟨r, rfl, hr⟩, hB⟩; have HR := Lib.hid hr; clear hr)
  go_ret
  exact ⟨⟨_, rfl, by rw [← HR.out]; simp⟩, hB⟩
end
section
open Go.RowKit Go.Shelf

set_option maxRecDepth 100000 in
theorem cut_steps (A : Option Addr) (n c hi : Nat) (h2 : hi ≤ c) (w : World) : (Instr.slice 30 (.slice A n c) none (some (.int .i64 (hi : Int))) none).run Tryz.prog w = .ok (.slice A hi c) w := by
  have hs : (sizeOf (Tryz.prog.elem 30)).run Tryz.prog w = .ok 2 w := by kernel_rfl
  have hu : Tryz.prog.underlying 30 = some (.slice (Tryz.prog.elem 30)) := by kernel_rfl
  rw [run_slice_h w 30 A n c hu .i64 (hi : Int) (by omega) (by omega), hs]
  show Result.ok (sliced A 0 hi c 2) w = _
  unfold sliced
  congr 2
  rcases A with _ | a
  · simp
  · simp [Addr.add]
/-- What the loop of Check holds: the steps so far are valid, with keys of their own. -/
def GoodK (s : List Sp) (k : Nat) : Prop := ∀ (i : Nat) p, i < k → s[i]? = some p → stOk p = true ∧ ¬ hasK s i p.k
theorem GoodK.next {s : List Sp} {k : Nat} {p : Sp} (h : GoodK s k) (hp : s[k]? = some p) (h1 : stOk p = true) (h2 : ¬ hasK s k p.k) : GoodK s (k + 1) := fun i q hi hq => by
  by_cases e : i = k
  · subst e; rw [hp] at hq; cases hq; exact ⟨h1, h2⟩
  · exact h i q (by omega) hq
theorem good_all {s : List Sp} (h : GoodK s s.length) : StepsOk s := fun i p hp =>
  have := h i p (List.getElem?_eq_some_iff.1 hp).1 hp
  ⟨this.1, fun j q hj hq e => this.2 ⟨j, q, hj, hq, e⟩⟩
theorem good_not {s : List Sp} {k : Nat} {p : Sp} (hp : s[k]? = some p) (h : ¬ (stOk p = true ∧ ¬ hasK s k p.k)) : ¬ StepsOk s := fun hs =>
  h ⟨(hs k p hp).1, fun ⟨j, q, hj, hq, e⟩ => (hs k p hp).2 j q hj hq e⟩
def hdOk (d : Dv) : Prop := isName d.n.data.toList = true ∧ (0 ≤ d.r ∧ d.r ≤ 20) ∧ (0 ≤ d.dl ∧ d.dl ≤ 100000) ∧ 1 ≤ d.s.length ∧ d.s.length ≤ 8
theorem ckD_hd {d : Dv} (h : ¬ hdOk d) : ckD d = 15 := ckD_no (fun ⟨h1, h2, h3, h4, h5, h6, h7, _⟩ => h ⟨h1, ⟨h2, h3⟩, ⟨h4, h5⟩, h6, h7⟩)
theorem ckD_st {d : Dv} (h : ¬ StepsOk d.s) : ckD d = 15 := ckD_no (fun ⟨_, _, _, _, _, _, _, h8⟩ => h h8)
theorem ckD_good {d : Dv} (h : hdOk d) (h2 : StepsOk d.s) : ckD d = 0 := ckD_yes ⟨h.1, h.2.1.1, h.2.1.2, h.2.2.1.1, h.2.2.1.2, h.2.2.2.1, h.2.2.2.2, h2⟩
set_option maxRecDepth 100000 in
set_option maxHeartbeats 8000000 in
theorem defCheck_any (d : Dv) (A : Option Addr) (n c : Nat) (w : World) (h : DefAt w A n c d) :
    Calls Tryz.prog 87 #[dV d A n c] w fun e w' => e = .returned (.int .i64 (ckD d)) ∧ Below w.heap.size w w' := by
  have HZ := Lib.hid h.z
  have H := Lib.hid h
  have hN := fun W => name_any d.n W h.z.n
  have hI1 := fun W => in_any d.r 20 W
  have hI2 := fun W => in_any d.dl 100000 W
  have hI3 := fun W => in_any ((n : Int) - 1) 7 W
  have b1 := (Below.refl w.heap.size w).alloc (Nat.le_refl _) (.cells #[.string d.n, .int .i64 d.r, .int .i64 d.dl, .slice A n c] 32)
  have BX := Whole.new w 32 #[.string d.n, .int .i64 d.r, .int .i64 d.dl, .slice A n c]
  have hbig := h.big
  have hwn : IntKind.i64.wrap ((n : Int) - 1) = (n : Int) - 1 := IntWalk.i64_in _ (by omega)
  generalize hq : ckD d = q
  have hlen := h.len
  unfold dV
  by_cases h0 : isName d.n.data.toList = true
  case neg =>
    have h0' : isName d.n.data.toList = false := by simpa using h0
    rw [h0'] at hN
    have HQ : Hid (q = 15) := Lib.hid (by rw [← hq]; exact ckD_hd (fun h => h0 h.1))
    have HB := Lib.hid b1
    clear hq BX hlen h b1
    go_enter Tryz.func87, Tryz.ntmps87
    go_wp2_with (first
      | (go_at_call 94; refine (hN _).mono ?_; rintro e w1 ⟨rfl, hb⟩; have BX1 := (Whole.new w 32 #[.string d.n, .int .i64 d.r, .int .i64 d.dl, .slice A n c]).keep hb; have x1 := BX1.cell 1; have x2 := BX1.cell 2; have x3 := BX1.cell 3; simp only [List.getElem?_toArray, List.getElem?_cons_succ, List.getElem?_cons_zero] at x1 x2 x3)
      | (go_at_call 123; refine (hI1 _).mono ?_; rintro e w2 ⟨rfl, rfl⟩; clear hI1)
      | (go_at_call 123; refine (hI2 _).mono ?_; rintro e w2 ⟨rfl, rfl⟩; clear hI2)
      | (go_at_call 123; refine (hI3 _).mono ?_; rintro e w2 ⟨rfl, rfl⟩; clear hI3))
    go_ret
    exact ⟨by rw [HQ.out]; rfl, HB.out.trans (hb.mono HB.out.size)⟩
  rw [h0] at hN
  by_cases h1 : 0 ≤ d.r ∧ d.r ≤ 20
  case neg =>
    rw [decide_eq_false h1] at hI1
    have HQ : Hid (q = 15) := Lib.hid (by rw [← hq]; exact ckD_hd (fun h => h1 h.2.1))
    have HB := Lib.hid b1
    clear hq BX hlen h b1
    go_enter Tryz.func87, Tryz.ntmps87
    go_wp2_with (first
      | (go_at_call 94; refine (hN _).mono ?_; rintro e w1 ⟨rfl, hb⟩; have BX1 := (Whole.new w 32 #[.string d.n, .int .i64 d.r, .int .i64 d.dl, .slice A n c]).keep hb; have x1 := BX1.cell 1; have x2 := BX1.cell 2; have x3 := BX1.cell 3; simp only [List.getElem?_toArray, List.getElem?_cons_succ, List.getElem?_cons_zero] at x1 x2 x3)
      | (go_at_call 123; refine (hI1 _).mono ?_; rintro e w2 ⟨rfl, rfl⟩; clear hI1)
      | (go_at_call 123; refine (hI2 _).mono ?_; rintro e w2 ⟨rfl, rfl⟩; clear hI2)
      | (go_at_call 123; refine (hI3 _).mono ?_; rintro e w2 ⟨rfl, rfl⟩; clear hI3))
    go_ret
    exact ⟨by rw [HQ.out]; rfl, HB.out.trans (hb.mono HB.out.size)⟩
  rw [decide_eq_true h1] at hI1
  by_cases h2 : 0 ≤ d.dl ∧ d.dl ≤ 100000
  case neg =>
    rw [decide_eq_false h2] at hI2
    have HQ : Hid (q = 15) := Lib.hid (by rw [← hq]; exact ckD_hd (fun h => h2 h.2.2.1))
    have HB := Lib.hid b1
    clear hq BX hlen h b1
    go_enter Tryz.func87, Tryz.ntmps87
    go_wp2_with (first
      | (go_at_call 94; refine (hN _).mono ?_; rintro e w1 ⟨rfl, hb⟩; have BX1 := (Whole.new w 32 #[.string d.n, .int .i64 d.r, .int .i64 d.dl, .slice A n c]).keep hb; have x1 := BX1.cell 1; have x2 := BX1.cell 2; have x3 := BX1.cell 3; simp only [List.getElem?_toArray, List.getElem?_cons_succ, List.getElem?_cons_zero] at x1 x2 x3)
      | (go_at_call 123; refine (hI1 _).mono ?_; rintro e w2 ⟨rfl, rfl⟩; clear hI1)
      | (go_at_call 123; refine (hI2 _).mono ?_; rintro e w2 ⟨rfl, rfl⟩; clear hI2)
      | (go_at_call 123; refine (hI3 _).mono ?_; rintro e w2 ⟨rfl, rfl⟩; clear hI3))
    go_ret
    exact ⟨by rw [HQ.out]; rfl, HB.out.trans (hb.mono HB.out.size)⟩
  rw [decide_eq_true h2] at hI2
  by_cases h3 : 0 ≤ (n : Int) - 1 ∧ (n : Int) - 1 ≤ 7
  case neg =>
    rw [decide_eq_false h3] at hI3
    have HQ : Hid (q = 15) := Lib.hid (by rw [← hq]; exact ckD_hd (fun h => by obtain ⟨_, _, _, h4, h5⟩ := h; omega))
    have HB := Lib.hid b1
    clear hq BX hlen h b1
    go_enter Tryz.func87, Tryz.ntmps87
    go_wp2_with (first
      | (go_at_call 94; refine (hN _).mono ?_; rintro e w1 ⟨rfl, hb⟩; have BX1 := (Whole.new w 32 #[.string d.n, .int .i64 d.r, .int .i64 d.dl, .slice A n c]).keep hb; have x1 := BX1.cell 1; have x2 := BX1.cell 2; have x3 := BX1.cell 3; simp only [List.getElem?_toArray, List.getElem?_cons_succ, List.getElem?_cons_zero] at x1 x2 x3)
      | (go_at_call 123; refine (hI1 _).mono ?_; rintro e w2 ⟨rfl, rfl⟩; clear hI1)
      | (go_at_call 123; refine (hI2 _).mono ?_; rintro e w2 ⟨rfl, rfl⟩; clear hI2)
      | (go_at_call 123; refine (hI3 _).mono ?_; rintro e w2 ⟨rfl, rfl⟩; clear hI3))
    go_ret
    exact ⟨by rw [HQ.out]; rfl, HB.out.trans (hb.mono HB.out.size)⟩
  rw [decide_eq_true h3] at hI3
  have HD : Hid (hdOk d) := Lib.hid ⟨h0, h1, h2, by omega, by omega⟩
  have HQ := Lib.hid hq
  have HB := Lib.hid b1
  have hn8 : n ≤ 8 := by omega
  have hn1 : 1 ≤ n := by omega
  have HL := Lib.hid hlen
  clear hq hlen h b1 h0 h1 h2 h3 BX
  go_enter Tryz.func87, Tryz.ntmps87
  go_upto_region 3 with (first
    | (go_at_call 94; refine (hN _).mono ?_; rintro e w1 ⟨rfl, hb⟩; have BX1 := (Whole.new w 32 #[.string d.n, .int .i64 d.r, .int .i64 d.dl, .slice A n c]).keep hb; have x1 := BX1.cell 1; have x2 := BX1.cell 2; have x3 := BX1.cell 3; simp only [List.getElem?_toArray, List.getElem?_cons_succ, List.getElem?_cons_zero] at x1 x2 x3)
    | (go_at_call 123; refine (hI1 _).mono ?_; rintro e w2 ⟨rfl, rfl⟩; clear hI1)
    | (go_at_call 123; refine (hI2 _).mono ?_; rintro e w2 ⟨rfl, rfl⟩; clear hI2)
    | (go_at_call 123; refine (hI3 _).mono ?_; rintro e w2 ⟨rfl, rfl⟩; clear hI3))
  have HW1 := Lib.hid BX1
  have HB1 := Lib.hid hb
  clear BX1 hb x1 x2
  have BW1 := Lib.hid (HB.out.trans (HB1.out.mono HB.out.size))
  have HGQ := Lib.hid (fun h => HQ.out.symm.trans (ckD_st (d := d) h))
  have HGY := Lib.hid (fun h => HQ.out.symm.trans (ckD_good HD.out h))
  clear HQ HB HB1 HD
  have hcutS := fun (k : Nat) (hk : k ≤ c) W => cut_steps A n c k hk W
  have HC := Lib.hid hcutS
  clear hcutS
  go_wp2_with fail
  go_loopw [33] (fun i wr => Below w1.heap.size w1 wr ∧ ∃ k : Nat, k ≤ n ∧ i = .int .i64 k ∧ Hid (GoodK d.s k)) (fun i _ => n - (intOf i).toNat)
  case atStart => exact ⟨Below.refl _ _, 0, Nat.zero_le _, rfl, Lib.hid (fun i p h => absurd h (Nat.not_lt_zero _))⟩
  case round =>
    obtain ⟨b2, k, hk', rfl, HG⟩ := hrel
    have BW2 := Lib.hid (BW1.out.trans (b2.mono BW1.out.size))
    by_cases hlt : k < n
    · obtain ⟨p, hp⟩ : ∃ p, d.s[k]? = some p := ⟨_, List.getElem?_eq_getElem (by rw [HL.out]; exact hlt)⟩
      have hS := H.out.s.keep BW2.out
      obtain ⟨g, o, rfl, y0, y1⟩ := hS k p hp
      have Y3 := (HW1.out.keep b2).cell 3
      simp only [List.getElem?_toArray, List.getElem?_cons_succ, List.getElem?_cons_zero] at Y3
      have z3 := acell (.cells #[.string p.k, .int .i64 p.v] 71) Y3
      have hcut := fun W => HC.out k (by have := H.out.le; omega) W
      have NB := Whole.new wr 71 #[.string p.k, .int .i64 p.v]
      have CF := Lib.hid (contF_any (some ⟨g, o, none⟩) k c wr.heap.size d.s p.k _ (hS.keep ((Below.refl _ _).alloc (Nat.le_refl _) (.cells #[.string p.k, .int .i64 p.v] 71))) (by rw [HL.out]; omega) (by omega) (NB.cell 0))
      have HP := Lib.hid hp
      have HNB := Lib.hid NB
      have B2 := Lib.hid b2
      have hz := H.out.z.s k p hp
      have hNK := fun W => name_any p.k W hz.1
      have hNC := fun W => numCheck_any p.v W
      have HZ1 := Lib.hid hz
      have hk0 : (0 : Int) ≤ (k : Int) := by omega
      have hkn : (k : Int) < (n : Int) := by omega
      have hwk : IntKind.i64.wrap ((k : Int) + 1) = (k : Int) + 1 := IntWalk.i64_in _ (by omega)
      clear hS hp NB b2 hz Y3
      go_upto_region 7 with (go_at_call 124; refine CF.out.mono ?_; rintro e w3 ⟨⟨b, rfl, hbk⟩, hb3⟩)
      have P := HNB.out.keep hb3
      have p0 := P.cell 0
      have p1 := P.cell 1
      simp only [List.getElem?_toArray, List.getElem?_cons_succ, List.getElem?_cons_zero] at p0 p1
      have B3 := Lib.hid (B2.out.trans ((((Below.refl _ wr).alloc (Nat.le_refl _) _).trans (hb3.mono (by simp))).mono B2.out.size))
      have BW3 := Lib.hid (BW1.out.trans (B3.out.mono BW1.out.size))
      have HBK := Lib.hid hbk
      have HP3 := Lib.hid P
      clear hbk hb3 P z3 hcut CF y0 y1 HNB
      by_cases hok : stOk p = true ∧ ¬ hasK d.s k p.k
      · obtain ⟨h1, h2, h3, h4⟩ := stOk_parts hok.1
        have HN : Hid (GoodK d.s (k + 1)) := Lib.hid (HG.out.next HP.out hok.1 hok.2)
        obtain rfl : b = false := by cases b with | false => rfl | true => exact absurd (HBK.out.1 rfl) hok.2
        rw [h1] at hNK
        rw [if_pos ⟨h3, h4⟩] at hNC
        have e0 : (p.v == 0) = false := by rw [beq_eq_false_iff_ne]; exact h2
        clear hok h1 h2 h3 h4 HBK
        go_wp2_with (first
          | (go_at_call 94; refine (hNK _).mono ?_; rintro e w4 ⟨rfl, hb4⟩; have P4 := HP3.out.keep hb4; have q1 := P4.cell 1; simp only [List.getElem?_toArray, List.getElem?_cons_succ, List.getElem?_cons_zero] at q1; clear P4)
          | (go_at_call 126; refine (hNC _).mono ?_; rintro e w5 ⟨rfl, rfl⟩))
        go_roundw
        case rel => exact ⟨B3.out.trans (hb4.mono B3.out.size), k + 1, by omega, by go_num, HN⟩
        case measure => simp [intOf]; omega
      · have HQ15 := Lib.hid (HGQ.out (good_not HP.out hok))
        cases b with
        | true =>
          clear hok HBK
          go_wp2_with fail
          go_ret
          exact ⟨by rw [HQ15.out]; rfl, BW3.out⟩
        | false =>
          have hst : ¬ stOk p = true := fun h => hok ⟨h, fun h2 => by have := HBK.out.2 h2; cases this⟩
          clear hok HBK
          by_cases h1 : isName p.k.data.toList = true
          case neg =>
            have h1' : isName p.k.data.toList = false := by simpa using h1
            rw [h1'] at hNK
            clear hst h1 h1'
            go_wp2_with (go_at_call 94; refine (hNK _).mono ?_; rintro e w4 ⟨rfl, hb4⟩)
            go_ret
            exact ⟨by rw [HQ15.out]; rfl, BW3.out.trans (hb4.mono BW3.out.size)⟩
          rw [h1] at hNK
          by_cases h2 : p.v = 0
          · have e0 : (p.v == 0) = true := by rw [beq_iff_eq]; exact h2
            clear hst h1 h2 hNC
            go_wp2_with (go_at_call 94; refine (hNK _).mono ?_; rintro e w4 ⟨rfl, hb4⟩; have P4 := HP3.out.keep hb4; have q1 := P4.cell 1; simp only [List.getElem?_toArray, List.getElem?_cons_succ, List.getElem?_cons_zero] at q1; clear P4)
            go_ret
            exact ⟨by rw [HQ15.out]; rfl, BW3.out.trans (hb4.mono BW3.out.size)⟩
          · have e0 : (p.v == 0) = false := by rw [beq_eq_false_iff_ne]; exact h2
            rw [if_neg (fun h => hst (by unfold stOk; rw [h1]; simp [h2, h.1, h.2]))] at hNC
            clear hst h1 h2
            go_wp2_with (first
              | (go_at_call 94; refine (hNK _).mono ?_; rintro e w4 ⟨rfl, hb4⟩; have P4 := HP3.out.keep hb4; have q1 := P4.cell 1; simp only [List.getElem?_toArray, List.getElem?_cons_succ, List.getElem?_cons_zero] at q1; clear P4)
              | (go_at_call 126; refine (hNC _).mono ?_; rintro e w5 ⟨rfl, rfl⟩))
            go_ret
            exact ⟨by rw [HQ15.out]; rfl, BW3.out.trans (hb4.mono BW3.out.size)⟩
    · obtain rfl : k = n := by omega
      have HQ0 := Lib.hid (HGY.out (good_all (by rw [HL.out]; exact HG.out)))
      clear HG b2
      go_wp2_with fail
      go_ret
      exact ⟨by rw [HQ0.out]; rfl, BW2.out⟩
end
section
open Go.RowKit Go.Shelf

theorem b_drewN {B : Nat} {a w : World} (h : Below B a w) (n : Nat) : Below B a (w.drewN n) := ⟨h.os, h.tape, h.output, h.size, h.block⟩
set_option maxRecDepth 100000 in
set_option maxHeartbeats 8000000 in
theorem refDefCheck_any (d : Dv) (A : Option Addr) (n c : Nat) (w : World) (h : DefAt w A n c d) :
    Calls Tryz.prog 90 #[dV d A n c] w fun e w' => e = .returned (.int .i64 (ckD d)) ∧ Below w.heap.size w w' := by
  have mixed : Tryz.prog.follows Departure.mixedOrders = true := by kernel_rfl
  have HZ := Lib.hid h.z
  have H := Lib.hid h
  have hN := fun W => refName_any d.n W h.z.n
  have b1 := (Below.refl w.heap.size w).alloc (Nat.le_refl _) (.cells #[.string d.n, .int .i64 d.r, .int .i64 d.dl, .slice A n c] 32)
  have hbig := h.big
  generalize hq : ckD d = q
  have hlen := h.len
  unfold dV
  clear h
  by_cases h0 : isName d.n.data.toList = true
  case neg =>
    have h0' : isName d.n.data.toList = false := by simpa using h0
    rw [h0'] at hN
    have HQ : Hid (q = 15) := Lib.hid (by rw [← hq]; exact ckD_hd (fun h => h0 h.1))
    have HB := Lib.hid b1
    clear hq hlen H HZ b1 hbig
    go_enter Tryz.func90, Tryz.ntmps90
    go_wp2_with (go_at_call 97; refine (hN _).mono ?_; rintro e w1 ⟨rfl, rfl⟩)
    go_ret
    exact ⟨by rw [HQ.out]; rfl, HB.out⟩
  rw [h0] at hN
  by_cases h1 : d.r < 0
  case pos =>
    have HQ : Hid (q = 15) := Lib.hid (by rw [← hq]; exact ckD_hd (fun h => by have := h.2.1.1; omega))
    have HB := Lib.hid b1
    clear hq hlen H HZ b1 hbig
    go_enter Tryz.func90, Tryz.ntmps90
    go_wp2_with (go_at_call 97; refine (hN _).mono ?_; rintro e w1 ⟨rfl, rfl⟩)
    go_ret
    exact ⟨by rw [HQ.out]; rfl, HB.out⟩
  by_cases h2 : 20 < d.r
  case pos =>
    have HQ : Hid (q = 15) := Lib.hid (by rw [← hq]; exact ckD_hd (fun h => by have := h.2.1.2; omega))
    have HB := Lib.hid b1
    clear hq hlen H HZ b1 hbig
    go_enter Tryz.func90, Tryz.ntmps90
    go_wp2_with (go_at_call 97; refine (hN _).mono ?_; rintro e w1 ⟨rfl, rfl⟩)
    go_ret
    exact ⟨by rw [HQ.out]; rfl, HB.out⟩
  by_cases h3 : d.dl < 0
  case pos =>
    have HQ : Hid (q = 15) := Lib.hid (by rw [← hq]; exact ckD_hd (fun h => by have := h.2.2.1.1; omega))
    have HB := Lib.hid b1
    clear hq hlen H HZ b1 hbig
    go_enter Tryz.func90, Tryz.ntmps90
    go_wp2_with (go_at_call 97; refine (hN _).mono ?_; rintro e w1 ⟨rfl, rfl⟩)
    go_ret
    exact ⟨by rw [HQ.out]; rfl, HB.out⟩
  by_cases h4 : 100000 < d.dl
  case pos =>
    have HQ : Hid (q = 15) := Lib.hid (by rw [← hq]; exact ckD_hd (fun h => by have := h.2.2.1.2; omega))
    have HB := Lib.hid b1
    clear hq hlen H HZ b1 hbig
    go_enter Tryz.func90, Tryz.ntmps90
    go_wp2_with (go_at_call 97; refine (hN _).mono ?_; rintro e w1 ⟨rfl, rfl⟩)
    go_ret
    exact ⟨by rw [HQ.out]; rfl, HB.out⟩
  by_cases h5 : (n : Int) < 1
  case pos =>
    have HQ : Hid (q = 15) := Lib.hid (by rw [← hq]; exact ckD_hd (fun h => by have := h.2.2.2.1; omega))
    have HB := Lib.hid b1
    clear hq hlen H HZ b1 hbig
    go_enter Tryz.func90, Tryz.ntmps90
    go_wp2_with (go_at_call 97; refine (hN _).mono ?_; rintro e w1 ⟨rfl, rfl⟩)
    go_ret
    exact ⟨by rw [HQ.out]; rfl, HB.out⟩
  by_cases h6 : 8 < (n : Int)
  case pos =>
    have HQ : Hid (q = 15) := Lib.hid (by rw [← hq]; exact ckD_hd (fun h => by have := h.2.2.2.2; omega))
    have HB := Lib.hid b1
    clear hq hlen H HZ b1 hbig
    go_enter Tryz.func90, Tryz.ntmps90
    go_wp2_with (go_at_call 97; refine (hN _).mono ?_; rintro e w1 ⟨rfl, rfl⟩)
    go_ret
    exact ⟨by rw [HQ.out]; rfl, HB.out⟩
  have HD : Hid (hdOk d) := Lib.hid ⟨h0, by omega, by omega, by omega, by omega⟩
  have HGQ := Lib.hid (fun h => hq.symm.trans (ckD_st (d := d) h))
  have HGY := Lib.hid (fun h => hq.symm.trans (ckD_good HD.out h))
  have HB := Lib.hid b1
  have hn8 : n ≤ 8 := by omega
  have HL := Lib.hid hlen
  have HW0 := Lib.hid (Whole.new w 32 #[.string d.n, .int .i64 d.r, .int .i64 d.dl, .slice A n c])
  clear hq hlen b1 h0 HD
  go_enter Tryz.func90, Tryz.ntmps90
  go_upto_region 3 with (go_at_call 97; refine (hN _).mono ?_; rintro e w1 ⟨rfl, rfl⟩)
  clear hN h1 h2 h3 h4 h5 h6
  generalize hw0 : w.alloc (.cells #[.string d.n, .int .i64 d.r, .int .i64 d.dl, .slice A n c] 32) = w0 at HB HW0 ⊢
  clear hw0
  go_wp2_with fail
  go_loopw [3] (fun i wr => Below w0.heap.size w0 wr ∧ ∃ k : Nat, k ≤ n ∧ i = .int .i64 k ∧ Hid (GoodK d.s k)) (fun i _ => n - (intOf i).toNat)
  case atStart => exact ⟨Below.refl _ _, 0, Nat.zero_le _, rfl, Lib.hid (fun i p h => absurd h (Nat.not_lt_zero _))⟩
  case round =>
    obtain ⟨b2, k, hk', rfl, HG⟩ := hrel
    have BW2 := Lib.hid (HB.out.trans (b2.mono HB.out.size))
    have Y3 := (HW0.out.keep b2).cell 3
    simp only [List.getElem?_toArray, List.getElem?_cons_succ, List.getElem?_cons_zero] at Y3
    by_cases hlt : k < n
    · obtain ⟨p, hp⟩ : ∃ p, d.s[k]? = some p := ⟨_, List.getElem?_eq_getElem (by rw [HL.out]; exact hlt)⟩
      obtain ⟨g, o, rfl, y0, y1⟩ := H.out.s.keep BW2.out k p hp
      have HP := Lib.hid hp
      have B2 := Lib.hid b2
      have hz := HZ.out.s k p hp
      have hNK := fun W => refName_any p.k W hz.1
      have hk0 : (0 : Int) ≤ (k : Int) := by omega
      have hkn : (k : Int) < (n : Int) := by omega
      have hwk : IntKind.i64.wrap ((k : Int) + 1) = (k : Int) + 1 := IntWalk.i64_in _ (by omega)
      have BN := Lib.hid (BW2.out.alloc BW2.out.size (.cells #[.string p.k, .int .i64 p.v] 71))
      clear hp b2 hz
      by_cases h1 : isName p.k.data.toList = true
      case neg =>
        have h1' : isName p.k.data.toList = false := by simpa using h1
        rw [h1'] at hNK
        have HQ15 := Lib.hid (HGQ.out (good_not HP.out (fun h => h1 (stOk_parts h.1).1)))
        clear h1 h1'
        go_wp2_with (go_at_call 97; refine (hNK _).mono ?_; rintro e w4 ⟨rfl, rfl⟩)
        go_ret
        exact ⟨by rw [HQ15.out]; rfl, BN.out⟩
      rw [h1] at hNK
      by_cases h2 : p.v = 0
      case pos =>
        have HQ15 := Lib.hid (HGQ.out (good_not HP.out (fun h => (stOk_parts h.1).2.1 h2)))
        have e0 : (p.v == 0) = true := by rw [beq_iff_eq]; exact h2
        clear h1 h2
        go_wp2_with (go_at_call 97; refine (hNK _).mono ?_; rintro e w4 ⟨rfl, rfl⟩)
        go_ret
        exact ⟨by rw [HQ15.out]; rfl, BN.out⟩
      have e0 : (p.v == 0) = false := by rw [beq_eq_false_iff_ne]; exact h2
      by_cases h3 : p.v < -1152921504606846976
      case pos =>
        have HQ15 := Lib.hid (HGQ.out (good_not HP.out (fun h => by have := (stOk_parts h.1).2.2.1; omega)))
        clear h1 h2
        go_wp2_with (go_at_call 97; refine (hNK _).mono ?_; rintro e w4 ⟨rfl, rfl⟩)
        go_ret
        exact ⟨by rw [HQ15.out]; rfl, BN.out⟩
      by_cases h4 : 1152921504606846976 < p.v
      case pos =>
        have HQ15 := Lib.hid (HGQ.out (good_not HP.out (fun h => by have := (stOk_parts h.1).2.2.2; omega)))
        clear h1 h2
        go_wp2_with (go_at_call 97; refine (hNK _).mono ?_; rintro e w4 ⟨rfl, rfl⟩)
        go_ret
        exact ⟨by rw [HQ15.out]; rfl, BN.out⟩
      have HST : Hid (stOk p = true) := Lib.hid (by unfold stOk; rw [h1]; simp [h2]; omega)
      clear h1 h2
      go_upto_region 9 with (go_at_call 97; refine (hNK _).mono ?_; rintro e w4 ⟨rfl, rfl⟩)
      obtain ⟨wo, hwo⟩ : ∃ wo, wo = wr := ⟨_, rfl⟩
      subst hwo
      have PW := Whole.new wo 71 #[.string p.k, .int .i64 p.v]
      have BA := (Below.refl _ wo).alloc (Nat.le_refl _) (.cells #[.string p.k, .int .i64 p.v] 71)
      generalize hwa : wo.alloc (.cells #[.string p.k, .int .i64 p.v] 71) = wa at PW BA BN ⊢
      have HPW := Lib.hid PW
      have HBA := Lib.hid BA
      have HDW := Lib.hid ((HW0.out.keep B2.out).keep BA)
      have B0A := Lib.hid (B2.out.trans (BA.mono B2.out.size))
      clear hwa PW BA y0 y1 Y3 e0 h3 h4 hNK
      go_wp2_with fail
      go_loopw [5] (fun m wq => Below wa.heap.size wa wq ∧ ∃ j : Nat, j ≤ k ∧ m = .int .i64 j ∧ Hid (¬ hasK d.s j p.k)) (fun m _ => k - (intOf m).toNat)
      case atStart => exact ⟨Below.refl _ _, 0, Nat.zero_le _, rfl, Lib.hid (fun ⟨j, q, h, _⟩ => absurd h (Nat.not_lt_zero _))⟩
      case round =>
        obtain ⟨b5, j, hj', rfl, HNK⟩ := hrel
        have B5 := Lib.hid b5
        have BT := Lib.hid (BN.out.trans (b5.mono BN.out.size))
        by_cases hjk : j < k
        · obtain ⟨q, hq2⟩ : ∃ q, d.s[j]? = some q := ⟨_, List.getElem?_eq_getElem (by rw [HL.out]; omega)⟩
          obtain ⟨g2, o2, hgg, y0, y1⟩ := H.out.s.keep BT.out j q hq2
          cases hgg
          have x3 := (HDW.out.keep b5).cell 3
          have p0 := (HPW.out.keep b5).cell 0
          simp only [List.getElem?_toArray, List.getElem?_cons_succ, List.getElem?_cons_zero] at x3 p0
          have hj0 : (0 : Int) ≤ (j : Int) := by omega
          have hjn : (j : Int) < (n : Int) := by omega
          have hwj : IntKind.i64.wrap ((j : Int) + 1) = (j : Int) + 1 := IntWalk.i64_in _ (by omega)
          have HQ2 := Lib.hid hq2
          clear b5 hq2
          cases he : (q.k.toList == p.k.toList) with
          | true =>
            have HQ15 := Lib.hid (HGQ.out (good_not HP.out (fun h => h.2 ⟨j, q, hjk, HQ2.out, key_eq.1 he⟩)))
            go_upto_region 12 with fail
            go_quiet (fail)
            go_wp2_with fail
            go_ret
            exact ⟨by rw [HQ15.out]; rfl, b_drewN BT.out _⟩
          | false =>
            have HNJ : Hid (¬ hasK d.s (j + 1) p.k) := Lib.hid (fun ⟨i, r, h, h2, h3⟩ => by
              by_cases e : i = j
              · subst e; rw [HQ2.out] at h2; cases h2; exact key_ne.1 he h3
              · exact HNK.out ⟨i, r, by omega, h2, h3⟩)
            go_upto_region 12 with fail
            go_quiet (fail)
            go_wp2_with fail
            go_roundw
            case rel => exact ⟨b_drewN B5.out _, j + 1, by omega, by go_num, HNJ⟩
            case measure => simp [intOf]; omega
        · obtain rfl : j = k := by omega
          have HN := Lib.hid (HG.out.next HP.out HST.out HNK.out)
          clear b5 HNK
          go_wp2_with fail
          go_roundw
          case rel => exact ⟨B0A.out.trans (B5.out.mono B0A.out.size), j + 1, by omega, by go_num, HN⟩
          case measure => simp [intOf]; omega
    · obtain rfl : k = n := by omega
      have HQ0 := Lib.hid (HGY.out (good_all (by rw [HL.out]; exact HG.out)))
      clear HG b2
      go_wp2_with fail
      go_ret
      exact ⟨by rw [HQ0.out]; rfl, BW2.out⟩
end
end Go.Proofs.YtojodekmmkemgaaGreatDoor
