/- Operations in memory; words of kinds. Condition: sizes as a machine's integers can say. -/
import Derived.Test.YtojodekmmkemgaaGreatDoorDfS
import Derived.Test.YtojodekmmkemgaaGreatDoorCmRng
import Derived.Test.YtojodekmmkemgaaGreatDoorPlS
import Derived.Laws.Tables
import Derived.Deep.WholeRow
import Derived.Deep.MidRow
namespace Go.Proofs.YtojodekmmkemgaaGreatDoor
open Go.RowKit Go.Shelf

def In64 (x : Int) : Prop := -9223372036854775808 ≤ x ∧ x ≤ 9223372036854775807
theorem slD_lt {W : World} {A : Option Addr} {s : List Sp} (h : SlD W A s) : ∀ a : Addr, A = some a → s ≠ [] → a.block < W.heap.size := by
  rintro a rfl hs
  cases s with
  | nil => exact absurd rfl hs
  | cons p s =>
    obtain ⟨g, o, he, c0, _⟩ := h 0 p rfl
    cases he
    exact lt_cell c0
theorem setRow_grown (w : World) (g : Nat) (cs : Array Value) : w.grownBy (w.setRow g cs) (some g) := ⟨rfl, rfl, rfl, by simp, fun k _ hk => setRow_other w g k cs (fun e => hk (by rw [e]))⟩
/-- A row is loaded by an operation whose guard lets it. -/
theorem wpList_load_rowG {P : Program} {ops : Array Oper} {rest : List Oper} {o : Oper} {a : Act} {w : World} {Q : Exit → Act → World → Prop} (hgd : Region.wanted o (yielded ops a.tmps) = true) (ty : TypeId) (x : Operand) (ho : o.op = .load ty x)
    (g : Nat) (hx : a.eval x = .pointer (some ⟨g, 0, none⟩)) (t : TypeId) (cs : Array Value) (fr : Nat × Nat) (d : TypeDesc) (hg : w.heap[g]? = some (.cells cs t fr))
    (hu : P.underlying ty = some d) (hd : (match d with | .struct _ | .array _ _ => true | _ => false) = true) (hi : (P.info? ty).map (·.size) = some cs.size)
    (h : wpList P ops Q rest (a.put o.dst (.agg cs)) w) : wpList P ops Q (o :: rest) a w :=
  wpList_step fun K hK => by rw [if_pos hgd]; exact wp_load_row ty x ho g hx t cs fr d hg hu hd hi (hK _ _ h)
/-- A row and a temporary are returned. -/
theorem results_row2 {P : Program} {fn : Func} {p q : Tmp} {ty : TypeId} (h : fn.results = #[.cell p ty, .tmp q]) (tmps : Array Value) (w : World) (g : Nat) (t : TypeId) (cs : Array Value) (fr : Nat × Nat) (d : TypeDesc)
    (hp : tmps.getD p undef = .pointer (some ⟨g, 0, none⟩)) (hg : w.heap[g]? = some (.cells cs t fr))
    (hu : P.underlying ty = some d) (hd : (match d with | .struct _ | .array _ _ => true | _ => false) = true) (hi : (P.info? ty).map (·.size) = some cs.size) (v : Value) (hv : tmps.getD q undef = v) :
    (results fn tmps).run P w = .ok (.tuple #[.agg cs, v]) w := by
  have hp' : tmps[p]?.getD undef = .pointer (some ⟨g, 0, none⟩) := by simpa using hp
  have hv' : tmps[q]?.getD undef = v := by simpa using hv
  simp [results, h, hp', hv', asAddr, run_loadVar_row w g t ty cs fr d hg hu hd hi]
theorem below_row {g : Nat} {w0 w : World} (h : Below w0.heap.size w0 w) (hg : w0.heap.size ≤ g) (cs : Array Value) : Below w0.heap.size w0 (w.setRow g cs) := h.grown (setRow_grown w g cs) h.size (fun k e => by cases e; exact hg)
/-- The cells of an operation whose definition's steps lie in a slice. -/
def oA (o : Ov) (A : Option Addr) (n m : Nat) : Array Value := #[.int .i64 o.k, .int .i64 o.n, .int .i64 o.m, .string o.key, .string o.f, .string o.t, .string o.d.n, .int .i64 o.d.r, .int .i64 o.d.dl, .slice A n m]
/-- Sizes of an operation's parts. -/
structure OpZ (o : Ov) : Prop where
  k : In64 o.k
  n : In64 o.n
  m : In64 o.m
  key : o.key.size ≤ 9223372036854775807
  f : o.f.size ≤ 9223372036854775807
  t : o.t.size ≤ 9223372036854775807
/-- An operation: its definition's steps in memory, and its sizes. -/
structure OpIn (W : World) (o : Ov) (A : Option Addr) (n m : Nat) : Prop where
  d : DefAt W A n m o.d
  z : OpZ o
theorem OpIn.keep {w w' : World} {o : Ov} {A : Option Addr} {n m : Nat} (h : OpIn w o A n m) (hb : Below w.heap.size w w') : OpIn w' o A n m := ⟨h.d.keep hb, h.z⟩
theorem defAt_zeroO (w : World) : DefAt w none 0 0 zeroD := ⟨rfl, Nat.le_refl _, Nat.zero_le _, ⟨by decide, by decide, by decide, fun i p h => by simp [zeroD] at h⟩, fun i p h => by simp [zeroD] at h⟩
/-- An operation in a box; its definition's steps lie in another one. -/
structure OpAt (W : World) (B : Nat) (o : Ov) (A : Option Addr) (n m : Nat) : Prop where
  w : Whole W B 34 (oA o A n m)
  i : OpIn W o A n m
  o : ∀ a : Addr, A = some a → o.d.s ≠ [] → a.block ≠ B
theorem OpAt.keep {w w' : World} {B : Nat} {o : Ov} {A : Option Addr} {n m : Nat} (h : OpAt w B o A n m) (hb : Below w.heap.size w w') : OpAt w' B o A n m := ⟨h.w.keep hb, h.i.keep hb, h.o⟩
theorem OpAt.new {w : World} {o : Ov} {A : Option Addr} {n m : Nat} (h : OpIn w o A n m) : OpAt (w.alloc (.cells (oA o A n m) 34)) w.heap.size o A n m :=
  ⟨Whole.new w _ _, h.keep ((Below.refl _ _).alloc (Nat.le_refl _) _), fun a ha hs => Nat.ne_of_lt (slD_lt h.d.s a ha hs)⟩
theorem info10 (o : Ov) (A : Option Addr) (n m : Nat) : (Tryz.prog.info? 34).map (·.size) = some (oA o A n m).size := by kernel_rfl
theorem all10 (o : Ov) (A : Option Addr) (n m : Nat) : (oA o A n m).all (·.oneCell') = true := by simp [oA, Value.oneCell']
theorem zero10 (k n : Int) : oA (zeroO k n) none 0 0 = #[.int .i64 k, .int .i64 n, .int .i64 0, .string ⟨#[]⟩, .string ⟨#[]⟩, .string ⟨#[]⟩, .string ⟨#[]⟩, .int .i64 0, .int .i64 0, .slice none 0 0] := rfl
theorem OpAt.cells {W : World} {B : Nat} {o : Ov} {A : Option Addr} {n m : Nat} (h : Whole W B 34 (oA o A n m)) : W.cell? ⟨B, 0, none⟩ = some (.int .i64 o.k) ∧ W.cell? ⟨B, 1, none⟩ = some (.int .i64 o.n) ∧ W.cell? ⟨B, 2, none⟩ = some (.int .i64 o.m) ∧ W.cell? ⟨B, 3, none⟩ = some (.string o.key) ∧ W.cell? ⟨B, 4, none⟩ = some (.string o.f) ∧ W.cell? ⟨B, 5, none⟩ = some (.string o.t) ∧ W.cell? ⟨B, 6, none⟩ = some (.string o.d.n) ∧ W.cell? ⟨B, 7, none⟩ = some (.int .i64 o.d.r) ∧ W.cell? ⟨B, 8, none⟩ = some (.int .i64 o.d.dl) ∧ W.cell? ⟨B, 9, none⟩ = some (.slice A n m) :=
  ⟨h.cell 0, h.cell 1, h.cell 2, h.cell 3, h.cell 4, h.cell 5, h.cell 6, h.cell 7, h.cell 8, h.cell 9⟩
def wordV : Array Value := ((List.range 13).map fun i : Nat => Value.string ⟨(wordO (i : Int)).toArray⟩).toArray
theorem wordV_get (k : Nat) (h : k ≤ 12) : wordV[k]? = some (.string ⟨(wordO (k : Int)).toArray⟩) := by
  unfold wordV
  rw [List.getElem?_toArray, List.getElem?_map, List.getElem?_range (by omega)]
  rfl
theorem wordV_lit : wordV = #[.string ⟨#[]⟩, .string ⟨#[100, 101, 108, 105, 118, 101, 114]⟩, .string ⟨#[100, 114, 111, 112]⟩, .string ⟨#[100, 111, 117, 98, 108, 101]⟩, .string ⟨#[116, 105, 99, 107]⟩, .string ⟨#[99, 114, 97, 115, 104]⟩, .string ⟨#[116, 101, 97, 114]⟩, .string ⟨#[114, 101, 115, 116, 97, 114, 116]⟩, .string ⟨#[115, 116, 97, 114, 116]⟩, .string ⟨#[115, 116, 97, 116, 117, 115]⟩, .string ⟨#[99, 97, 110, 99, 101, 108]⟩, .string ⟨#[114, 101, 97, 100]⟩, .string ⟨#[109, 111, 118, 101]⟩] := rfl
theorem wordO_out {k : Int} (h : ¬ (0 ≤ k ∧ k ≤ 12)) : wordO k = [] := by
  unfold wordO
  rw [if_neg (by omega), if_neg (by omega), if_neg (by omega), if_neg (by omega), if_neg (by omega), if_neg (by omega), if_neg (by omega), if_neg (by omega), if_neg (by omega), if_neg (by omega), if_neg (by omega), if_neg (by omega)]
set_option maxRecDepth 100000 in
set_option maxHeartbeats 4000000 in
theorem word_any (k : Int) (w : World) : Calls Tryz.prog 54 #[.int .i64 k] w fun e w' => e = .returned (.string ⟨(wordO k).toArray⟩) ∧ Below w.heap.size w w' := by
  have B1 := Lib.hid ((Below.refl w.heap.size w).alloc (Nat.le_refl _) (.cells wordV 121))
  have hi : (Tryz.prog.info? 121).map (·.size) = some wordV.size := by kernel_rfl
  have hall : wordV.all (·.oneCell') = true := by decide +kernel
  by_cases hk : 0 ≤ k ∧ k ≤ 12
  · obtain ⟨h0, h1⟩ := hk
    obtain ⟨j, rfl⟩ := Int.eq_ofNat_of_zero_le h0
    have NP : (w.alloc (.cells wordV 121)).cell? ⟨w.heap.size, j, none⟩ = some (.string ⟨(wordO (j : Int)).toArray⟩) := by
      rw [(Whole.new w 121 wordV).cell j]
      exact wordV_get j (by omega)
    have h2 : (j : Int) < 13 := by omega
    have h3 : ¬ ((13 : Int) ≤ (j : Int)) := by omega
    have h4 : ¬ ((j : Int) < 0) := by omega
    generalize wordO (j : Int) = t at NP ⊢
    go_enter Tryz.func54, Tryz.ntmps54
    go_upto_region 2 with (refine wpList_store_row rfl 121 (.tmp 3) (.tmp 4) rfl _ wordV rfl rfl 121 _ (heap_alloc_new _ _) hi rfl hall ?_; rw [World.setRow_alloc_new])
    generalize wordV = wv at NP B1 ⊢
    go_wp2_with fail
    go_ret
    exact ⟨rfl, B1.out⟩
  · have HW := Lib.hid (wordO_out hk)
    by_cases h0 : k < 0
    · clear hk
      go_enter Tryz.func54, Tryz.ntmps54
      go_upto_region 2 with (refine wpList_store_row rfl 121 (.tmp 3) (.tmp 4) rfl _ wordV rfl rfl 121 _ (heap_alloc_new _ _) hi rfl hall ?_; rw [World.setRow_alloc_new])
      go_wp2_with fail
      go_ret
      exact ⟨by rw [HW.out]; rfl, B1.out⟩
    · have h1 : (13 : Int) ≤ k := by omega
      clear hk
      go_enter Tryz.func54, Tryz.ntmps54
      go_upto_region 2 with (refine wpList_store_row rfl 121 (.tmp 3) (.tmp 4) rfl _ wordV rfl rfl 121 _ (heap_alloc_new _ _) hi rfl hall ?_; rw [World.setRow_alloc_new])
      go_wp2_with fail
      go_ret
      exact ⟨by rw [HW.out]; rfl, B1.out⟩
theorem kindW_none {w : List UInt8} (h : ∀ i : Nat, 1 ≤ i → i ≤ 12 → wordO (i : Int) ≠ w) : kindW w = 0 := by
  rcases kindW_or w with h1 | ⟨h1, h2, h3⟩
  · exact h1
  · exact absurd h3 (h _ h1 h2)
set_option maxRecDepth 100000 in
set_option maxHeartbeats 4000000 in
theorem kind_any (s : ByteArray) (w : World) : Calls Tryz.prog 99 #[.string s] w fun e w' => e = .returned (.int .i64 (kindW s.data.toList : Int)) ∧ Below w.heap.size w w' := by
  have WD := Lib.hid (fun (k : Int) (W : World) => word_any k W)
  obtain ⟨r, hr⟩ : ∃ r : Nat, r = kindW s.data.toList := ⟨_, rfl⟩
  rw [← hr]
  have HR := Lib.hid hr
  clear hr
  go_enter Tryz.func99, Tryz.ntmps99
  go_wp2_with fail
  go_loopw [3] (fun i wr => ∃ j : Nat, 1 ≤ j ∧ j ≤ 13 ∧ i = .int .i64 j ∧ Hid (Below w.heap.size w wr ∧ ∀ i : Nat, 1 ≤ i → i < j → wordO (i : Int) ≠ s.data.toList)) (fun i _ => 13 - (intOf i).toNat)
  case atStart => exact ⟨1, by omega, by omega, rfl, Lib.hid ⟨Below.refl _ _, fun i h1 h2 => by omega⟩⟩
  case round =>
    obtain ⟨j, hj1, hj, rfl, HI⟩ := hrel
    by_cases hj12 : j ≤ 12
    · have WJ := Lib.hid (WD.out (j : Int) wr)
      have h12 : (j : Int) ≤ 12 := by omega
      have hwj : IntKind.i64.wrap ((j : Int) + 1) = (j : Int) + 1 := IntWalk.i64_in _ (by omega)
      by_cases he : wordO (j : Int) = s.data.toList
      · have hs : ((⟨(wordO (j : Int)).toArray⟩ : ByteArray).toList == s.toList) = true := by
          rw [ByteArray.toList_eq, ByteArray.toList_eq, beq_iff_eq]
          exact he
        have HF : Hid (j = r) := Lib.hid (by rw [HR.out, ← he]; exact (kindW_word j hj1 hj12).symm)
        clear he
        generalize (⟨(wordO (j : Int)).toArray⟩ : ByteArray) = t at WJ hs
        go_wp2_with (go_at_call 54; refine WJ.out.mono ?_; rintro e w2 ⟨rfl, hb⟩; have B2 := Lib.hid (HI.out.1.trans (hb.mono HI.out.1.size)); clear hb)
        go_ret
        exact ⟨by rw [← HF.out]; rfl, B2.out⟩
      · have hs : ((⟨(wordO (j : Int)).toArray⟩ : ByteArray).toList == s.toList) = false := by
          rw [ByteArray.toList_eq, ByteArray.toList_eq, beq_eq_false_iff_ne]
          exact he
        have HN : Hid (∀ i : Nat, 1 ≤ i → i < j + 1 → wordO (i : Int) ≠ s.data.toList) := Lib.hid (fun i h1 h2 => by
          by_cases e : i = j
          · rw [e]; exact he
          · exact HI.out.2 i h1 (by omega))
        clear he
        generalize (⟨(wordO (j : Int)).toArray⟩ : ByteArray) = t at WJ hs
        go_wp2_with (go_at_call 54; refine WJ.out.mono ?_; rintro e w2 ⟨rfl, hb⟩; have B2 := Lib.hid (HI.out.1.trans (hb.mono HI.out.1.size)); clear hb)
        go_roundw
        case rel => exact ⟨j + 1, by omega, by omega, by go_num, Lib.hid ⟨B2.out, HN.out⟩⟩
        case measure => simp [intOf]; omega
    · obtain rfl : j = 13 := by omega
      have HF : Hid (r = 0) := Lib.hid (by rw [HR.out]; exact kindW_none (fun i h1 h2 => HI.out.2 i h1 (by omega)))
      go_wp2_with fail
      go_ret
      exact ⟨by rw [HF.out]; rfl, HI.out.1⟩
theorem in3_any (n a b : Int) (w : World) : Calls Tryz.prog 93 #[.int .i64 n, .int .i64 a, .int .i64 b] w fun e w' => e = .returned (.bool (decide (a ≤ n ∧ n ≤ b))) ∧ w = w' := by
  generalize hq : decide (a ≤ n ∧ n ≤ b) = q
  have HQ := Lib.hid hq
  clear hq
  by_cases h1 : a ≤ n <;> by_cases h2 : n ≤ b
  all_goals
    go_enter Tryz.func93, Tryz.ntmps93
    go_wp2
    go_ret
    exact ⟨by rw [← HQ.out]; simp [h1, h2] <;> omega, rfl⟩
end Go.Proofs.YtojodekmmkemgaaGreatDoor
