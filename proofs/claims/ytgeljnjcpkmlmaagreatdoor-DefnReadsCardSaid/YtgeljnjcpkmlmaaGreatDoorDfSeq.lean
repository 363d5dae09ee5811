/- The steps that words say, as the program's iterator yields them. Conditions: the words are short; the program's own variables lie as its start lays them. -/
import Derived.Test.YtgeljnjcpkmlmaaGreatDoorDfTxt
import Derived.Test.YtgeljnjcpkmlmaaGreatDoorIdxAny2
import Derived.Test.YtgeljnjcpkmlmaaGreatDoorWrt
import Derived.Lib.ParseIntBTie
import Derived.Lib.AtoiAllCases
import Derived.Shelf.Strconv.ErrVarAll
import Derived.Shelf.Strconv.ErrVarParseInt
namespace Go.Proofs.YtgeljnjcpkmlmaaGreatDoor
open Go.RowKit Go.Shelf
attribute [local go_sem] Oper.semAt_some

theorem below_bytes (w : World) (t : ByteArray) : Below w.heap.size w (Lib.bytesWorld w 5 t) := Joins.below_bytesWorld _ w _ t (Nat.le_refl _)
/-- Where a word is cut. -/
theorem idx2_any (s : ByteArray) (w : World) (hs : s.size ≤ 1000000) :
    Calls Tryz.prog 97 #[.string s, .string pm] w fun e w' => ((∃ k : Nat, e = .returned (.int .i64 (k : Int)) ∧ k ≤ s.size ∧ ((∀ c ∈ s.data.toList, c.toNat < 128) → k < s.size ∧ cutAt s.data.toList = k)) ∨ (e = .returned (.int .i64 (-1)) ∧ ((∀ c ∈ s.data.toList, c.toNat < 128) → cutAt s.data.toList = s.data.toList.length))) ∧ Below w.heap.size w w' := by
  refine (idxAny_any s w (by omega)).mono ?_
  rintro e w' ⟨⟨n, rfl, h1, h2, h3⟩, hb⟩
  refine ⟨?_, hb⟩
  have hle : cutAt s.data.toList ≤ s.data.toList.length := by unfold cutAt; exact (List.takeWhile_sublist _).length_le
  rcases Int.lt_or_le n 0 with hn | hn
  · obtain rfl : n = -1 := by omega
    refine Or.inr ⟨rfl, fun h => ?_⟩
    have := h3 h
    rw [idxAny_cut] at this
    split at this
    · assumption
    · omega
  · obtain ⟨k, rfl⟩ := Int.eq_ofNat_of_zero_le hn
    refine Or.inl ⟨k, rfl, by omega, fun h => ?_⟩
    have := h3 h
    rw [idxAny_cut] at this
    split at this
    · omega
    · rw [← Lib.size_eq] at *; exact ⟨by omega, by omega⟩
theorem parse2_any (s : ByteArray) (w : World) (hs : s.size ≤ 1000000) (hE : DfE w) :
    Calls Tryz.prog 98 #[.string s, .int .i64 10, .int .i64 64] w fun e w' => ((∃ v : Int, e = .returned (.tuple #[.int .i64 v, .nilIface]) ∧ Lib.parseIntB 64 s.data.toList = .ok v) ∨ (∃ (v : Int) (N : Nat), e = .returned (.tuple #[.int .i64 v, .iface 155 (.pointer (some ⟨N, 0, none⟩))]) ∧ ∀ u, Lib.parseIntB 64 s.data.toList ≠ .ok u)) ∧ Below w.heap.size w w' := by
  rcases h : Lib.parseIntB 64 s.data.toList with v | _ | _
  · refine (Tryz.strconv_ParseInt_10_at64_ok s (by omega) v h w).mono ?_
    rintro e w' ⟨rfl, h2⟩
    refine ⟨Or.inl ⟨v, rfl, rfl⟩, ?_⟩
    rcases h2 with rfl | ⟨t, rfl⟩
    · exact Below.refl _ _
    · exact below_bytes w t
  · obtain ⟨tp, p, hv⟩ := hE.syn
    refine (Any.strconv_ParseInt_10_at64_syntax_var Tryz.laysC174 s (by omega) h tp p w hv).mono ?_
    rintro e w' ⟨N, rfl, _, _, hb⟩
    exact ⟨Or.inr ⟨_, N, rfl, by rintro u hu; cases hu⟩, hb⟩
  · obtain ⟨tp, p, hv⟩ := hE.rng
    refine (Any.strconv_ParseInt_10_at64_range_var Tryz.laysC174 s (by omega) h tp p w hv).mono ?_
    rintro e w' ⟨N, rfl, _, _, hb⟩
    exact ⟨Or.inr ⟨_, N, rfl, by rintro u hu; cases hu⟩, hb⟩
theorem atoi2_any (s : ByteArray) (w : World) (hs : s.size ≤ 1000000) (hE : DfE w) :
    Calls Tryz.prog 57 #[.string s] w fun e w' => ((∃ v : Int, e = .returned (.tuple #[.int .i64 v, .nilIface]) ∧ Lib.atoiAll s.data.toList = .ok v) ∨ (∃ (v : Int) (N : Nat), e = .returned (.tuple #[.int .i64 v, .iface 155 (.pointer (some ⟨N, 0, none⟩))]) ∧ ∀ u, Lib.atoiAll s.data.toList ≠ .ok u)) ∧ Below w.heap.size w w' := by
  rcases h : Lib.atoiAll s.data.toList with v | _ | _
  · refine (Tryz.strconv_Atoi_ok s (by omega) v h w).mono ?_
    rintro e w' ⟨rfl, h2⟩
    refine ⟨Or.inl ⟨v, rfl, rfl⟩, ?_⟩
    rcases h2 with rfl | ⟨t, rfl⟩
    · exact Below.refl _ _
    · exact below_bytes w t
  · obtain ⟨tp, p, hv⟩ := hE.syn
    refine (Any.strconv_Atoi_syntax_var Tryz.laysC172 s (by omega) h tp p w hv).mono ?_
    rintro e w' ⟨N, rfl, _, _, hb⟩
    exact ⟨Or.inr ⟨_, N, rfl, by rintro u hu; cases hu⟩, hb⟩
  · obtain ⟨tp, p, hv⟩ := hE.rng
    refine (Any.strconv_Atoi_range_var Tryz.laysC172 s (by omega) h tp p w hv).mono ?_
    rintro e w' ⟨N, rfl, _, _, hb⟩
    exact ⟨Or.inr ⟨_, N, rfl, by rintro u hu; cases hu⟩, hb⟩
/-- A slice holds these words. -/
def SlW (w : World) (A : Option Addr) (ws : List ByteArray) : Prop := ∀ (i : Nat) x, ws[i]? = some x → ∃ g o, A = some ⟨g, o, none⟩ ∧ w.cell? ⟨g, o + i, none⟩ = some (.string x)
theorem SlW.keep {w w' : World} {A : Option Addr} {ws : List ByteArray} (h : SlW w A ws) (hb : Below w.heap.size w w') : SlW w' A ws := fun i x hi => by
  obtain ⟨g, o, rfl, c⟩ := h i x hi
  exact ⟨g, o, rfl, bcell c hb⟩
/-- What the iterator does between two rounds, and what a round may do. -/
def MvB (A B : World) : Prop := Below A.heap.size A B
def KpB (n : Nat) (A B : World) : Prop := Below n A B
def wL (ws : List ByteArray) : List (List UInt8) := ws.map (·.data.toList)
/-- What the words yielded so far say. -/
def StepsK (ws : List ByteArray) (l : List Sp) : Prop := ∀ (i : Nat) x p, ws[i]? = some x → l[i]? = some p → StepRel x.data.toList p ∧ SpZ p
theorem StepsK.rel {ws : List ByteArray} {l : List Sp} (h : StepsK ws l) (hl : l.length = ws.length) : StepsRel (wL ws) l :=
  ⟨by unfold wL; rw [List.length_map, hl], fun i w p hw hp => by
    unfold wL at hw
    rw [List.getElem?_map] at hw
    cases hx : ws[i]? with
    | none => rw [hx] at hw; cases hw
    | some x => rw [hx] at hw; cases hw; exact (h i x p hx hp).1⟩
theorem StepsK.snoc {ws : List ByteArray} {l : List Sp} {x : ByteArray} {p : Sp} (h : StepsK ws l) (hx : ws[l.length]? = some x) (hp : StepRel x.data.toList p ∧ SpZ p) : StepsK ws (l ++ [p]) := fun i y q hy hq => by
  rw [List.getElem?_append] at hq
  split at hq
  · exact h i y q hy hq
  · rename_i hn
    have : i - l.length = 0 := by
      have := (List.getElem?_eq_some_iff.1 hq).1
      simp at this; omega
    obtain rfl : i = l.length := by omega
    rw [hx] at hy; cases hy
    simp at hq; subst hq
    exact hp
theorem extract_take (s : ByteArray) (k : Nat) : s.extract 0 k = ⟨(s.data.toList.take k).toArray⟩ := by
  apply ByteArray.ext
  rw [ByteArray.data_extract]
  apply Array.ext'
  simp
theorem extract_drop (s : ByteArray) (k : Nat) : (s.extract k s.size).data.toList = s.data.toList.drop k := by
  rw [ByteArray.data_extract, Array.toList_extract, List.extract_eq_take_drop]
  apply List.take_of_length_le
  rw [List.length_drop, ← Lib.size_eq]
  exact Nat.le_refl _
theorem spz_zero : SpZ ⟨⟨#[]⟩, 0⟩ := ⟨Nat.zero_le _, by decide, by decide⟩
theorem rel_none {s : ByteArray} (h : (∀ c ∈ s.data.toList, c.toNat < 128) → cutAt s.data.toList = s.data.toList.length) : StepRel s.data.toList ⟨⟨#[]⟩, 0⟩ ∧ SpZ ⟨⟨#[]⟩, 0⟩ := ⟨fun ha => by
  unfold pStep; rw [if_pos (h ha)], spz_zero⟩
theorem rel_ok {s : ByteArray} {k : Nat} {v : Int} (hs : s.size ≤ 1000000) (h : (∀ c ∈ s.data.toList, c.toNat < 128) → k < s.size ∧ cutAt s.data.toList = k) (hp : Lib.parseIntB 64 (s.extract k s.size).data.toList = .ok v) : StepRel s.data.toList ⟨s.extract 0 k, v⟩ ∧ SpZ ⟨s.extract 0 k, v⟩ := ⟨fun ha => by
  obtain ⟨h1, h2⟩ := h ha
  rw [extract_drop] at hp
  unfold pStep
  rw [h2, if_neg (by rw [← Lib.size_eq]; omega), hp, extract_take s k], by
  have h1 := Lib.parseIntB_bounds hp
  rw [show ((2 ^ (64 - 1) : Nat) : Int) = 9223372036854775808 by decide] at h1
  refine ⟨?_, h1.1, by have := h1.2; show v ≤ _; omega⟩
  show (s.extract 0 k).size ≤ _
  rw [extract_take, Lib.size_mk, List.length_take]
  have := Lib.size_eq s
  omega⟩
theorem rel_bad {s : ByteArray} {k : Nat} (h : (∀ c ∈ s.data.toList, c.toNat < 128) → k < s.size ∧ cutAt s.data.toList = k) (hp : ∀ u, Lib.parseIntB 64 (s.extract k s.size).data.toList ≠ .ok u) : StepRel s.data.toList ⟨⟨#[]⟩, 0⟩ ∧ SpZ ⟨⟨#[]⟩, 0⟩ := ⟨fun ha => by
  obtain ⟨h1, h2⟩ := h ha
  rw [extract_drop] at hp
  unfold pStep
  rw [h2, if_neg (by rw [← Lib.size_eq]; omega)]
  rcases hq : Lib.parseIntB 64 (s.data.toList.drop k) with v | _ | _
  · exact absurd hq (hp v)
  · rfl
  · rfl, spz_zero⟩
end Go.Proofs.YtgeljnjcpkmlmaaGreatDoor
