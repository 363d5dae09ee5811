/- The account of the 64 keys in memory: begun. No condition. -/
import Derived.Test.YtkkkppbcjmeapaaDoorPtSt
import Derived.Deep.RegionHeld3
namespace Go.Proofs.YtkkkppbcjmeapaaDoor
open Go.RowKit

/-- An account in memory. -/
def AccM (W : World) (A : Nat) (acc : Nat → Int × Int) : Prop :=
  ∃ cs, Whole W A 44 cs ∧ cs.size = 128 ∧ ∀ k, k < 64 → cs[k]? = some (.int .i64 (acc k).1) ∧ cs[64 + k]? = some (.int .i64 (acc k).2)
theorem AccM.keep {W W' : World} {A : Nat} {acc : Nat → Int × Int} (h : AccM W A acc) (hb : Below W.heap.size W W') : AccM W' A acc := by
  obtain ⟨cs, h1, h2⟩ := h
  exact ⟨cs, h1.below hb h1.lt, h2⟩
theorem AccM.other {W W' : World} {A B : Nat} {acc : Nat → Int × Int} (h : AccM W A acc) (hne : A ≠ B) (hg : W.grownBy W' (some B)) : AccM W' A acc := by
  obtain ⟨cs, h1, h2⟩ := h
  exact ⟨cs, h1.other hne hg, h2⟩
theorem AccM.lt {W : World} {A : Nat} {acc : Nat → Int × Int} (h : AccM W A acc) : A < W.heap.size := by
  obtain ⟨cs, h1, _⟩ := h; exact h1.lt
theorem AccM.cell {W : World} {A : Nat} {acc : Nat → Int × Int} (h : AccM W A acc) {k : Nat} (hk : k < 64) : W.cell? ⟨A, k, none⟩ = some (.int .i64 (acc k).1) ∧ W.cell? ⟨A, 64 + k, none⟩ = some (.int .i64 (acc k).2) := by
  obtain ⟨cs, h1, _, h3⟩ := h
  exact ⟨(h1.cell k).trans (h3 k hk).1, (h1.cell (64 + k)).trans (h3 k hk).2⟩
theorem AccM.fr {W : World} {A : Nat} {acc : Nat → Int × Int} (h : AccM W A acc) (i : Nat) : W.frozen? ⟨A, i, none⟩ = false := by
  obtain ⟨cs, h1, _⟩ := h
  exact h1.fr i
theorem AccM.int {W : World} {A : Nat} {acc : Nat → Int × Int} (h : AccM W A acc) (i : Nat) {v : Value} (hv : W.cell? ⟨A, i, none⟩ = some v) : ∃ n, v = .int .i64 n := by
  obtain ⟨cs, h1, h2, h3⟩ := h
  have := (h1.cell i).symm.trans hv
  by_cases hi : i < 64
  · rw [(h3 i hi).1] at this; exact ⟨_, (Option.some.inj this).symm⟩
  · by_cases hi2 : i < 128
    · have h4 := (h3 (i - 64) (by omega)).2
      rw [show 64 + (i - 64) = i by omega] at h4
      rw [h4] at this; exact ⟨_, (Option.some.inj this).symm⟩
    · rw [Array.getElem?_eq_none (by omega)] at this; cases this
/-- A map's memory is kept where an account's block alone may change. -/
theorem MapAt.byAcc {W W' : World} {A B : Nat} {d : List Pt} {acc : Nat → Int × Int} (h : MapAt W B d) (hA : AccM W A acc) (hne : A ≠ B) (hg : W.grownBy W' (some A)) : MapAt W' B d := by
  obtain ⟨v, h1, h2⟩ := h
  refine ⟨v, h1.kept hg (by simp; exact fun e => hne e.symm), h2.grown hg (fun g o n c hv hd e => ?_)⟩
  cases e
  rcases h2 with ⟨h3, _⟩ | ⟨g', o', c', h3, hc, _⟩
  · exact hd h3
  · rw [hv] at h3
    cases h3
    cases d with
    | nil => exact hd rfl
    | cons p d =>
      have := (hc 0 p rfl).1
      obtain ⟨n, hn⟩ := hA.int _ this
      cases hn
/-- A map and an account of the statement's own. -/
structure StA (w W : World) (B A : Nat) (d : List Pt) (acc : Nat → Int × Int) : Prop where
  s : St w W B d
  a : AccM W A acc
  h : w.heap.size ≤ A
  ne : A ≠ B
section
variable {w W W' : World} {B A : Nat} {d d' : List Pt} {acc acc' : Nat → Int × Int}
theorem StA.keep (h : StA w W B A d acc) (hb : Below W.heap.size W W') : StA w W' B A d acc := ⟨h.s.keep hb, h.a.keep hb, h.h, h.ne⟩
theorem StA.alloc (h : StA w W B A d acc) (o : Obj) : StA w (W.alloc o) B A d acc := h.keep ((Below.refl _ _).alloc (Nat.le_refl _) o)
theorem StA.drew (h : StA w W B A d acc) : StA w W.drew B A d acc := h.keep (Below.refl _ _).drew
theorem StA.move (h : StA w W B A d acc) (hM : MapAt W' B d') (hg : W.grownBy W' (some B)) : StA w W' B A d' acc := ⟨h.s.move hM hg, h.a.other h.ne hg, h.h, h.ne⟩
theorem StA.put (h : StA w W B A d acc) (hA : AccM W' A acc') (hg : W.grownBy W' (some A)) : StA w W' B A d acc' :=
  ⟨⟨h.s.m.byAcc h.a h.ne hg, h.s.b.grown hg h.s.b.size (fun q e => by cases e; exact h.h), h.s.h⟩, hA, h.h, h.ne⟩
end
theorem put2 {cs : Array Value} (hz : cs.size = 128) {k : Nat} (hk : k < 64) (a b : Value) : ((cs.setIfInBounds k a).setIfInBounds (64 + k) b).size = 128 ∧ ∀ j, j < 64 →
    ((cs.setIfInBounds k a).setIfInBounds (64 + k) b)[j]? = (if j = k then some a else cs[j]?) ∧ ((cs.setIfInBounds k a).setIfInBounds (64 + k) b)[64 + j]? = (if j = k then some b else cs[64 + j]?) := by
  refine ⟨by simp [hz], fun j hj => ?_⟩
  constructor
  · rw [Array.getElem?_setIfInBounds, if_neg (by omega), Array.getElem?_setIfInBounds]
    by_cases e : j = k
    · subst e; simp [hz]; omega
    · rw [if_neg (fun h => e h.symm), if_neg e]
  · rw [Array.getElem?_setIfInBounds]
    by_cases e : j = k
    · subst e; simp [hz]; omega
    · rw [if_neg (by omega), Array.getElem?_setIfInBounds, if_neg (by omega), if_neg e]
theorem zero128 : Tryd.zeroCells44.size = 128 := by kernel_rfl
set_option maxRecDepth 100000 in
set_option maxHeartbeats 2000000 in
theorem begun_any (w W : World) (hw : Below w.heap.size w W) :
    Calls Tryd.prog 12 #[] W fun e W' => ∃ B A, e = .returned (.tuple #[.pointer (some ⟨B, 0, none⟩), .pointer (some ⟨A, 0, none⟩), .bool true]) ∧ StA w W' B A [⟨⟨#[]⟩, ⟨#[]⟩, 1, 1⟩] (fun _ => (1, 1)) ∧ W.heap.size ≤ B ∧ W.heap.size ≤ A := by
  have HW := Lib.hid hw
  clear hw
  go_enter Tryd.func12, Tryd.ntmps12
  go_wp2_with fail
  refine (new_st 1 (by decide) w _ HW.out).mono ?_
  rintro e w1 ⟨B, rfl, hBW, hS, hb⟩
  have S1 := Lib.hid hS
  have B1 := Lib.hid hb
  have HBW := Lib.hid hBW
  clear hS hb hBW
  go_wp2_with fail
  have HA := Lib.hid (fun cs => Whole.new w1 44 cs)
  have HB := Lib.hid (fun o => (Below.refl w1.heap.size w1).alloc (Nat.le_refl _) o)
  go_loopw [13] (fun i wr => ∃ k : Nat, k ≤ 64 ∧ i = .int .i64 k ∧ Hid (Below w1.heap.size w1 wr) ∧ ∃ cs, Hid (Whole wr w1.heap.size 44 cs) ∧ Hid (cs.size = 128) ∧ Hid (∀ j, j < k → cs[j]? = some (.int .i64 1) ∧ cs[64 + j]? = some (.int .i64 1))) (fun i _ => 64 - (intOf i).toNat)
  case atStart => exact ⟨0, Nat.zero_le _, rfl, Lib.hid (HB.out _), _, Lib.hid (HA.out _), Lib.hid zero128, Lib.hid (fun j hj => by omega)⟩
  case round =>
    rename_i wr
    obtain ⟨k, hk, rfl, S, cs, X, HZ, HC⟩ := hrel
    by_cases hlt : k < 64
    · obtain ⟨v0, hv0⟩ : ∃ v, cs[k]? = some v := ⟨cs[k]'(by rw [HZ.out]; omega), by simp⟩
      obtain ⟨v1, hv1⟩ : ∃ v, cs[64 + k]? = some v := ⟨cs[64 + k]'(by rw [HZ.out]; omega), by simp⟩
      have x0 := (X.out.cell k).trans hv0
      have x1 := (X.out.cell (64 + k)).trans hv1
      have f0 := X.out.fr k
      have f1 := X.out.fr (64 + k)
      have hki : (k : Int) < 64 := by omega
      clear hv0 hv1
      go_wp2_with fail
      go_region
      clear x0 x1 f0 f1
      have P := put2 HZ.out hlt (.int .i64 1) (.int .i64 1)
      have S2 := Lib.hid ((S.out.setCell (p := ⟨w1.heap.size, k, none⟩) (Nat.le_refl _) (.int .i64 1)).setCell (p := ⟨w1.heap.size, 64 + k, none⟩) (Nat.le_refl _) (.int .i64 1)).drew
      have X2 : Hid (Whole ((wr.setCell ⟨w1.heap.size, k, none⟩ (.int .i64 1)).setCell ⟨w1.heap.size, 64 + k, none⟩ (.int .i64 1)).drew w1.heap.size 44 _) := Lib.hid ((X.out.put k (.int .i64 1)).put (64 + k) (.int .i64 1))
      go_wp2_with fail
      go_roundw
      case rel => exact ⟨k + 1, by omega, by go_num, S2, _, X2, Lib.hid P.1, Lib.hid (fun j hj => by
        obtain ⟨p1, p2⟩ := P.2 j (by omega)
        rw [p1, p2]
        by_cases e : j = k
        · rw [if_pos e, if_pos e]; exact ⟨rfl, rfl⟩
        · rw [if_neg e, if_neg e]; exact HC.out j (by omega))⟩
      case measure => simp [intOf]; omega
    · obtain rfl : k = 64 := by omega
      go_wp2_with fail
      go_ret3
      have hB := S1.out.m.lt
      have hn := B1.out.size
      have hsz := HW.out.size
      refine ⟨B, w1.heap.size, rfl, ⟨S1.out.keep S.out, ⟨cs, X.out, HZ.out, fun j hj => HC.out j hj⟩, by omega, by omega⟩, HBW.out, hn⟩
/-- The account that the statements begin with. -/
theorem acc_begun : Acc 1 [⟨⟨#[]⟩, ⟨#[]⟩, 1, 1⟩] (fun _ => (1, 1)) :=
  ⟨ch_one 1 1, fun p hp => by rw [List.mem_singleton.1 hp]; exact ⟨named_em, named_em⟩, fun p hp => by rw [List.mem_singleton.1 hp]; decide, fun k hk => by
    obtain ⟨q, h1, h2, _⟩ := chT_find (ch_one 1 1) (nm_isName k)
    exact ⟨q, h1, by rw [List.mem_singleton.1 h2]⟩⟩
end Go.Proofs.YtkkkppbcjmeapaaDoor
