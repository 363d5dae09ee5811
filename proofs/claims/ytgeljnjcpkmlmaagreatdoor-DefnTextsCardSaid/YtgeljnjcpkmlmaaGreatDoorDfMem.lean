/- Definitions of sagas in memory, and whether a key stands among steps. Condition: texts are no longer than an int can say. -/
import Derived.Test.YtgeljnjcpkmlmaaGreatDoorPlA
import Derived.Test.YtgeljnjcpkmlmaaGreatDoorName
import Derived.Test.YtgeljnjcpkmlmaaGreatDoorRefName
import Derived.Test.YtgeljnjcpkmlmaaGreatDoorGen
namespace Go.Proofs.YtgeljnjcpkmlmaaGreatDoor
open Go.RowKit Go.Shelf

def stV (p : Sp) : Value := .agg #[.string p.k, .int .i64 p.v]
def stC (p : Sp) : List Value := [.string p.k, .int .i64 p.v]
/-- A slice holds these steps. -/
def SlD (w : World) (A : Option Addr) (s : List Sp) : Prop := ∀ (i : Nat) p, s[i]? = some p → ∃ g o, A = some ⟨g, o, none⟩ ∧ w.cell? ⟨g, o + i * 2, none⟩ = some (.string p.k) ∧ w.cell? ⟨g, o + i * 2 + 1, none⟩ = some (.int .i64 p.v)
theorem SlD.grown {w w' : World} {A : Option Addr} {s : List Sp} {row : Option Nat} (h : SlD w A s) (hg : w.grownBy w' row) (hne : ∀ a : Addr, A = some a → s ≠ [] → some a.block ≠ row) : SlD w' A s := fun i p hi => by
  obtain ⟨g, o, rfl, c0, c1⟩ := h i p hi
  have hn := hne ⟨g, o, none⟩ rfl (fun e => by rw [e] at hi; simp at hi)
  exact ⟨g, o, rfl, gcell c0 hg hn, gcell c1 hg hn⟩
theorem SlD.keep {w w' : World} {A : Option Addr} {s : List Sp} (h : SlD w A s) (hb : Below w.heap.size w w') : SlD w' A s := h.grown (gbelow hb) (by simp)
/-- Sizes of a definition's parts. -/
def SpZ (p : Sp) : Prop := p.k.size ≤ 9223372036854775807 ∧ -9223372036854775808 ≤ p.v ∧ p.v ≤ 9223372036854775807
structure DefZ (d : Dv) : Prop where
  n : d.n.size ≤ 9223372036854775807
  r : -9223372036854775808 ≤ d.r ∧ d.r ≤ 9223372036854775807
  dl : -9223372036854775808 ≤ d.dl ∧ d.dl ≤ 9223372036854775807
  s : ∀ (i : Nat) p, d.s[i]? = some p → SpZ p
def dV (d : Dv) (A : Option Addr) (n c : Nat) : Value := .agg #[.string d.n, .int .i64 d.r, .int .i64 d.dl, .slice A n c]
/-- A definition in memory. -/
structure DefAt (w : World) (A : Option Addr) (n c : Nat) (d : Dv) : Prop where
  len : d.s.length = n
  le : n ≤ c
  big : n ≤ 1000000000000
  z : DefZ d
  s : SlD w A d.s
theorem DefAt.keep {w w' : World} {A : Option Addr} {n c : Nat} {d : Dv} (h : DefAt w A n c d) (hb : Below w.heap.size w w') : DefAt w' A n c d := ⟨h.len, h.le, h.big, h.z, h.s.keep hb⟩
theorem DefAt.grown {w w' : World} {A : Option Addr} {n c : Nat} {d : Dv} {row : Option Nat} (h : DefAt w A n c d) (hg : w.grownBy w' row) (hne : ∀ a : Addr, A = some a → d.s ≠ [] → some a.block ≠ row) : DefAt w' A n c d := ⟨h.len, h.le, h.big, h.z, h.s.grown hg hne⟩

theorem numCheck_any (a : Int) (w : World) : Calls Tryz.prog 54 #[.int .i64 a] w fun e w' => e = .returned (.int .i64 (if -1152921504606846976 ≤ a ∧ a ≤ 1152921504606846976 then 0 else 7)) ∧ w = w' := by
  by_cases h1 : a < -1152921504606846976
  · rw [if_neg (by omega)]
    go_enter Tryz.func54, Tryz.ntmps54
    go_wp2
    go_ret
    exact ⟨rfl, rfl⟩
  · by_cases h2 : 1152921504606846976 < a
    · rw [if_neg (by omega)]
      go_enter Tryz.func54, Tryz.ntmps54
      go_wp2
      go_ret
      exact ⟨rfl, rfl⟩
    · rw [if_pos (by omega)]
      go_enter Tryz.func54, Tryz.ntmps54
      go_wp2
      go_ret
      exact ⟨rfl, rfl⟩
theorem in_any (n m : Int) (w : World) : Calls Tryz.prog 51 #[.int .i64 n, .int .i64 m] w fun e w' => e = .returned (.bool (decide (0 ≤ n ∧ n ≤ m))) ∧ w = w' := by
  generalize hq : decide (0 ≤ n ∧ n ≤ m) = q
  have HQ := Lib.hid hq
  clear hq
  by_cases h1 : 0 ≤ n <;> by_cases h2 : n ≤ m
  all_goals
    go_enter Tryz.func51, Tryz.ntmps51
    go_wp2
    go_ret
    exact ⟨by rw [← HQ.out]; simp [h1, h2] <;> omega, rfl⟩
/-- The closure of Check. -/
theorem check1_any (q : Sp) (K : Nat) (key : ByteArray) (w : World) (hK : w.cell? ⟨K, 0, none⟩ = some (.string key)) :
    Calls Tryz.prog 53 #[stV q, .pointer (some ⟨K, 0, none⟩)] w fun e w' => e = .returned (.bool (q.k.toList == key.toList)) ∧ Below w.heap.size w w' := by
  have k2 := acell (.cells #[.string q.k, .int .i64 q.v] 37) hK
  unfold stV
  go_enter Tryz.func53, Tryz.ntmps53
  go_wp2
  go_ret
  exact ⟨rfl, (Below.refl _ _).alloc (Nat.le_refl _) _⟩
/-- Does a key stand among the first steps? -/
def hasK (s : List Sp) (k : Nat) (key : ByteArray) : Prop := ∃ (j : Nat) (q : Sp), j < k ∧ s[j]? = some q ∧ q.k = key
theorem key_eq {a b : ByteArray} : (a.toList == b.toList) = true ↔ a = b := by
  rw [beq_iff_eq]
  exact ⟨fun h => ba_toList h, fun h => by rw [h]⟩
theorem key_ne {a b : ByteArray} : (a.toList == b.toList) = false ↔ a ≠ b := by
  rw [beq_eq_false_iff_ne]
  exact ⟨fun h e => h (by rw [e]), fun h e => h (ba_toList e)⟩
set_option maxRecDepth 100000 in
set_option maxHeartbeats 4000000 in
theorem idxF_any (A : Option Addr) (n c K : Nat) (s : List Sp) (key : ByteArray) (w : World) (hs : SlD w A s) (hn : n ≤ s.length) (hb : n ≤ 1000000000000) (hK : w.cell? ⟨K, 0, none⟩ = some (.string key)) :
    Calls Tryz.prog 91 #[.slice A n c, .func (.func 53) #[] #[.pointer (some ⟨K, 0, none⟩)]] w fun e w' => (∃ r : Int, e = .returned (.int .i64 r) ∧ (0 ≤ r ↔ hasK s n key)) ∧ Below w.heap.size w w' := by
  have HS := Lib.hid hs
  have HKK := Lib.hid hK
  have HN := Lib.hid hn
  have F := Lib.hid (fun q W hK => check1_any q K key W hK)
  unfold stV at F
  clear hs hK hn
  go_enter Tryz.func91, Tryz.ntmps91
  go_wp2_with fail
  go_loopw [8] (fun i wr => Below w.heap.size w wr ∧ ∃ k : Nat, k ≤ n ∧ i = .int .i64 k ∧ Hid (¬ hasK s k key)) (fun i _ => n - (intOf i).toNat)
  case atStart => exact ⟨Below.refl _ _, 0, Nat.zero_le _, rfl, Lib.hid (fun ⟨j, q, h, _⟩ => absurd h (Nat.not_lt_zero _))⟩
  case round =>
    obtain ⟨b2, k, hk', rfl, H0⟩ := hrel
    by_cases hlt : k < n
    · obtain ⟨p, hp⟩ : ∃ p, s[k]? = some p := ⟨_, List.getElem?_eq_getElem (Nat.lt_of_lt_of_le hlt HN.out)⟩
      obtain ⟨g, o, rfl, x0, x1⟩ := (HS.out.keep b2) k p hp
      have dK := bcell HKK.out b2
      have F1 := Lib.hid (F.out p wr dK)
      have B2 := Lib.hid b2
      have HP := Lib.hid hp
      clear hp F b2
      cases hq : (p.k.toList == key.toList) with
      | true =>
        rw [hq] at F1
        have HI : Hid (hasK s n key) := Lib.hid ⟨k, p, hlt, HP.out, key_eq.1 hq⟩
        clear hq
        go_wp2_with fail
        refine F1.out.mono ?_
        rintro e1 w1 ⟨rfl, hb⟩
        go_wp2_with fail
        go_ret
        exact ⟨⟨_, rfl, by simp [HI.out]⟩, B2.out.trans (hb.mono B2.out.size)⟩
      | false =>
        rw [hq] at F1
        have HI : Hid (¬ hasK s (k + 1) key) := Lib.hid (fun ⟨j, q, h, h2, h3⟩ => by
          by_cases e : j = k
          · subst e; rw [HP.out] at h2; cases h2; exact key_ne.1 hq h3
          · exact H0.out ⟨j, q, by omega, h2, h3⟩)
        clear hq
        go_wp2_with fail
        refine F1.out.mono ?_
        rintro e1 w1 ⟨rfl, hb⟩
        go_wp2_with fail
        go_roundw
        case rel => exact ⟨B2.out.trans (hb.mono B2.out.size), k + 1, by omega, by go_num, HI⟩
        case measure => simp [intOf]; omega
    · obtain rfl : k = n := by omega
      have HI : Hid (¬ hasK s k key) := H0
      clear H0
      go_wp2_with fail
      go_ret
      exact ⟨⟨_, rfl, by simp [HI.out]⟩, b2⟩
theorem contF_any (A : Option Addr) (n c K : Nat) (s : List Sp) (key : ByteArray) (w : World) (hs : SlD w A s) (hn : n ≤ s.length) (hb : n ≤ 1000000000000) (hK : w.cell? ⟨K, 0, none⟩ = some (.string key)) :
    Calls Tryz.prog 52 #[.slice A n c, .func (.func 53) #[] #[.pointer (some ⟨K, 0, none⟩)]] w fun e w' => (∃ b : Bool, e = .returned (.bool b) ∧ (b = true ↔ hasK s n key)) ∧ Below w.heap.size w w' := by
  have I := Lib.hid (idxF_any A n c K s key w hs hn hb hK)
  clear hs hn hb hK
  go_enter Tryz.func52, Tryz.ntmps52
  go_wp2_with (go_at_call 91; refine I.out.mono ?_; rintro e w1 ⟨⟨r, rfl, hr⟩, hB⟩; have HR := Lib.hid hr; clear hr)
  go_ret
  exact ⟨⟨_, rfl, by rw [← HR.out]; simp⟩, hB⟩
end Go.Proofs.YtgeljnjcpkmlmaaGreatDoor
