/- What the reference's number returns: the digits ahead from a place on, at most four, as a number, or that there is none. Conditions: the text and the place are no greater than 1,000,010. -/
import Derived.Test.YtmbnhbocablgeaaDoorPlRead
import Derived.Test.YtmbnhbocablgeaaDoorProg
import Derived.WalkKit
import Derived.WalkSpells
import Derived.WalkLawsBesides
import Derived.Lib.Hide
namespace Go.Proofs.YtmbnhbocablgeaaDoor
open Go.RowKit

/-- How many digits stand in a text from a place on, four at most. -/
structure Stop4 (s : ByteArray) (b j : Nat) : Prop where
  le : j ≤ 4
  inside : j = 0 ∨ b + j ≤ s.size
  dig : ∀ t, t < j → ∀ h : b + t < s.size, isDig (s[b + t]'h) = true
  stop : j < 4 → ∀ h : b + j < s.size, ¬ isDig (s[b + j]'h) = true
def nv (s : ByteArray) (b j : Nat) : Int := if j = 0 ∨ (1 < j ∧ s.data.toList[b]? = some 48) then -1 else dv ((s.data.toList.drop b).take j)

theorem nv_no {s : ByteArray} {b : Nat} : nv s b 0 = -1 := by unfold nv; rw [if_pos (.inl rfl)]
theorem nv_zero {s : ByteArray} {b j : Nat} (h1 : 1 < j) (h2 : s.data.toList[b]? = some 48) : nv s b j = -1 := by unfold nv; rw [if_pos (.inr ⟨h1, h2⟩)]
theorem nv_yes {s : ByteArray} {b j : Nat} (h1 : ¬ j = 0) (h2 : ¬ (1 < j ∧ s.data.toList[b]? = some 48)) : nv s b j = dv ((s.data.toList.drop b).take j) := by
  unfold nv; rw [if_neg (by rintro (h | h); exact h1 h; exact h2 h)]
theorem isDigI {c : UInt8} : isDig c = true ↔ 48 ≤ (c.toNat : Int) ∧ (c.toNat : Int) ≤ 57 := by
  unfold isDig
  simp only [Bool.and_eq_true, decide_eq_true_eq]
  omega
theorem getI {s : ByteArray} {b : Nat} (h : b < s.size) : s.data.toList[b]? = some (s[b]'h) := by
  rw [List.getElem?_eq_getElem (by rw [← Lib.size_eq]; exact h)]; rfl
theorem dv_step {s : ByteArray} {b j : Nat} (h : b + j < s.size) (hd : isDig (s[b + j]'h) = true) : (dv ((s.data.toList.drop b).take (j + 1)) : Int) = (dv ((s.data.toList.drop b).take j) : Int) * 10 + (((s[b + j]'h).toNat : Int) - 48) := by
  have hl : j < (s.data.toList.drop b).length := by rw [List.length_drop, ← Lib.size_eq]; omega
  rw [List.take_succ_eq_append_getElem hl, dv_snoc]
  have he : (s.data.toList.drop b)[j] = s[b + j]'h := by rw [List.getElem_drop]; rfl
  rw [he]
  have := (isDigI.1 hd).1
  omega
theorem dv_bd {s : ByteArray} {b j : Nat} (h : b + j ≤ s.size ∨ j = 0) (hj : j ≤ 4) (hd : ∀ t, t < j → ∀ h : b + t < s.size, isDig (s[b + t]'h) = true) : (dv ((s.data.toList.drop b).take j) : Int) ≤ 9999 := by
  have ha : ((s.data.toList.drop b).take j).all isDig = true := by
    rw [List.all_eq_true]
    intro x hx
    obtain ⟨t, ht, rfl⟩ := List.getElem_of_mem hx
    have ht1 : t < j := by rw [List.length_take] at ht; omega
    have ht2 : b + t < s.size := by omega
    have := hd t ht1 ht2
    rw [List.getElem_take, List.getElem_drop]
    exact this
  have hlt := dv_lt _ 0 ha
  have hlen : ((s.data.toList.drop b).take j).length ≤ 4 := by rw [List.length_take]; omega
  have hp : 10 ^ ((s.data.toList.drop b).take j).length ≤ 10 ^ 4 := Nat.pow_le_pow_right (by omega) hlen
  unfold dv
  omega
theorem ret2n {a b c d : Int} (h : a = c) (h' : b = d) : Ending.returned (.tuple #[.int .i64 a, .int .i64 b]) = .returned (.tuple #[.int .i64 c, .int .i64 d]) := by rw [h, h']

def NumbOut (s : ByteArray) (b : Nat) (w : World) (e : Ending) (w' : World) : Prop := (∃ j : Nat, e = .returned (.tuple #[.int .i64 (nv s b j), .int .i64 ((b : Int) + j)]) ∧ Stop4 s b j) ∧ w = w'

set_option maxHeartbeats 4000000 in
theorem refNumb_any (s : ByteArray) (b : Nat) (w : World) (hs : s.size ≤ 1000000) (hb : b ≤ 1000010) :
    Calls Tryd.prog 42 #[.string s, .int .i64 (b : Int)] w (NumbOut s b w) := by
  go_enter Tryd.func42, Tryd.ntmps42
  go_wp2
  go_loop [1, 6] (fun a n => ∃ j : Nat, j ≤ 4 ∧ a = .int .i64 ((b : Int) + j) ∧ Hid (j = 0 ∨ b + j ≤ s.size) ∧ (∃ v : Int, n = .int .i64 v ∧ 0 ≤ v ∧ v ≤ 9999 ∧ Hid (v = dv ((s.data.toList.drop b).take j))) ∧ Hid (∀ t, t < j → ∀ h : b + t < s.size, isDig (s[b + t]'h) = true)) (fun a _ => b + 4 - (intOf a).toNat)
  case atStart => exact ⟨0, by omega, by simp, Lib.hid (.inl rfl), ⟨0, rfl, by omega, by omega, Lib.hid (by simp [dv, dvF])⟩, Lib.hid (fun _ h => absurd h (Nat.not_lt_zero _))⟩
  case round =>
    obtain ⟨j, hj, rfl, hi, ⟨v, rfl, v0, v1, hv⟩, hd⟩ := hrel
    by_cases hgo : (∃ h1 : b + j < s.size, isDig (s[b + j]'h1) = true) ∧ j < 4
    · obtain ⟨⟨h1, h3⟩, h2⟩ := hgo
      obtain ⟨g1, g2⟩ := isDigI.1 h3
      have hd' : Hid (∀ t, t < j + 1 → ∀ h : b + t < s.size, isDig (s[b + t]'h) = true) := Lib.hid (fun t ht h => by
        by_cases e : t = j
        · subst e; exact h3
        · exact hd.out t (by omega) h)
      have hbd := dv_bd (j := j + 1) (.inl (by omega)) (by omega) hd'.out
      have hstep := dv_step h1 h3
      rw [← hv.out] at hstep
      have hv' := Lib.hid hstep.symm
      rw [hstep] at hbd
      clear hv hd hstep h3 hi
      go_wp2
      go_round
      case rel => exact ⟨j + 1, by omega, by rw [show (b : Int) + ((j + 1 : Nat) : Int) = (b : Int) + j + 1 by omega], Lib.hid (.inr (by omega)), ⟨_, rfl, by omega, by omega, hv'⟩, hd'⟩
      case measure => simp [intOf]; omega
    · have hE : ¬ b + j < s.size ∨ (j = 4 ∧ b + j < s.size) ∨ (j < 4 ∧ ∃ h1 : b + j < s.size, ((s[b + j]'h1).toNat : Int) < 48) ∨ (j < 4 ∧ ∃ h1 : b + j < s.size, 57 < ((s[b + j]'h1).toNat : Int)) := by
        by_cases h1 : b + j < s.size
        · by_cases h2 : j < 4
          · have h3 : ¬ isDig (s[b + j]'h1) = true := fun h => hgo ⟨⟨h1, h⟩, h2⟩
            rw [isDigI] at h3
            by_cases h4 : ((s[b + j]'h1).toNat : Int) < 48
            · exact .inr (.inr (.inl ⟨h2, h1, h4⟩))
            · exact .inr (.inr (.inr ⟨h2, h1, by omega⟩))
          · exact .inr (.inl ⟨by omega, h1⟩)
        · exact .inl h1
      have HS := Lib.hid (show Stop4 s b j from ⟨hj, hi.out, hd.out, fun h2 h1 h => hgo ⟨⟨h1, h⟩, h2⟩⟩)
      have hV : j = 0 ∨ (1 ≤ j ∧ ∃ hf : b < s.size, ¬ ((s[b]'hf).toNat : Int) = 48) ∨ (j = 1 ∧ ∃ hf : b < s.size, ((s[b]'hf).toNat : Int) = 48) ∨ (2 ≤ j ∧ ∃ hf : b < s.size, ((s[b]'hf).toNat : Int) = 48) := by
        by_cases h0 : j = 0
        · exact .inl h0
        · have hf : b < s.size := by have := hi.out; omega
          by_cases h4 : ((s[b]'hf).toNat : Int) = 48
          · by_cases h5 : j = 1
            · exact .inr (.inr (.inl ⟨h5, hf, h4⟩))
            · exact .inr (.inr (.inr ⟨by omega, hf, h4⟩))
          · exact .inr (.inl ⟨by omega, hf, h4⟩)
      have hnv : (∀ hf : b < s.size, s.data.toList[b]? = some (s[b]'hf)) := fun hf => getI hf
      have HN := Lib.hid hnv
      clear hnv hgo hd hi
      rcases hV with hj0 | ⟨hj1, hf, hz⟩ | ⟨hj1, hf, hz⟩ | ⟨hj1, hf, hz⟩
      · subst hj0
        simp only [Nat.add_zero] at hE
        have HW := Lib.hid (show (-1 : Int) = nv s b 0 by rw [nv_no])
        rcases hE with h1 | ⟨h1, h2⟩ | ⟨h2, h1, h3⟩ | ⟨h2, h1, h3⟩
        all_goals
          first
          | omega
          | (go_wp2
             go_ret2
             exact ⟨⟨0, ret2n HW.out (by omega), HS.out⟩, rfl⟩)
      · have HW := Lib.hid (show v = nv s b j by
          rw [nv_yes (by omega) (by
            rintro ⟨_, h⟩
            rw [HN.out hf] at h
            have := Option.some.inj h
            rw [this] at hz
            exact hz rfl)]
          exact hv.out)
        rcases hE with h1 | ⟨h1, h2⟩ | ⟨h2, h1, h3⟩ | ⟨h2, h1, h3⟩
        all_goals
          first
          | omega
          | (go_wp2
             go_ret2
             exact ⟨⟨j, ret2n HW.out (by omega), HS.out⟩, rfl⟩)
      · subst hj1
        have HW := Lib.hid (show v = nv s b 1 by
          rw [nv_yes (by omega) (by omega)]
          exact hv.out)
        rcases hE with h1 | ⟨h1, h2⟩ | ⟨h2, h1, h3⟩ | ⟨h2, h1, h3⟩
        all_goals
          first
          | omega
          | (go_wp2
             go_ret2
             exact ⟨⟨1, ret2n HW.out (by omega), HS.out⟩, rfl⟩)
      · have HW := Lib.hid (show (-1 : Int) = nv s b j by
          rw [nv_zero (by omega) (by
            rw [HN.out hf]
            congr 1
            exact UInt8.toNat_inj.1 (by have h48 : (48 : UInt8).toNat = 48 := rfl; omega))])
        rcases hE with h1 | ⟨h1, h2⟩ | ⟨h2, h1, h3⟩ | ⟨h2, h1, h3⟩
        all_goals
          first
          | omega
          | (go_wp2
             go_ret2
             exact ⟨⟨j, ret2n HW.out (by omega), HS.out⟩, rfl⟩)
end Go.Proofs.YtmbnhbocablgeaaDoor
