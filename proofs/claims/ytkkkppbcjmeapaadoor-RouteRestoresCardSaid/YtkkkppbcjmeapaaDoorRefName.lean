/- What the reference's Name returns: whether the text is a name. Condition: the text is no longer than a machine's integer. -/
import Derived.Test.YtkkkppbcjmeapaaDoorName
namespace Go.Proofs.YtkkkppbcjmeapaaDoor
open Go.RowKit

theorem nmB_iff {c : UInt8} : nmB c = true ↔ (97 ≤ (c.toNat : Int) ∧ (c.toNat : Int) ≤ 122) ∨ (48 ≤ (c.toNat : Int) ∧ (c.toNat : Int) ≤ 57) := by
  unfold nmB
  simp only [Bool.or_eq_true, Bool.and_eq_true, decide_eq_true_eq]
  omega
theorem all_get {s : ByteArray} (h : ∀ t (h : t < s.size), nmB (s[t]'h) = true) : s.data.toList.all nmB = true := by
  rw [List.all_eq_true]
  intro x hx
  obtain ⟨t, ht, rfl⟩ := List.getElem_of_mem hx
  have := h t (by rw [Lib.size_eq]; exact ht)
  exact this
theorem get_bad {s : ByteArray} {t : Nat} (ht : t < s.size) (h : ¬ nmB (s[t]'ht) = true) : ¬ s.data.toList.all nmB = true := fun h2 =>
  h (List.all_eq_true.1 h2 _ (List.getElem_mem (by rw [← Lib.size_eq]; exact ht)))

set_option maxHeartbeats 1000000 in
theorem refName_any (s : ByteArray) (w : World) (hs : s.size ≤ 9223372036854775807) :
    Calls Tryd.prog 79 #[.string s] w fun e w' => e = .returned (.bool (isName s.data.toList)) ∧ w = w' := by
  have hl : s.data.toList.length = s.size := by rw [← Lib.size_eq]
  generalize hq : isName s.data.toList = q
  have HQ := Lib.hid hq
  clear hq
  go_enter Tryd.func79, Tryd.ntmps79
  go_wp2
  go_loop [3] (fun n => ∃ j : Nat, j ≤ s.size ∧ n = .int .i64 j ∧ Hid (∀ t (h : t < s.size), t < j → nmB (s[t]'h) = true)) (fun n => s.size - (intOf n).toNat)
  case atStart => exact ⟨0, Nat.zero_le _, rfl, Lib.hid (fun _ _ h => absurd h (Nat.not_lt_zero _))⟩
  case round =>
    obtain ⟨j, hj, rfl, hall⟩ := hrel
    by_cases hlt : j < s.size
    · by_cases hg : nmB (s[j]'hlt) = true
      · have hn : Hid (∀ t (h : t < s.size), t < j + 1 → nmB (s[t]'h) = true) := Lib.hid (fun t h ht => by
          by_cases e : t = j
          · subst e; exact hg
          · exact hall.out t h (by omega))
        rcases nmB_iff.1 hg with ⟨g1, g2⟩ | ⟨g1, g2⟩
        all_goals
          clear hg
          go_wp2
          go_round
          case rel => exact ⟨j + 1, by omega, by go_num, hn⟩
          case measure => simp [intOf]; omega
      · obtain rfl : q = false := by rw [← HQ.out]; exact isName_no hl (fun h => get_bad hlt hg h.2.2)
        have h3 : ((s[j]'hlt).toNat : Int) < 48 ∨ (57 < ((s[j]'hlt).toNat : Int) ∧ ((s[j]'hlt).toNat : Int) < 97) ∨ 122 < ((s[j]'hlt).toNat : Int) := by
          rw [nmB_iff] at hg
          omega
        clear hg hall
        rcases h3 with g1 | ⟨g1, g2⟩ | g1
        all_goals
          go_wp2
          go_ret
          exact ⟨rfl, rfl⟩
    · obtain rfl : j = s.size := by omega
      have ha := all_get (fun t h => hall.out t h h)
      clear hall
      by_cases h1 : 1 ≤ s.size
      · by_cases h2 : s.size ≤ 16
        · obtain rfl : q = true := by rw [← HQ.out]; exact isName_yes hl h1 h2 ha
          have hd : decide ((s.size : Int) ≤ 16) = true := by simp; omega
          go_wp2
          go_ret
          exact ⟨by rw [← hd]; rfl, rfl⟩
        · obtain rfl : q = false := by rw [← HQ.out]; exact isName_no hl (fun h => h2 h.2.1)
          have hd : decide ((s.size : Int) ≤ 16) = false := by simp; omega
          go_wp2
          go_ret
          exact ⟨by rw [← hd]; rfl, rfl⟩
      · obtain rfl : q = false := by rw [← HQ.out]; exact isName_no hl (fun h => h1 h.1)
        go_wp2
        go_ret
        exact ⟨rfl, rfl⟩
end Go.Proofs.YtkkkppbcjmeapaaDoor
