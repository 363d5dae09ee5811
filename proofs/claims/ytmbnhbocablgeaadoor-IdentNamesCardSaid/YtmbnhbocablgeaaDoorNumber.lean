/- What the reader's number does: it takes a number away, or says that there is none. Conditions: as the reader's words. -/
import Derived.Test.YtmbnhbocablgeaaDoorReader
import Derived.Lib.SmallJoins
namespace Go.Proofs.YtmbnhbocablgeaaDoor
open Go.RowKit

/-- A text and how many digits are ahead in it. -/
structure Ahead (s : ByteArray) (K : Nat) : Prop where
  le : K ≤ s.size
  dig : ∀ j (h : j < s.size), j < K → 48 ≤ ((s[j]'h).toNat : Int) ∧ ((s[j]'h).toNat : Int) ≤ 57
  stop : ∀ (h : K < s.size), ((s[K]'h).toNat : Int) < 48 ∨ 57 < ((s[K]'h).toNat : Int)

theorem getElem_list (s : ByteArray) (j : Nat) (h : j < s.size) : s[j]'h = s.data.toList[j]'(by rw [← Lib.size_eq]; exact h) := rfl
theorem isDig_iff {c : UInt8} : isDig c = true ↔ 48 ≤ (c.toNat : Int) ∧ (c.toNat : Int) ≤ 57 := by
  unfold isDig
  simp only [Bool.and_eq_true, decide_eq_true_eq]
  omega
theorem lead_get : ∀ (l : List UInt8) (j : Nat) (h : j < l.length), j < (lead l).length → isDig l[j] = true
  | [], _, h, _ => by simp at h
  | c :: l, j, h, hj => by
    unfold lead at hj
    by_cases hc : isDig c = true
    · cases j with
      | zero => exact hc
      | succ j =>
        simp only [List.takeWhile_cons, hc, if_true, List.length_cons] at hj
        exact lead_get l j (by simpa using h) (by unfold lead; omega)
    · simp [hc] at hj
theorem lead_stop : ∀ (l : List UInt8) (h : (lead l).length < l.length), isDig l[(lead l).length] = false
  | [], h => by simp at h
  | c :: l, h => by
    by_cases hc : isDig c = true
    · have e : lead (c :: l) = c :: lead l := by unfold lead; simp [hc]
      have : (lead l).length < l.length := by rw [e] at h; simpa using h
      have := lead_stop l this
      simpa [e] using this
    · have e : lead (c :: l) = [] := by unfold lead; simp [hc]
      simpa [e] using hc
theorem ahead_of (s : ByteArray) : Ahead s (lead s.data.toList).length := by
  have hl : (lead s.data.toList).length ≤ s.size := by rw [Lib.size_eq]; exact (List.takeWhile_prefix _).length_le
  refine ⟨hl, fun j h hj => ?_, fun h => ?_⟩
  · rw [getElem_list]
    exact isDig_iff.1 (lead_get _ j _ hj)
  · have := lead_stop s.data.toList (by rw [← Lib.size_eq]; exact h)
    rw [getElem_list]
    have hn : ¬ (48 ≤ ((s.data.toList[(lead s.data.toList).length]'(by rw [← Lib.size_eq]; exact h)).toNat : Int) ∧ ((s.data.toList[(lead s.data.toList).length]'(by rw [← Lib.size_eq]; exact h)).toNat : Int) ≤ 57) := fun hc => by
      rw [isDig_iff.2 hc] at this
      cases this
    omega

theorem ext_drop (s : ByteArray) (K : Nat) : s.extract K s.size = ⟨(s.data.toList.drop K).toArray⟩ := by
  have := Lib.extract_to_end s K
  rw [← this]
theorem ext_take (s : ByteArray) (K : Nat) : (s.extract 0 K).data.toList = s.data.toList.take K := by
  rw [Lib.extract_data]; simp
theorem lead_take (l : List UInt8) : l.take (lead l).length = lead l := by
  have := lead_drop l
  conv => lhs; arg 2; rw [← this]
  simp
theorem Rd.left {w : World} {g : Nat} {s : ByteArray} {k : Bool} (h : Rd w g s.data.toList k) (K : Nat) : Rd (w.setCell ⟨g, 0, none⟩ (.string (s.extract K s.size))) g (s.data.toList.drop K) k := by
  rw [ext_drop]; exact h.set0 _

theorem Rd.same {w : World} {g : Nat} {s : ByteArray} {k : Bool} (h : Rd w g s.data.toList k) : Rd (w.setCell ⟨g, 0, none⟩ (.string s)) g (s.data.toList.drop 0) k := h.set0 _

/-- The number's value, said of its digits' string. -/
theorem atoi_lead (s : ByteArray) (h : numOk (lead s.data.toList) = true) : Lib.atoi (s.extract 0 (lead s.data.toList).length).data.toList = some (rNumV s.data.toList) := by
  rw [ext_take, lead_take]
  unfold rNumV
  rw [if_pos h]
  refine atoi_dv ?_ (lead_all _)
  intro e
  rw [e] at h
  revert h
  decide

set_option maxHeartbeats 1000000 in
theorem number_bad (g : Nat) (s : ByteArray) (k : Bool) (K : Nat) (w : World) (hs : s.size ≤ 1000000) (hA : Ahead s K) (hK : K = 0 ∨ 4 < K) (h : Rd w g s.data.toList k) :
    Calls Tryd.prog 45 #[.pointer (some ⟨g, 0, none⟩)] w fun e w' => e = .returned (.int .i64 0) ∧ Rd w' g (s.data.toList.drop K) false ∧ Only g w w' := by
  have c0 : w.cell? ⟨g, 0, none⟩ = some (.string s) := h.c0
  have c1 := h.c1
  have f0 := h.fr 0
  have f1 := h.fr 1
  have HR := Lib.hid h
  have hle := hA.le
  have HA := Lib.hid hA
  clear h hA
  go_enter Tryd.func45, Tryd.ntmps45
  go_wp2
  go_loop [3] (fun n => ∃ j : Nat, j ≤ K ∧ n = .int .i64 j) (fun n => K - (intOf n).toNat)
  case atStart => exact ⟨0, Nat.zero_le _, rfl⟩
  case round =>
    obtain ⟨j, hj, rfl⟩ := hrel
    by_cases hlt : j < K
    · have hjs : j < s.size := by omega
      have hd := HA.out.dig j hjs hlt
      obtain ⟨hd1, hd2⟩ := hd
      go_wp2
      go_round
      case rel => exact ⟨j + 1, by omega, by go_num⟩
      case measure => simp [intOf]; omega
    · obtain rfl : j = K := by omega
      by_cases hz : j < s.size
      · have hd := HA.out.stop hz
        rcases hK with hK | hK
        · subst hK
          go_wp2
          all_goals
            go_ret
            exact ⟨rfl, HR.out.same.set1 _, (Only.set _).trans (Only.set _)⟩
        · have hb : ((j : Int) == 0) = false := by simp; omega
          go_wp2
          all_goals
            go_ret
            exact ⟨rfl, (HR.out.left _).set1 _, (Only.set _).trans (Only.set _)⟩
      · rcases hK with hK | hK
        · subst hK
          go_wp2
          all_goals
            go_ret
            exact ⟨rfl, HR.out.same.set1 _, (Only.set _).trans (Only.set _)⟩
        · have hb : ((j : Int) == 0) = false := by simp; omega
          go_wp2
          all_goals
            go_ret
            exact ⟨rfl, (HR.out.left _).set1 _, (Only.set _).trans (Only.set _)⟩
end Go.Proofs.YtmbnhbocablgeaaDoor
