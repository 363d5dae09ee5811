/- Whether two definitions are the same, by the program and by the reference. Condition: the texts are no longer than an int can say. -/
import Derived.Test.YtgeljnjcpkmlmaaGreatDoorDfMem
import Derived.Test.YtgeljnjcpkmlmaaGreatDoorDfRck
import Derived.BigQuiet
import Derived.Laws.StructEq
namespace Go.Proofs.YtgeljnjcpkmlmaaGreatDoor
open Go.RowKit Go.Shelf

def eqS (p q : Sp) : Bool := p.k.toList == q.k.toList && p.v == q.v
theorem eqS_iff {p q : Sp} : eqS p q = true ↔ p = q := by
  unfold eqS
  rw [Bool.and_eq_true, key_eq, beq_iff_eq]
  obtain ⟨k, v⟩ := p
  obtain ⟨k', v'⟩ := q
  simp
theorem stp_ne (p q : Sp) (W : World) : (binOp .neq 37 (.agg #[.string p.k, .int .i64 p.v]) (.agg #[.string q.k, .int .i64 q.v])).run Tryz.prog W = .ok (.bool (!(eqS p q))) W := by
  unfold eqS
  cases h1 : (p.k.toList == q.k.toList) <;> cases h2 : (p.v == q.v) <;> go_simp
theorem dv_eq {a b : Dv} : a = b ↔ (a.n = b.n ∧ a.r = b.r ∧ a.dl = b.dl ∧ a.s = b.s) := by
  obtain ⟨n, r, dl, s⟩ := a
  obtain ⟨n', r', dl', s'⟩ := b
  simp
/-- The first steps are the same. -/
def SameK (s s' : List Sp) (k : Nat) : Prop := ∀ (i : Nat) p q, i < k → s[i]? = some p → s'[i]? = some q → p = q
theorem same_all {s s' : List Sp} (hl : s.length = s'.length) (h : SameK s s' s.length) : s = s' := by
  apply List.ext_getElem?
  intro i
  cases hs : s[i]? with
  | none => rw [List.getElem?_eq_none_iff] at hs; rw [List.getElem?_eq_none (by omega)]
  | some p =>
    have hi := (List.getElem?_eq_some_iff.1 hs).1
    have hq := List.getElem?_eq_getElem (show i < s'.length by omega)
    rw [hq, h i p _ hi hs hq]
theorem same_step {s s' : List Sp} {k : Nat} {p q : Sp} (h : SameK s s' k) (hp : s[k]? = some p) (hq : s'[k]? = some q) (e : p = q) : SameK s s' (k + 1) := fun i a b hi ha hb => by
  by_cases hk : i = k
  · subst hk; rw [hp] at ha; rw [hq] at hb; cases ha; cases hb; exact e
  · exact h i a b (by omega) ha hb
set_option maxRecDepth 100000 in
set_option maxHeartbeats 2000000 in
theorem slEqual_any (A A' : Option Addr) (n n' c c' : Nat) (s s' : List Sp) (w : World) (hs : SlD w A s) (hs' : SlD w A' s') (hn : s.length = n) (hn' : s'.length = n') (hb : n ≤ 1000000000000) :
    Calls Tryz.prog 34 #[.slice A n c, .slice A' n' c'] w fun e w' => (∃ b : Bool, e = .returned (.bool b) ∧ (b = true ↔ s = s')) ∧ Below w.heap.size w w' := by
  have mixed : Tryz.prog.follows Departure.mixedOrders = true := by kernel_rfl
  have HS := Lib.hid hs
  have HS' := Lib.hid hs'
  have HN := Lib.hid hn
  have HN' := Lib.hid hn'
  clear hs hs' hn hn'
  by_cases hnn : n = n'
  · subst hnn
    go_enter Tryz.func34, Tryz.ntmps34
    go_wp2_with fail
    go_loopw [13] (fun i wr => ∃ k : Nat, k ≤ n ∧ i = .int .i64 k ∧ Hid (Below w.heap.size w wr ∧ SameK s s' k)) (fun i _ => n - (intOf i).toNat)
    case atStart => exact ⟨0, by omega, rfl, Lib.hid ⟨Below.refl _ _, fun i p q h => absurd h (by omega)⟩⟩
    case round =>
      obtain ⟨k, hk, rfl, HI⟩ := hrel
      by_cases hkn : k < n
      · obtain ⟨p, hp⟩ : ∃ p, s[k]? = some p := ⟨_, List.getElem?_eq_getElem (by rw [HN.out]; exact hkn)⟩
        obtain ⟨q, hq⟩ : ∃ q, s'[k]? = some q := ⟨_, List.getElem?_eq_getElem (by rw [HN'.out]; exact hkn)⟩
        obtain ⟨g, o, rfl, y0, y1⟩ := HS.out.keep HI.out.1 k p hp
        obtain ⟨g', o', rfl, z0, z1⟩ := HS'.out.keep HI.out.1 k q hq
        have hne := fun W => stp_ne p q W
        have HP := Lib.hid (And.intro hp hq)
        have hk0 : (0 : Int) ≤ (k : Int) := by omega
        have hkn' : (k : Int) < (n : Int) := by omega
        have hwk : IntKind.i64.wrap ((k : Int) + 1) = (k : Int) + 1 := IntWalk.i64_in _ (by omega)
        clear hp hq
        cases he : eqS p q with
        | true =>
          rw [he] at hne
          have HK := Lib.hid (same_step HI.out.2 HP.out.1 HP.out.2 (eqS_iff.1 he))
          clear he
          go_upto_region 6 with fail
          go_quiet (fail)
          go_wp2_with fail
          go_roundw
          case rel => exact ⟨k + 1, by omega, by go_num, Lib.hid ⟨b_drewN HI.out.1 _, HK.out⟩⟩
          case measure => simp [intOf]; omega
        | false =>
          rw [he] at hne
          have HK : Hid (s ≠ s') := Lib.hid (fun e => by
            subst e
            have h1 := HP.out.1.symm.trans HP.out.2
            cases h1
            rw [eqS_iff.2 rfl] at he; cases he)
          clear he
          go_upto_region 6 with fail
          go_quiet (fail)
          go_wp2_with fail
          go_ret
          exact ⟨⟨false, rfl, by simp [HK.out]⟩, b_drewN HI.out.1 _⟩
      · obtain rfl : k = n := by omega
        have HE : Hid (s = s') := Lib.hid (same_all (HN.out.trans HN'.out.symm) (by rw [HN.out]; exact HI.out.2))
        go_wp2_with fail
        go_ret
        exact ⟨⟨true, rfl, by simp [HE.out]⟩, HI.out.1⟩
  · have hne : ((n : Int) == (n' : Int)) = false := by rw [beq_eq_false_iff_ne]; omega
    have HE : Hid (s ≠ s') := Lib.hid (fun e => hnn (by rw [← HN.out, ← HN'.out, e]))
    clear hnn
    go_enter Tryz.func34, Tryz.ntmps34
    go_wp2_with fail
    go_ret
    exact ⟨⟨false, rfl, by simp [HE.out]⟩, Below.refl _ _⟩
set_option maxRecDepth 100000 in
set_option maxHeartbeats 2000000 in
theorem defEqual_any (a b : Dv) (A A' : Option Addr) (n n' c c' : Nat) (w : World) (h : DefAt w A n c a) (h' : DefAt w A' n' c' b) :
    Calls Tryz.prog 17 #[dV a A n c, dV b A' n' c'] w fun e w' => (∃ q : Bool, e = .returned (.bool q) ∧ (q = true ↔ a = b)) ∧ Below w.heap.size w w' := by
  have b2 := ((Below.refl w.heap.size w).alloc (Nat.le_refl _) (.cells #[.string a.n, .int .i64 a.r, .int .i64 a.dl, .slice A n c] 24)).alloc (by simp) (.cells #[.string b.n, .int .i64 b.r, .int .i64 b.dl, .slice A' n' c'] 24)
  have SE := Lib.hid (slEqual_any A A' n n' c c' a.s b.s _ (h.keep b2).s (h'.keep b2).s h.len h'.len h.big)
  have HB := Lib.hid b2
  have HD := Lib.hid (dv_eq (a := a) (b := b))
  clear h h' b2
  unfold dV
  cases h1 : (a.n.toList == b.n.toList) with
  | false =>
    have HE : Hid (a ≠ b) := Lib.hid (fun e => key_ne.1 h1 (HD.out.1 e).1)
    go_enter Tryz.func17, Tryz.ntmps17
    go_wp2_with fail
    go_ret
    exact ⟨⟨false, rfl, by simp [HE.out]⟩, HB.out⟩
  | true =>
    cases h2 : (a.r == b.r) with
    | false =>
      have HE : Hid (a ≠ b) := Lib.hid (fun e => beq_eq_false_iff_ne.1 h2 (HD.out.1 e).2.1)
      go_enter Tryz.func17, Tryz.ntmps17
      go_wp2_with fail
      go_ret
      exact ⟨⟨false, rfl, by simp [HE.out]⟩, HB.out⟩
    | true =>
      cases h3 : (a.dl == b.dl) with
      | false =>
        have HE : Hid (a ≠ b) := Lib.hid (fun e => beq_eq_false_iff_ne.1 h3 (HD.out.1 e).2.2.1)
        go_enter Tryz.func17, Tryz.ntmps17
        go_wp2_with fail
        go_ret
        exact ⟨⟨false, rfl, by simp [HE.out]⟩, HB.out⟩
      | true =>
        have HE : Hid (a = b ↔ a.s = b.s) := Lib.hid (HD.out.trans ⟨fun h => h.2.2.2, fun h => ⟨key_eq.1 h1, beq_iff_eq.1 h2, beq_iff_eq.1 h3, h⟩⟩)
        go_enter Tryz.func17, Tryz.ntmps17
        go_wp2_with (go_at_call 34; refine SE.out.mono ?_; rintro e w1 ⟨⟨q, rfl, hq⟩, hb1⟩)
        go_ret
        exact ⟨⟨q, rfl, hq.trans HE.out.symm⟩, HB.out.trans (hb1.mono HB.out.size)⟩
end Go.Proofs.YtgeljnjcpkmlmaaGreatDoor
