/- Lists of ranges and of numbers that are compared. Condition: they are short. -/
import Derived.Test.YtkkkppbcjmeapaaDoorPtMore
import Derived.BigQuiet
namespace Go.Proofs.YtkkkppbcjmeapaaDoor
open Go.RowKit

theorem b_drewN {B : Nat} {a w : World} (h : Below B a w) (q : Nat) : Below B a (w.drewN q) := ⟨h.os, h.tape, h.output, h.size, h.block⟩
/-- A slice that holds ranges; a slice that holds numbers. -/
def SlR (w : World) (v : Value) (l : List (ByteArray × ByteArray)) : Prop :=
  ∃ a cap, v = .slice a l.length cap ∧ ∀ (i : Nat) (p : ByteArray × ByteArray), l[i]? = some p → ∃ g o, a = some ⟨g, o, none⟩ ∧ w.cell? ⟨g, o + i * 2, none⟩ = some (.string p.1) ∧ w.cell? ⟨g, o + i * 2 + 1, none⟩ = some (.string p.2)
def SlI (w : World) (v : Value) (l : List Int) : Prop :=
  ∃ a cap, v = .slice a l.length cap ∧ ∀ (i : Nat) (p : Int), l[i]? = some p → ∃ g o, a = some ⟨g, o, none⟩ ∧ w.cell? ⟨g, o + i, none⟩ = some (.int .i64 p)
theorem SlR.keep {w w' : World} {v : Value} {l : List (ByteArray × ByteArray)} (h : SlR w v l) (hb : Below w.heap.size w w') : SlR w' v l := by
  obtain ⟨a, cap, rfl, hc⟩ := h
  refine ⟨a, cap, rfl, fun i p hi => ?_⟩
  obtain ⟨g, o, ha, h1, h2⟩ := hc i p hi
  exact ⟨g, o, ha, (hb.cell (lt_of_cellR h1)).trans h1, (hb.cell (lt_of_cellR h2)).trans h2⟩
theorem SlI.keep {w w' : World} {v : Value} {l : List Int} (h : SlI w v l) (hb : Below w.heap.size w w') : SlI w' v l := by
  obtain ⟨a, cap, rfl, hc⟩ := h
  refine ⟨a, cap, rfl, fun i p hi => ?_⟩
  obtain ⟨g, o, ha, h1⟩ := hc i p hi
  exact ⟨g, o, ha, (hb.cell (lt_of_cellR h1)).trans h1⟩
def rgs (d : List Pt) : List (ByteArray × ByteArray) := d.map fun p => (p.f, p.t)
def grs (d : List Pt) : List Int := d.map Pt.g
def eps (d : List Pt) : List Int := d.map Pt.e
theorem add_at (g j : Nat) : (⟨g, 0, none⟩ : Addr).add j = ⟨g, j, none⟩ := by unfold Addr.add; split <;> simp_all
/-- A call answers a truth value that says whether something holds. -/
def BoolIff (p : Prop) (e : Ending) : Prop := ∃ b, e = .returned (.bool b) ∧ (b = true ↔ p)
theorem flatR2_at : ∀ (d : List Pt) (i : Nat) (p : ByteArray × ByteArray), (rgs d)[i]? = some p → (flatR2 d)[i * 2]? = some (.string p.1) ∧ (flatR2 d)[i * 2 + 1]? = some (.string p.2)
  | [], i, p, h => by simp [rgs] at h
  | q :: d, 0, p, h => by simp [rgs] at h; subst h; exact ⟨rfl, rfl⟩
  | q :: d, i + 1, p, h => by
    have := flatR2_at d i p (by simpa [rgs] using h)
    rw [show (i + 1) * 2 = i * 2 + 2 by omega]
    exact this
theorem slR_own {w : World} {base : Nat} {v : Value} {d : List Pt} (h : w.ownsRow base 30 2 v d.length (flatR2 d)) : SlR w v (rgs d) := by
  have h0 := h
  rcases h with ⟨_, ⟨rfl, hn⟩ | ⟨g, cap, cur, rfl, _⟩⟩
  · exact ⟨none, 0, by simp [rgs, hn], fun i p hi => by
      have : d = [] := List.length_eq_zero_iff.1 hn
      subst this; simp [rgs] at hi⟩
  · refine ⟨_, cap, by simp [rgs], fun i p hi => ⟨g, 0, rfl, ?_⟩⟩
    obtain ⟨h1, h2⟩ := flatR2_at d i p hi
    have e1 := h0.cells (g := g) rfl _ _ h1
    have e2 := h0.cells (g := g) rfl _ _ h2
    rw [add_at] at e1 e2
    simp only [Nat.zero_add]
    exact ⟨e1, e2⟩
theorem slI_own {w : World} {base : Nat} {v : Value} {l : List Int} (h : w.ownsRow base 3 1 v l.length (l.map (Value.int .i64))) : SlI w v l := by
  have h0 := h
  rcases h with ⟨_, ⟨rfl, hn⟩ | ⟨g, cap, cur, rfl, _⟩⟩
  · exact ⟨none, 0, by simp [hn], fun i p hi => by
      have : l = [] := List.length_eq_zero_iff.1 hn
      subst this; simp at hi⟩
  · refine ⟨_, cap, rfl, fun i p hi => ⟨g, 0, rfl, ?_⟩⟩
    have e1 := h0.cells (g := g) rfl i (.int .i64 p) (by simp [hi])
    rw [add_at] at e1
    simp only [Nat.zero_add]
    exact e1
theorem flatG_map (d : List Pt) : flatG d = (grs d).map (Value.int .i64) := by simp [flatG, grs]
theorem flatE_map (d : List Pt) : flatE d = (eps d).map (Value.int .i64) := by simp [flatE, eps]
theorem rng_neq (a b c d : ByteArray) (W : World) : (binOp .neq 30 (.agg #[.string a, .string b]) (.agg #[.string c, .string d])).run Tryd.prog W = .ok (.bool (decide ((a, b) ≠ (c, d)))) W := by
  have h : (decide ((a, b) ≠ (c, d))) = !(a.toList == c.toList && b.toList == d.toList) := by
    rw [Bool.eq_iff_iff]
    simp only [decide_eq_true_eq, Bool.not_eq_true', Bool.and_eq_false_iff, ne_eq, Prod.mk.injEq, not_and]
    have e1 : ∀ x y : ByteArray, (x.toList == y.toList) = false ↔ x ≠ y := fun x y => by
      rw [beq_eq_false_iff_ne]
      refine ⟨fun h e => h (by rw [e]), fun h e => h ?_⟩
      rw [ByteArray.toList_eq, ByteArray.toList_eq] at e
      rcases x with ⟨⟨x⟩⟩; rcases y with ⟨⟨y⟩⟩; simpa using e
    rw [e1, e1]
    by_cases ha : a = c <;> simp [ha]
  rw [h]
  cases h1 : (a.toList == c.toList) <;> cases h2 : (b.toList == d.toList) <;> go_simp

set_option maxRecDepth 100000 in
set_option maxHeartbeats 4000000 in
theorem equalR_any (v v' : Value) (l m : List (ByteArray × ByteArray)) (w : World) (h : SlR w v l) (h' : SlR w v' m) (hl : l.length ≤ 1000000) :
    Calls Tryd.prog 26 #[v, v'] w fun e w' => BoolIff (l = m) e ∧ Below w.heap.size w w' := by
  obtain ⟨a, cap, rfl, hc⟩ := h
  obtain ⟨a', cap', rfl, hc'⟩ := h'
  have mixed : Tryd.prog.follows Departure.mixedOrders = true := by kernel_rfl
  have HC := Lib.hid hc
  have HC' := Lib.hid hc'
  clear hc hc'
  by_cases hlen : l.length = m.length
  · have HE : Hid (∀ q, (∀ i, i < l.length → l[i]? = m[i]?) → q = true → (q = true ↔ l = m)) := Lib.hid (fun q hi hq => ⟨fun _ => List.ext_getElem? (fun i => by
      by_cases hlt : i < l.length
      · exact hi i hlt
      · rw [List.getElem?_eq_none (by omega), List.getElem?_eq_none (by omega)]), fun _ => hq⟩)
    generalize hn : l.length = n at hlen hl HE ⊢
    rw [← hlen]
    have HN := Lib.hid hn
    have HM := Lib.hid hlen
    clear hn hlen
    go_enter Tryd.func26, Tryd.ntmps26
    go_wp2_with fail
    go_loopw [13] (fun i wr => Below w.heap.size w wr ∧ ∃ k : Nat, k ≤ n ∧ i = .int .i64 k ∧ Hid (∀ j, j < k → l[j]? = m[j]?)) (fun i _ => n - (intOf i).toNat)
    case atStart => exact ⟨Below.refl _ _, 0, Nat.zero_le _, rfl, Lib.hid (fun j h => absurd h (Nat.not_lt_zero _))⟩
    case round =>
      obtain ⟨b2, k, hk, rfl, H0⟩ := hrel
      by_cases hlt : k < n
      · have hg : l[k]? = some (l[k]'(by rw [HN.out]; exact hlt)) := List.getElem?_eq_getElem _
        have hg' : m[k]? = some (m[k]'(by rw [← HM.out]; exact hlt)) := List.getElem?_eq_getElem _
        generalize l[k]'(by rw [HN.out]; exact hlt) = p at hg
        generalize m[k]'(by rw [← HM.out]; exact hlt) = p' at hg'
        obtain ⟨g, o, rfl, c0, c1⟩ := HC.out k _ hg
        obtain ⟨g', o', rfl, c2, c3⟩ := HC'.out k _ hg'
        have d0 := (b2.cell (lt_of_cellR c0)).trans c0
        have d1 := (b2.cell (lt_of_cellR c1)).trans c1
        have d2 := (b2.cell (lt_of_cellR c2)).trans c2
        have d3 := (b2.cell (lt_of_cellR c3)).trans c3
        have HG := Lib.hid hg
        have HG' := Lib.hid hg'
        obtain ⟨x, y⟩ := p
        obtain ⟨x', y'⟩ := p'
        have N := fun W => rng_neq x y x' y' W
        dsimp only at d0 d1 d2 d3
        clear c0 c1 c2 c3 hg hg'
        by_cases he : (x, y) = (x', y')
        · rw [decide_eq_false (fun h => h he)] at N
          have HX := Lib.hid (HG.out.trans ((congrArg some he).trans HG'.out.symm))
          clear he HC HC' HG HG'
          go_wp2_with fail
          go_quiet_o (fail)
          go_wp2_with fail
          go_roundw
          case rel =>
            refine ⟨b_drewN b2 _, k + 1, by omega, by go_num, Lib.hid fun j hj => ?_⟩
            rcases Nat.lt_succ_iff_lt_or_eq.1 hj with h | rfl
            · exact H0.out j h
            · exact HX.out
          case measure => simp [intOf]; omega
        · rw [decide_eq_true he] at N
          have HX : Hid (l ≠ m) := Lib.hid (fun e => he (by have := HG.out; rw [e, HG'.out] at this; exact (Option.some.inj this).symm))
          clear he HC HC' HG HG' HE
          go_wp2_with fail
          go_quiet_o (fail)
          go_wp2_with fail
          go_ret
          exact ⟨⟨false, rfl, ⟨fun h => Bool.noConfusion h, fun h => absurd h HX.out⟩⟩, b_drewN b2 _⟩
      · have HX := Lib.hid (HE.out true (fun j hj => H0.out j (by omega)) rfl)
        clear HE H0 HC HC'
        go_wp2_with fail
        go_ret
        exact ⟨⟨true, rfl, by simpa using HX.out⟩, b2⟩
  · have HX : Hid (l ≠ m) := Lib.hid (fun e => hlen (by rw [e]))
    have h1 : ¬ (l.length : Int) = (m.length : Int) := by omega
    generalize l.length = n at *
    generalize m.length = n' at *
    clear HC HC' hlen
    go_enter Tryd.func26, Tryd.ntmps26
    go_wp2_with fail
    go_ret
    exact ⟨⟨false, rfl, ⟨fun h => Bool.noConfusion h, fun h => absurd h HX.out⟩⟩, Below.refl _ _⟩

set_option maxRecDepth 100000 in
set_option maxHeartbeats 4000000 in
theorem equalI_any (v v' : Value) (l m : List Int) (w : World) (h : SlI w v l) (h' : SlI w v' m) (hl : l.length ≤ 1000000) :
    Calls Tryd.prog 24 #[v, v'] w fun e w' => BoolIff (l = m) e ∧ Below w.heap.size w w' := by
  obtain ⟨a, cap, rfl, hc⟩ := h
  obtain ⟨a', cap', rfl, hc'⟩ := h'
  have mixed : Tryd.prog.follows Departure.mixedOrders = true := by kernel_rfl
  have HC := Lib.hid hc
  have HC' := Lib.hid hc'
  clear hc hc'
  by_cases hlen : l.length = m.length
  · have HE : Hid (∀ q, (∀ i, i < l.length → l[i]? = m[i]?) → q = true → (q = true ↔ l = m)) := Lib.hid (fun q hi hq => ⟨fun _ => List.ext_getElem? (fun i => by
      by_cases hlt : i < l.length
      · exact hi i hlt
      · rw [List.getElem?_eq_none (by omega), List.getElem?_eq_none (by omega)]), fun _ => hq⟩)
    generalize hn : l.length = n at hlen hl HE ⊢
    rw [← hlen]
    have HN := Lib.hid hn
    have HM := Lib.hid hlen
    clear hn hlen
    go_enter Tryd.func24, Tryd.ntmps24
    go_wp2_with fail
    go_loopw [13] (fun i wr => Below w.heap.size w wr ∧ ∃ k : Nat, k ≤ n ∧ i = .int .i64 k ∧ Hid (∀ j, j < k → l[j]? = m[j]?)) (fun i _ => n - (intOf i).toNat)
    case atStart => exact ⟨Below.refl _ _, 0, Nat.zero_le _, rfl, Lib.hid (fun j h => absurd h (Nat.not_lt_zero _))⟩
    case round =>
      obtain ⟨b2, k, hk, rfl, H0⟩ := hrel
      by_cases hlt : k < n
      · have hg : l[k]? = some (l[k]'(by rw [HN.out]; exact hlt)) := List.getElem?_eq_getElem _
        have hg' : m[k]? = some (m[k]'(by rw [← HM.out]; exact hlt)) := List.getElem?_eq_getElem _
        generalize l[k]'(by rw [HN.out]; exact hlt) = p at hg
        generalize m[k]'(by rw [← HM.out]; exact hlt) = p' at hg'
        obtain ⟨g, o, rfl, c0⟩ := HC.out k _ hg
        obtain ⟨g', o', rfl, c2⟩ := HC'.out k _ hg'
        have d0 := (b2.cell (lt_of_cellR c0)).trans c0
        have d2 := (b2.cell (lt_of_cellR c2)).trans c2
        have HG := Lib.hid hg
        have HG' := Lib.hid hg'
        clear c0 c2 hg hg'
        by_cases he : p = p'
        · have HX := Lib.hid (HG.out.trans ((congrArg some he).trans HG'.out.symm))
          clear HC HC' HG HG'
          subst he
          go_wp2_with fail
          go_quiet_o (fail)
          go_wp2_with fail
          go_roundw
          case rel =>
            refine ⟨b_drewN b2 _, k + 1, by omega, by go_num, Lib.hid fun j hj => ?_⟩
            rcases Nat.lt_succ_iff_lt_or_eq.1 hj with h | rfl
            · exact H0.out j h
            · exact HX.out
          case measure => simp [intOf]; omega
        · have HX : Hid (l ≠ m) := Lib.hid (fun e => he (by have := HG.out; rw [e, HG'.out] at this; exact (Option.some.inj this).symm))
          have hne : ¬ p = p' := he
          clear he HC HC' HG HG' HE
          go_wp2_with fail
          go_quiet_o (fail)
          go_wp2_with fail
          go_ret
          exact ⟨⟨false, rfl, ⟨fun h => Bool.noConfusion h, fun h => absurd h HX.out⟩⟩, b_drewN b2 _⟩
      · have HX := Lib.hid (HE.out true (fun j hj => H0.out j (by omega)) rfl)
        clear HE H0 HC HC'
        go_wp2_with fail
        go_ret
        exact ⟨⟨true, rfl, by simpa using HX.out⟩, b2⟩
  · have HX : Hid (l ≠ m) := Lib.hid (fun e => hlen (by rw [e]))
    have h1 : ¬ (l.length : Int) = (m.length : Int) := by omega
    generalize l.length = n at *
    generalize m.length = n' at *
    clear HC HC' hlen
    go_enter Tryd.func24, Tryd.ntmps24
    go_wp2_with fail
    go_ret
    exact ⟨⟨false, rfl, ⟨fun h => Bool.noConfusion h, fun h => absurd h HX.out⟩⟩, Below.refl _ _⟩
end Go.Proofs.YtkkkppbcjmeapaaDoor
