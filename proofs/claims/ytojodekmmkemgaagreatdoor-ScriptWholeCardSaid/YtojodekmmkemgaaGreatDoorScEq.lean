/- Whether two operations are equal, by the program and by the reference. Condition: sizes as a machine's integers can say. -/
import Derived.Test.YtojodekmmkemgaaGreatDoorScMem
namespace Go.Proofs.YtojodekmmkemgaaGreatDoor
open Go.RowKit Go.Shelf

def BoolR (p : Prop) (w w' : World) (e : Ending) : Prop := (∃ b, e = .returned (.bool b) ∧ (b = true ↔ p)) ∧ Below w.heap.size w w'
theorem rngQ_t (a0 b0 : ByteArray) (a1 b1 : ByteArray) (h : a0 = b0 ∧ a1 = b1) (W : World) : (binOp .eql 29 (.agg #[.string a0, .string a1]) (.agg #[.string b0, .string b1])).run Tryz.prog W = .ok (.bool true) W := by
  obtain ⟨rfl, rfl⟩ := h
  go_simp
theorem rngQ_f (a0 b0 : ByteArray) (a1 b1 : ByteArray) (h : ¬ (a0 = b0 ∧ a1 = b1)) (W : World) : (binOp .eql 29 (.agg #[.string a0, .string a1]) (.agg #[.string b0, .string b1])).run Tryz.prog W = .ok (.bool false) W := by
  by_cases h0 : a0 = b0
  case neg =>
    have e : (a0.toList == b0.toList) = false := key_ne.2 h0
    clear h
    go_simp
  subst h0
  by_cases h1 : a1 = b1
  case neg =>
    have e : (a1.toList == b1.toList) = false := key_ne.2 h1
    clear h
    go_simp
  subst h1
  exact absurd ⟨rfl, rfl⟩ h
theorem ov_eq {a b : Ov} : a = b ↔ (a.k = b.k ∧ a.n = b.n ∧ a.m = b.m ∧ a.key = b.key ∧ (a.f = b.f ∧ a.t = b.t) ∧ a.d = b.d) := by
  obtain ⟨a1, a2, a3, a4, a5, a6, a7⟩ := a
  obtain ⟨b1, b2, b3, b4, b5, b6, b7⟩ := b
  simp only [Ov.mk.injEq]
  constructor
  · rintro ⟨rfl, rfl, rfl, rfl, rfl, rfl, rfl⟩
    exact ⟨rfl, rfl, rfl, rfl, ⟨rfl, rfl⟩, rfl⟩
  · rintro ⟨rfl, rfl, rfl, rfl, ⟨rfl, rfl⟩, rfl⟩
    exact ⟨rfl, rfl, rfl, rfl, rfl, rfl, rfl⟩
set_option maxHeartbeats 8000000 in
theorem oequal_any (o o' : Ov) (A A' : Option Addr) (n n' m m' : Nat) (w : World) (h : OpIn w o A n m) (h' : OpIn w o' A' n' m') :
    Calls Tryz.prog 26 #[.agg (oA o A n m), .agg (oA o' A' n' m')] w fun e w' => BoolR (o = o') w w' e := by
  have b2 := ((Below.refl w.heap.size w).alloc (Nat.le_refl _) (.cells (oA o A n m) 34)).alloc (by simp) (.cells (oA o' A' n' m') 34)
  have E1 := defEqual_any o.d o'.d A A' n n' m m' _ (h.d.keep b2) (h'.d.keep b2)
  have W1 := OpAt.cells ((Whole.new w 34 (oA o A n m)).alloc (.cells (oA o' A' n' m') 34))
  have W2 := Whole.new (w.alloc (.cells (oA o A n m) 34)) 34 (oA o' A' n' m')
  rw [World.size_alloc] at W2
  have W2 := OpAt.cells W2
  have HB := Lib.hid b2
  have HQ := Lib.hid (ov_eq (a := o) (b := o'))
  unfold dV at E1
  have E1 := Lib.hid E1
  clear h h' b2
  obtain ⟨x0, x1, x2, x3, x4, x5, x6, x7, x8, x9⟩ := W1
  obtain ⟨y0, y1, y2, y3, y4, y5, y6, y7, y8, y9⟩ := W2
  by_cases h0 : o.k = o'.k
  case neg =>
    have e0 : (o.k == o'.k) = false := beq_eq_false_iff_ne.2 h0
    have HN : Hid (¬ (o = o')) := Lib.hid (fun e => h0 (HQ.out.1 e).1)
    clear h0 E1
    go_enter Tryz.func26, Tryz.ntmps26
    go_wp2_with fail
    go_ret
    exact ⟨⟨_, rfl, by simp [HN.out]⟩, HB.out⟩
  have e0 : (o.k == o'.k) = true := by rw [h0]; exact beq_self_eq_true _
  by_cases h1 : o.n = o'.n
  case neg =>
    have e1 : (o.n == o'.n) = false := beq_eq_false_iff_ne.2 h1
    have HN : Hid (¬ (o = o')) := Lib.hid (fun e => h1 (HQ.out.1 e).2.1)
    clear h0 h1 E1
    go_enter Tryz.func26, Tryz.ntmps26
    go_wp2_with fail
    go_ret
    exact ⟨⟨_, rfl, by simp [HN.out]⟩, HB.out⟩
  have e1 : (o.n == o'.n) = true := by rw [h1]; exact beq_self_eq_true _
  by_cases h2 : o.m = o'.m
  case neg =>
    have e2 : (o.m == o'.m) = false := beq_eq_false_iff_ne.2 h2
    have HN : Hid (¬ (o = o')) := Lib.hid (fun e => h2 (HQ.out.1 e).2.2.1)
    clear h0 h1 h2 E1
    go_enter Tryz.func26, Tryz.ntmps26
    go_wp2_with fail
    go_ret
    exact ⟨⟨_, rfl, by simp [HN.out]⟩, HB.out⟩
  have e2 : (o.m == o'.m) = true := by rw [h2]; exact beq_self_eq_true _
  by_cases h3 : o.key = o'.key
  case neg =>
    have e3 : (o.key.toList == o'.key.toList) = false := key_ne.2 h3
    have HN : Hid (¬ (o = o')) := Lib.hid (fun e => h3 (HQ.out.1 e).2.2.2.1)
    clear h0 h1 h2 h3 E1
    go_enter Tryz.func26, Tryz.ntmps26
    go_wp2_with fail
    go_ret
    exact ⟨⟨_, rfl, by simp [HN.out]⟩, HB.out⟩
  have e3 : (o.key.toList == o'.key.toList) = true := key_eq.2 h3
  by_cases h4 : o.f = o'.f ∧ o.t = o'.t
  case neg =>
    have r4 := fun W => rngQ_f _ _ _ _ h4 W
    have HN : Hid (¬ (o = o')) := Lib.hid (fun e => h4 (HQ.out.1 e).2.2.2.2.1)
    clear h0 h1 h2 h3 h4 E1
    go_enter Tryz.func26, Tryz.ntmps26
    go_wp2_with fail
    go_ret
    exact ⟨⟨_, rfl, by simp [HN.out]⟩, HB.out⟩
  have r4 := fun W => rngQ_t _ _ _ _ h4 W
  have HN : Hid (o.d = o'.d ↔ o = o') := Lib.hid ⟨fun e => HQ.out.2 ⟨h0, h1, h2, h3, h4, e⟩, fun e => (HQ.out.1 e).2.2.2.2.2⟩
  clear h0 h1 h2 h3 h4
  go_enter Tryz.func26, Tryz.ntmps26
  go_wp2_with (go_at_call 64; refine E1.out.mono ?_; rintro e w2 ⟨⟨q, rfl, hq⟩, hb⟩; have HF := Lib.hid (And.intro hq (HB.out.trans (hb.mono HB.out.size))); clear hq hb)
  go_ret
  exact ⟨⟨_, rfl, HF.out.1.trans HN.out⟩, HF.out.2⟩
set_option maxHeartbeats 8000000 in
theorem roequal_any (o o' : Ov) (A A' : Option Addr) (n n' m m' : Nat) (w : World) (h : OpIn w o A n m) (h' : OpIn w o' A' n' m') :
    Calls Tryz.prog 27 #[.agg (oA o A n m), .agg (oA o' A' n' m')] w fun e w' => BoolR (o = o') w w' e := by
  have b2 := ((Below.refl w.heap.size w).alloc (Nat.le_refl _) (.cells (oA o A n m) 34)).alloc (by simp) (.cells (oA o' A' n' m') 34)
  have E1 := refEqual_any o.d o'.d A A' n n' m m' _ (h.d.keep b2) (h'.d.keep b2)
  have W1 := OpAt.cells ((Whole.new w 34 (oA o A n m)).alloc (.cells (oA o' A' n' m') 34))
  have W2 := Whole.new (w.alloc (.cells (oA o A n m) 34)) 34 (oA o' A' n' m')
  rw [World.size_alloc] at W2
  have W2 := OpAt.cells W2
  have HB := Lib.hid b2
  have HQ := Lib.hid (ov_eq (a := o) (b := o'))
  unfold dV at E1
  have E1 := Lib.hid E1
  clear h h' b2
  obtain ⟨x0, x1, x2, x3, x4, x5, x6, x7, x8, x9⟩ := W1
  obtain ⟨y0, y1, y2, y3, y4, y5, y6, y7, y8, y9⟩ := W2
  by_cases h0 : o.k = o'.k
  case neg =>
    have e0 : (o.k == o'.k) = false := beq_eq_false_iff_ne.2 h0
    have HN : Hid (¬ (o = o')) := Lib.hid (fun e => h0 (HQ.out.1 e).1)
    clear h0 E1
    go_enter Tryz.func27, Tryz.ntmps27
    go_wp2_with fail
    go_ret
    exact ⟨⟨_, rfl, by simp [HN.out]⟩, HB.out⟩
  have e0 : (o.k == o'.k) = true := by rw [h0]; exact beq_self_eq_true _
  by_cases h1 : o.n = o'.n
  case neg =>
    have e1 : (o.n == o'.n) = false := beq_eq_false_iff_ne.2 h1
    have HN : Hid (¬ (o = o')) := Lib.hid (fun e => h1 (HQ.out.1 e).2.1)
    clear h0 h1 E1
    go_enter Tryz.func27, Tryz.ntmps27
    go_wp2_with fail
    go_ret
    exact ⟨⟨_, rfl, by simp [HN.out]⟩, HB.out⟩
  have e1 : (o.n == o'.n) = true := by rw [h1]; exact beq_self_eq_true _
  by_cases h2 : o.m = o'.m
  case neg =>
    have e2 : (o.m == o'.m) = false := beq_eq_false_iff_ne.2 h2
    have HN : Hid (¬ (o = o')) := Lib.hid (fun e => h2 (HQ.out.1 e).2.2.1)
    clear h0 h1 h2 E1
    go_enter Tryz.func27, Tryz.ntmps27
    go_wp2_with fail
    go_ret
    exact ⟨⟨_, rfl, by simp [HN.out]⟩, HB.out⟩
  have e2 : (o.m == o'.m) = true := by rw [h2]; exact beq_self_eq_true _
  by_cases h3 : o.key = o'.key
  case neg =>
    have e3 : (o.key.toList == o'.key.toList) = false := key_ne.2 h3
    have HN : Hid (¬ (o = o')) := Lib.hid (fun e => h3 (HQ.out.1 e).2.2.2.1)
    clear h0 h1 h2 h3 E1
    go_enter Tryz.func27, Tryz.ntmps27
    go_wp2_with fail
    go_ret
    exact ⟨⟨_, rfl, by simp [HN.out]⟩, HB.out⟩
  have e3 : (o.key.toList == o'.key.toList) = true := key_eq.2 h3
  by_cases h4 : o.f = o'.f ∧ o.t = o'.t
  case neg =>
    have r4 := fun W => rngQ_f _ _ _ _ h4 W
    have HN : Hid (¬ (o = o')) := Lib.hid (fun e => h4 (HQ.out.1 e).2.2.2.2.1)
    clear h0 h1 h2 h3 h4 E1
    go_enter Tryz.func27, Tryz.ntmps27
    go_wp2_with fail
    go_ret
    exact ⟨⟨_, rfl, by simp [HN.out]⟩, HB.out⟩
  have r4 := fun W => rngQ_t _ _ _ _ h4 W
  have HN : Hid (o.d = o'.d ↔ o = o') := Lib.hid ⟨fun e => HQ.out.2 ⟨h0, h1, h2, h3, h4, e⟩, fun e => (HQ.out.1 e).2.2.2.2.2⟩
  clear h0 h1 h2 h3 h4
  go_enter Tryz.func27, Tryz.ntmps27
  go_wp2_with (go_at_call 65; refine E1.out.mono ?_; rintro e w2 ⟨⟨q, rfl, hq⟩, hb⟩; have HF := Lib.hid (And.intro hq (HB.out.trans (hb.mono HB.out.size))); clear hq hb)
  go_ret
  exact ⟨⟨_, rfl, HF.out.1.trans HN.out⟩, HF.out.2⟩
end Go.Proofs.YtojodekmmkemgaaGreatDoor
