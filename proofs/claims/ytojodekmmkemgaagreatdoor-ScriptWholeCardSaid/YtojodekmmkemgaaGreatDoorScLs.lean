/- Lists of operations in memory; ContainsFunc over them; checked and Calm. Condition: at most 10^12 operations. -/
import Derived.Test.YtojodekmmkemgaaGreatDoorScChk
namespace Go.Proofs.YtojodekmmkemgaaGreatDoor
open Go.RowKit Go.Shelf

/-- An operation of a list, with the place of its definition's steps. -/
structure Oq where
  o : Ov
  A : Option Addr
  n : Nat
  m : Nat
def qL (q : Oq) : List Value := (oA q.o q.A q.n q.m).toList
theorem qL_len (q : Oq) : (qL q).length = 10 := rfl
theorem infoq (q : Oq) : (Tryz.prog.info? 34).map (·.size) = some (qL q).length := info10 q.o q.A q.n q.m
/-- A slice of operations. -/
def SlO (W : World) (A : Option Addr) (l : List Oq) : Prop := ∀ (i : Nat) q, l[i]? = some q → ∃ g o, A = some ⟨g, o, none⟩ ∧ W.rangeAt g (o + i * 10) (qL q) ∧ OpIn W q.o q.A q.n q.m
theorem range_keep {w w' : World} {g o : Nat} {cs : List Value} (h : w.rangeAt g o cs) (hb : Below w.heap.size w w') : w'.rangeAt g o cs := fun j v hv => bcell (h j v hv) hb
theorem SlO.keep {w w' : World} {A : Option Addr} {l : List Oq} (h : SlO w A l) (hb : Below w.heap.size w w') : SlO w' A l := fun i q hi => by
  obtain ⟨g, o, rfl, hr, hq⟩ := h i q hi
  exact ⟨g, o, rfl, range_keep hr hb, hq.keep hb⟩
/-- A question about an operation. -/
def PrF (f : FuncId) (p : Ov → Bool) : Prop := ∀ (o : Ov) (A : Option Addr) (n m : Nat) (W : World), OpIn W o A n m → Calls Tryz.prog f #[.agg (oA o A n m)] W fun e w' => e = .returned (.bool (p o)) ∧ Below W.heap.size W w'
open Classical in
noncomputable def badO (o : Ov) : Bool := !(ckO o == 0)
theorem badO_no {o : Ov} (h : opOk o) : badO o = false := by unfold badO; rw [ckO_yes h]; rfl
theorem badO_yes {o : Ov} (h : ¬ opOk o) : badO o = true := by unfold badO; rw [ckO_no h]; rfl
set_option maxRecDepth 100000 in
set_option maxHeartbeats 4000000 in
theorem bad1_any : PrF 78 badO := fun o A n m w h => by
  have B1 := Lib.hid ((Below.refl w.heap.size w).alloc (Nat.le_refl _) (.cells (oA o A n m) 34))
  have C1 := Lib.hid (OpAt.new h)
  have CK := Lib.hid (ocheck_any o A n m _ C1.out.i)
  have HC : Hid (badO o = !(ckO o == 0)) := Lib.hid rfl
  clear h
  generalize ckO o = c at CK HC
  rw [HC.out]
  clear HC
  go_enter Tryz.func78, Tryz.ntmps78
  go_upto_region 1 with fail
  generalize w.alloc (.cells (oA o A n m) 34) = w1 at B1 C1 CK ⊢
  go_wp2_with (first
    | (refine wpList_load_row rfl 34 (.tmp 1) rfl w.heap.size rfl 34 (oA o A n m) (0, 0) _ C1.out.w Tryz.underlying34 rfl (info10 _ _ _ _) ?_)
    | (go_at_call 24; refine CK.out.mono ?_; rintro e w2 ⟨rfl, hb⟩; have B2 := Lib.hid (B1.out.trans (hb.mono B1.out.size)); clear hb CK))
  go_ret
  exact ⟨by simp [bne], B2.out⟩
set_option maxRecDepth 100000 in
set_option maxHeartbeats 4000000 in
theorem loud1_any : PrF 76 loud := fun o A n m w h => by
  have B1 := Lib.hid ((Below.refl w.heap.size w).alloc (Nat.le_refl _) (.cells (oA o A n m) 34))
  have C1 := Lib.hid (OpAt.new h)
  have x0 : (w.alloc (.cells (oA o A n m) 34)).cell? ⟨w.heap.size, 0, none⟩ = some (.int .i64 o.k) := C1.out.w.cell 0
  unfold loud
  clear h
  go_enter Tryz.func76, Tryz.ntmps76
  go_upto_region 1 with fail
  generalize w.alloc (.cells (oA o A n m) 34) = w1 at B1 C1 x0 ⊢
  cases e2 : (o.k == 2) with
  | true =>
    go_wp2_with fail
    go_ret
    exact ⟨by simp_all, B1.out⟩
  | false =>
    cases e5 : (o.k == 5) with
    | true =>
      go_wp2_with fail
      go_ret
      exact ⟨by simp_all, B1.out⟩
    | false =>
      cases e6 : (o.k == 6) with
      | true =>
        go_wp2_with fail
        go_ret
        exact ⟨by simp_all, B1.out⟩
      | false =>
        go_wp2_with fail
        go_ret
        exact ⟨by simp_all, B1.out⟩
def hasP (p : Ov → Bool) (l : List Oq) (k : Nat) : Prop := ∃ j q, j < k ∧ l[j]? = some q ∧ p q.o = true
theorem hasP_all {p : Ov → Bool} {l : List Oq} : hasP p l l.length ↔ (l.map (·.o)).any p = true := by
  rw [List.any_map, List.any_eq_true]
  constructor
  · rintro ⟨j, q, hj, hq, hp⟩
    exact ⟨q, List.mem_of_getElem? hq, hp⟩
  · rintro ⟨q, hq, hp⟩
    obtain ⟨j, hj⟩ := List.getElem?_of_mem hq
    exact ⟨j, q, (List.getElem?_eq_some_iff.1 hj).1, hj, hp⟩
set_option maxRecDepth 100000 in
set_option maxHeartbeats 4000000 in
theorem idxB_any (p : Ov → Bool) (HF : Hid (PrF 78 p)) (A : Option Addr) (n c : Nat) (l : List Oq) (w : World) (hs : SlO w A l) (hn : n = l.length) (hb : n ≤ 1000000000000) :
    Calls Tryz.prog 111 #[.slice A n c, .func (.func 78) #[] #[]] w fun e w' => (∃ r : Int, e = .returned (.int .i64 r) ∧ (0 ≤ r ↔ hasP p l n)) ∧ Below w.heap.size w w' := by
  have HS := Lib.hid hs
  have HN := Lib.hid hn
  clear hs hn
  go_enter Tryz.func111, Tryz.ntmps111
  go_wp2_with fail
  go_loopw [8] (fun i wr => Below w.heap.size w wr ∧ ∃ k : Nat, k ≤ n ∧ i = .int .i64 k ∧ Hid (¬ hasP p l k)) (fun i _ => n - (intOf i).toNat)
  case atStart => exact ⟨Below.refl _ _, 0, Nat.zero_le _, rfl, Lib.hid (fun ⟨j, q, h, _⟩ => absurd h (Nat.not_lt_zero _))⟩
  case round =>
    obtain ⟨b2, k, hk', rfl, H0⟩ := hrel
    by_cases hlt : k < n
    · obtain ⟨q, hq⟩ : ∃ q, l[k]? = some q := ⟨_, List.getElem?_eq_getElem (by rw [← HN.out]; exact hlt)⟩
      obtain ⟨g, o, rfl, hr, hi⟩ := (HS.out.keep b2) k q hq
      have HR := Lib.hid hr
      have F1 : Hid (Calls Tryz.prog 78 #[.agg (qL q).toArray] wr fun e w' => e = .returned (.bool (p q.o)) ∧ Below wr.heap.size wr w') := Lib.hid (HF.out q.o q.A q.n q.m wr hi)
      have B2 := Lib.hid b2
      have HP := Lib.hid hq
      clear hq hr hi b2
      cases hq : p q.o with
      | true =>
        rw [hq] at F1
        have HI : Hid (hasP p l n) := Lib.hid ⟨k, q, hlt, HP.out, hq⟩
        clear hq
        go_wp2_with (refine wpList_load_mid rfl 34 (.tmp 14) rfl g (o + k * 10) rfl (qL q) _ HR.out Tryz.underlying34 rfl (infoq q) ?_)
        refine F1.out.mono ?_
        rintro e1 w1 ⟨rfl, hb⟩
        go_wp2_with fail
        go_ret
        exact ⟨⟨_, rfl, by simp [HI.out]⟩, B2.out.trans (hb.mono B2.out.size)⟩
      | false =>
        rw [hq] at F1
        have HI : Hid (¬ hasP p l (k + 1)) := Lib.hid (fun ⟨j, q', h, h2, h3⟩ => by
          by_cases e : j = k
          · subst e
            rw [HP.out] at h2
            cases h2
            rw [hq] at h3
            cases h3
          · exact H0.out ⟨j, q', by omega, h2, h3⟩)
        clear hq
        go_wp2_with (refine wpList_load_mid rfl 34 (.tmp 14) rfl g (o + k * 10) rfl (qL q) _ HR.out Tryz.underlying34 rfl (infoq q) ?_)
        refine F1.out.mono ?_
        rintro e1 w1 ⟨rfl, hb⟩
        go_wp2_with fail
        go_roundw
        case rel => exact ⟨B2.out.trans (hb.mono B2.out.size), k + 1, by omega, by go_num, HI⟩
        case measure => simp [intOf]; omega
    · obtain rfl : k = n := by omega
      have HI : Hid (¬ hasP p l k) := H0
      clear H0
      go_wp2_with fail
      go_ret
      exact ⟨⟨_, rfl, by simp [HI.out]⟩, b2⟩
theorem contB_any (p : Ov → Bool) (HF : Hid (PrF 78 p)) (A : Option Addr) (n c : Nat) (l : List Oq) (w : World) (hs : SlO w A l) (hn : n = l.length) (hb : n ≤ 1000000000000) :
    Calls Tryz.prog 75 #[.slice A n c, .func (.func 78) #[] #[]] w fun e w' => e = .returned (.bool ((l.map (·.o)).any p)) ∧ Below w.heap.size w w' := by
  have I := Lib.hid (idxB_any p HF A n c l w hs hn hb)
  have HN := Lib.hid hn
  clear hs hb hn
  go_enter Tryz.func75, Tryz.ntmps75
  go_wp2_with (go_at_call 111; refine I.out.mono ?_; rintro e w1 ⟨⟨r, rfl, hr⟩, hB⟩; have HR := Lib.hid hr; clear hr)
  go_ret
  refine ⟨?_, hB⟩
  have h1 := HR.out
  rw [HN.out, hasP_all] at h1
  show Ending.returned (.bool (decide (0 ≤ r))) = _
  congr 2
  rw [Bool.eq_iff_iff, ← h1]
  simp
set_option maxRecDepth 100000 in
set_option maxHeartbeats 4000000 in
theorem idxL_any (p : Ov → Bool) (HF : Hid (PrF 76 p)) (A : Option Addr) (n c : Nat) (l : List Oq) (w : World) (hs : SlO w A l) (hn : n = l.length) (hb : n ≤ 1000000000000) :
    Calls Tryz.prog 111 #[.slice A n c, .func (.func 76) #[] #[]] w fun e w' => (∃ r : Int, e = .returned (.int .i64 r) ∧ (0 ≤ r ↔ hasP p l n)) ∧ Below w.heap.size w w' := by
  have HS := Lib.hid hs
  have HN := Lib.hid hn
  clear hs hn
  go_enter Tryz.func111, Tryz.ntmps111
  go_wp2_with fail
  go_loopw [8] (fun i wr => Below w.heap.size w wr ∧ ∃ k : Nat, k ≤ n ∧ i = .int .i64 k ∧ Hid (¬ hasP p l k)) (fun i _ => n - (intOf i).toNat)
  case atStart => exact ⟨Below.refl _ _, 0, Nat.zero_le _, rfl, Lib.hid (fun ⟨j, q, h, _⟩ => absurd h (Nat.not_lt_zero _))⟩
  case round =>
    obtain ⟨b2, k, hk', rfl, H0⟩ := hrel
    by_cases hlt : k < n
    · obtain ⟨q, hq⟩ : ∃ q, l[k]? = some q := ⟨_, List.getElem?_eq_getElem (by rw [← HN.out]; exact hlt)⟩
      obtain ⟨g, o, rfl, hr, hi⟩ := (HS.out.keep b2) k q hq
      have HR := Lib.hid hr
      have F1 : Hid (Calls Tryz.prog 76 #[.agg (qL q).toArray] wr fun e w' => e = .returned (.bool (p q.o)) ∧ Below wr.heap.size wr w') := Lib.hid (HF.out q.o q.A q.n q.m wr hi)
      have B2 := Lib.hid b2
      have HP := Lib.hid hq
      clear hq hr hi b2
      cases hq : p q.o with
      | true =>
        rw [hq] at F1
        have HI : Hid (hasP p l n) := Lib.hid ⟨k, q, hlt, HP.out, hq⟩
        clear hq
        go_wp2_with (refine wpList_load_mid rfl 34 (.tmp 14) rfl g (o + k * 10) rfl (qL q) _ HR.out Tryz.underlying34 rfl (infoq q) ?_)
        refine F1.out.mono ?_
        rintro e1 w1 ⟨rfl, hb⟩
        go_wp2_with fail
        go_ret
        exact ⟨⟨_, rfl, by simp [HI.out]⟩, B2.out.trans (hb.mono B2.out.size)⟩
      | false =>
        rw [hq] at F1
        have HI : Hid (¬ hasP p l (k + 1)) := Lib.hid (fun ⟨j, q', h, h2, h3⟩ => by
          by_cases e : j = k
          · subst e
            rw [HP.out] at h2
            cases h2
            rw [hq] at h3
            cases h3
          · exact H0.out ⟨j, q', by omega, h2, h3⟩)
        clear hq
        go_wp2_with (refine wpList_load_mid rfl 34 (.tmp 14) rfl g (o + k * 10) rfl (qL q) _ HR.out Tryz.underlying34 rfl (infoq q) ?_)
        refine F1.out.mono ?_
        rintro e1 w1 ⟨rfl, hb⟩
        go_wp2_with fail
        go_roundw
        case rel => exact ⟨B2.out.trans (hb.mono B2.out.size), k + 1, by omega, by go_num, HI⟩
        case measure => simp [intOf]; omega
    · obtain rfl : k = n := by omega
      have HI : Hid (¬ hasP p l k) := H0
      clear H0
      go_wp2_with fail
      go_ret
      exact ⟨⟨_, rfl, by simp [HI.out]⟩, b2⟩
theorem contL_any (p : Ov → Bool) (HF : Hid (PrF 76 p)) (A : Option Addr) (n c : Nat) (l : List Oq) (w : World) (hs : SlO w A l) (hn : n = l.length) (hb : n ≤ 1000000000000) :
    Calls Tryz.prog 75 #[.slice A n c, .func (.func 76) #[] #[]] w fun e w' => e = .returned (.bool ((l.map (·.o)).any p)) ∧ Below w.heap.size w w' := by
  have I := Lib.hid (idxL_any p HF A n c l w hs hn hb)
  have HN := Lib.hid hn
  clear hs hb hn
  go_enter Tryz.func75, Tryz.ntmps75
  go_wp2_with (go_at_call 111; refine I.out.mono ?_; rintro e w1 ⟨⟨r, rfl, hr⟩, hB⟩; have HR := Lib.hid hr; clear hr)
  go_ret
  refine ⟨?_, hB⟩
  have h1 := HR.out
  rw [HN.out, hasP_all] at h1
  show Ending.returned (.bool (decide (0 ≤ r))) = _
  congr 2
  rw [Bool.eq_iff_iff, ← h1]
  simp
set_option maxRecDepth 100000 in
set_option maxHeartbeats 4000000 in
theorem checked_any (A : Option Addr) (n c : Nat) (l : List Oq) (w : World) (hs : SlO w A l) (hn : n = l.length) (hb : n ≤ 1000000000000) :
    Calls Tryz.prog 39 #[.slice A n c] w fun e w' => e = .returned (.int .i64 (wrongL (l.map (·.o)))) ∧ Below w.heap.size w w' := by
  have CF := Lib.hid (contB_any badO (Lib.hid bad1_any) A n c l w hs hn hb)
  have hl : (l.map (·.o)).length = n := by rw [List.length_map, hn]
  by_cases h1 : 2000 < n
  · have HW := Lib.hid (wrongL_many (l := l.map (·.o)) (by omega))
    have h2 : (2000 : Int) < (n : Int) := by omega
    clear hs hl hb CF h1 hn
    rw [HW.out]
    go_enter Tryz.func39, Tryz.ntmps39
    go_wp2_with fail
    go_ret
    exact ⟨rfl, Below.refl _ _⟩
  have h2 : ¬ ((2000 : Int) < (n : Int)) := by omega
  cases ha : (l.map (·.o)).any badO with
  | true =>
    rw [ha] at CF
    obtain ⟨o, ho, h3⟩ := List.any_eq_true.1 ha
    have HW := Lib.hid (wrongL_bad (by omega) ho (fun h => by rw [badO_no h] at h3; cases h3))
    rw [HW.out]
    clear hs hl hb h1 hn ha ho h3
    go_enter Tryz.func39, Tryz.ntmps39
    go_wp2_with (go_at_call 75; refine CF.out.mono ?_; rintro e w1 ⟨rfl, hB⟩)
    go_ret
    exact ⟨rfl, hB⟩
  | false =>
    rw [ha] at CF
    have HW := Lib.hid (wrongL_ok (l := l.map (·.o)) (by omega) (fun o ho => Classical.byContradiction fun h => by
      have h4 := List.any_eq_false.1 ha o ho
      exact h4 (badO_yes h)))
    rw [HW.out]
    clear hs hl hb h1 hn ha
    go_enter Tryz.func39, Tryz.ntmps39
    go_wp2_with (go_at_call 75; refine CF.out.mono ?_; rintro e w1 ⟨rfl, hB⟩)
    go_ret
    exact ⟨rfl, hB⟩
set_option maxRecDepth 100000 in
set_option maxHeartbeats 4000000 in
theorem calm_any (A : Option Addr) (n c : Nat) (l : List Oq) (w : World) (hs : SlO w A l) (hn : n = l.length) (hb : n ≤ 1000000000000) :
    Calls Tryz.prog 34 #[.slice A n c] w fun e w' => e = .returned (.tuple #[.bool (calmV (l.map (·.o))).1, .int .i64 (calmV (l.map (·.o))).2]) ∧ Below w.heap.size w w' := by
  have CK := Lib.hid (checked_any A n c l w hs hn hb)
  have CF := Lib.hid (fun (W : World) (hB : Below w.heap.size w W) => contL_any loud (Lib.hid loud1_any) A n c l W (hs.keep hB) hn hb)
  clear hs hn hb
  by_cases h0 : wrongL (l.map (·.o)) = 0
  · rw [h0] at CK
    rw [calmV_yes h0]
    clear h0
    generalize (l.map (·.o)).any loud = b at CF ⊢
    go_enter Tryz.func34, Tryz.ntmps34
    go_wp2_with (first
      | (go_at_call 39; refine CK.out.mono ?_; rintro e w1 ⟨rfl, hB⟩; have B1 := Lib.hid hB; have C1 := Lib.hid (CF.out w1 hB); clear hB)
      | (go_at_call 75; refine C1.out.mono ?_; rintro e w2 ⟨rfl, hB⟩))
    go_ret2
    exact ⟨rfl, B1.out.trans (hB.mono B1.out.size)⟩
  · obtain ⟨z, hz⟩ : ∃ z, z = wrongL (l.map (·.o)) := ⟨_, rfl⟩
    rw [← hz] at CK h0
    rw [calmV_no hz.symm h0]
    have e0 : (z == 0) = false := beq_eq_false_iff_ne.2 h0
    clear hz
    go_enter Tryz.func34, Tryz.ntmps34
    go_wp2_with (go_at_call 39; refine CK.out.mono ?_; rintro e w1 ⟨rfl, hB⟩)
    go_ret2
    exact ⟨rfl, hB⟩
end Go.Proofs.YtojodekmmkemgaaGreatDoor
