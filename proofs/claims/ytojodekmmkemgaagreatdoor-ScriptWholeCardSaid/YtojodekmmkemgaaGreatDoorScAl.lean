/- What an operation's kind uses, by the program. Condition: sizes as a machine's integers can say. -/
import Derived.Test.YtojodekmmkemgaaGreatDoorScEq
namespace Go.Proofs.YtojodekmmkemgaaGreatDoor
open Go.RowKit Go.Shelf

/-- What alone holds in memory. -/
structure AlI (w : World) (o : Ov) (A : Option Addr) (n m O : Nat) (cc : Ov) (A' : Option Addr) (n' m' : Nat) (W : World) : Prop where
  bl : Below w.heap.size w W
  wb : Whole W w.heap.size 34 (oA o A n m)
  wr : Whole W (w.heap.size + 1) 34 (oA (zeroO 0 0) none 0 0)
  wo : Whole W O 34 (oA cc A' n' m')
  o : w.heap.size + 1 < O
theorem AlI.keep {w W W' : World} {o cc : Ov} {A A' : Option Addr} {n m O n' m' : Nat} (h : AlI w o A n m O cc A' n' m' W) (hb : Below W.heap.size W W') : AlI w o A n m O cc A' n' m' W' :=
  ⟨h.bl.trans (hb.mono h.bl.size), h.wb.keep hb, h.wr.keep hb, h.wo.keep hb, h.o⟩
theorem AlI.turn {w W W' : World} {o cc cc2 : Ov} {A A' A2 : Option Addr} {n m O n' m' n2 m2 : Nat} (h : AlI w o A n m O cc A' n' m' W) (hg : W.grownBy W' (some O)) (hw : Whole W' O 34 (oA cc2 A2 n2 m2)) : AlI w o A n m O cc2 A2 n2 m2 W' := by
  have ho := h.o
  exact ⟨h.bl.grown hg h.bl.size (fun k e => by cases e; omega), h.wb.grown hg (fun e => by have := Option.some.inj e; omega), h.wr.grown hg (fun e => by have := Option.some.inj e; omega), hw, ho⟩
theorem al_start (w : World) (o : Ov) (A : Option Addr) (n m : Nat) : Below w.heap.size w ((w.alloc (.cells (oA o A n m) 34)).alloc (.cells (oA (zeroO 0 0) none 0 0) 34)) ∧ Whole ((w.alloc (.cells (oA o A n m) 34)).alloc (.cells (oA (zeroO 0 0) none 0 0) 34)) w.heap.size 34 (oA o A n m) ∧ Whole ((w.alloc (.cells (oA o A n m) 34)).alloc (.cells (oA (zeroO 0 0) none 0 0) 34)) (w.heap.size + 1) 34 (oA (zeroO 0 0) none 0 0) := by
  have b1 := (Below.refl w.heap.size w).alloc (Nat.le_refl _) (.cells (oA o A n m) 34)
  have b2 := b1.alloc b1.size (.cells (oA (zeroO 0 0) none 0 0) 34)
  have W2 := Whole.new (w.alloc (.cells (oA o A n m) 34)) 34 (oA (zeroO 0 0) none 0 0)
  rw [World.size_alloc] at W2
  exact ⟨b2, (Whole.new w 34 (oA o A n m)).alloc _, W2⟩
theorem AlI.new {w w1 : World} {o : Ov} {A : Option Addr} {n m : Nat} (h : Below w.heap.size w w1 ∧ Whole w1 w.heap.size 34 (oA o A n m) ∧ Whole w1 (w.heap.size + 1) 34 (oA (zeroO 0 0) none 0 0)) (k z : Int) :
    AlI w o A n m w1.heap.size (zeroO k z) none 0 0 (w1.alloc (.cells (oA (zeroO k z) none 0 0) 34)) := by
  have ba := (Below.refl w1.heap.size w1).alloc (Nat.le_refl _) (.cells (oA (zeroO k z) none 0 0) 34)
  exact ⟨h.1.trans (ba.mono h.1.size), h.2.1.keep ba, h.2.2.keep ba, Whole.new w1 _ _, h.2.2.lt⟩
theorem AlI.put_m {w W : World} {o cc : Ov} {A A' : Option Addr} {n m O n' m' : Nat} (h : AlI w o A n m O cc A' n' m' W) : AlI w o A n m O { cc with m := o.m } A' n' m' (W.setCell ⟨O, 2, none⟩ (.int .i64 o.m)) := by
  have hp := (h.wo).put 2 (.int .i64 o.m)
  rw [show ((oA cc A' n' m').setIfInBounds 2 (.int .i64 o.m)) = oA { cc with m := o.m } A' n' m' from rfl] at hp
  exact h.turn (grown_set (World.grownBy.refl W (some O)) 2 _) hp
theorem AlI.put_key {w W : World} {o cc : Ov} {A A' : Option Addr} {n m O n' m' : Nat} (h : AlI w o A n m O cc A' n' m' W) : AlI w o A n m O { cc with key := o.key } A' n' m' (W.setCell ⟨O, 3, none⟩ (.string o.key)) := by
  have hp := (h.wo).put 3 (.string o.key)
  rw [show ((oA cc A' n' m').setIfInBounds 3 (.string o.key)) = oA { cc with key := o.key } A' n' m' from rfl] at hp
  exact h.turn (grown_set (World.grownBy.refl W (some O)) 3 _) hp
theorem AlI.put_rng {w W : World} {o cc : Ov} {A A' : Option Addr} {n m O n' m' : Nat} (h : AlI w o A n m O cc A' n' m' W) : AlI w o A n m O { cc with f := o.f, t := o.t } A' n' m' ((W.setCell ⟨O, 4, none⟩ (.string o.f)).setCell ⟨O, 5, none⟩ (.string o.t)) := by
  have hp := ((h.wo).put 4 (.string o.f)).put 5 (.string o.t)
  rw [show (((oA cc A' n' m').setIfInBounds 4 (.string o.f)).setIfInBounds 5 (.string o.t)) = oA { cc with f := o.f, t := o.t } A' n' m' from rfl] at hp
  exact h.turn (grown_set (grown_set (World.grownBy.refl W (some O)) 4 _) 5 _) hp
theorem AlI.put_def {w W : World} {o cc : Ov} {A A' : Option Addr} {n m O n' m' : Nat} (h : AlI w o A n m O cc A' n' m' W) : AlI w o A n m O { cc with d := o.d } A n m ((((W.setCell ⟨O, 6, none⟩ (.string o.d.n)).setCell ⟨O, 7, none⟩ (.int .i64 o.d.r)).setCell ⟨O, 8, none⟩ (.int .i64 o.d.dl)).setCell ⟨O, 9, none⟩ (.slice A n m)) := by
  have hp := ((((h.wo).put 6 (.string o.d.n)).put 7 (.int .i64 o.d.r)).put 8 (.int .i64 o.d.dl)).put 9 (.slice A n m)
  rw [show (((((oA cc A' n' m').setIfInBounds 6 (.string o.d.n)).setIfInBounds 7 (.int .i64 o.d.r)).setIfInBounds 8 (.int .i64 o.d.dl)).setIfInBounds 9 (.slice A n m)) = oA { cc with d := o.d } A n m from rfl] at hp
  exact h.turn (grown_set (grown_set (grown_set (grown_set (World.grownBy.refl W (some O)) 6 _) 7 _) 8 _) 9 _) hp
def QU (q : Bool) (o : Ov) : Prop := q = true ↔ usedO o
/-- What alone answers. -/
def AloR (o : Ov) (w w' : World) (e : Ending) : Prop := (∃ (q : Bool) (A : Option Addr) (n m : Nat), e = .returned (.tuple #[.agg (oA (aloneO o) A n m), .bool q]) ∧ (q = true ↔ usedO o) ∧ OpIn w' (aloneO o) A n m) ∧ Below w.heap.size w w'
theorem in64_0 : In64 0 := by unfold In64; omega
theorem alone_z {o : Ov} (h : OpZ o) : OpZ (aloneO o) := by
  have z0 : (⟨#[]⟩ : ByteArray).size ≤ 9223372036854775807 := Nat.zero_le _
  have e : OpZ (zeroO o.k o.n) := ⟨h.k, h.n, in64_0, z0, z0, z0⟩
  unfold aloneO
  repeat' split
  all_goals first
    | exact e
    | exact ⟨h.k, h.n, h.m, z0, z0, z0⟩
    | exact ⟨h.k, h.n, in64_0, h.key, z0, z0⟩
    | exact ⟨h.k, h.n, h.m, z0, h.f, h.t⟩
/-- The end of alone: the copy is laid into the result's variable. -/
theorem alo_end {o : Ov} {w w' : World} {e : Ending} {cc : Ov} {A2 : Option Addr} {n2 m2 : Nat} {q : Bool} (hcc : cc = aloneO o) (hq : QU q o) (hin : OpIn w (aloneO o) A2 n2 m2) (he : e = .returned (.tuple #[.agg (oA cc A2 n2 m2), .bool q]) ∧ Below w.heap.size w w') : AloR o w w' e := by
  subst hcc
  exact ⟨⟨q, A2, n2, m2, he.1, hq, hin.keep he.2⟩, he.2⟩

set_option maxRecDepth 100000 in
set_option maxHeartbeats 8000000 in
theorem alone_1 (o : Ov) (A : Option Addr) (n m : Nat) (w : World) (h : OpIn w o A n m) (hk : o.k = 1) :
    Calls Tryz.prog 62 #[.agg (oA o A n m)] w fun e w' => AloR o w w' e := by
  have I0 := Lib.hid (al_start w o A n m)
  obtain ⟨cc, hcc⟩ : ∃ cc : Ov, cc = zeroO o.k o.n := ⟨_, rfl⟩
  have HAL : Hid (cc = aloneO o) := Lib.hid (by rw [hcc]; unfold aloneO; simp only [hk, Int.reduceEq, ↓reduceIte])
  have HCC := Lib.hid hcc
  clear hcc
  have HIN := Lib.hid h
  have HRI : Hid (OpIn w (aloneO o) none 0 0) := Lib.hid ⟨by rw [show (aloneO o).d = zeroD from by rw [← HAL.out, HCC.out]; rfl]; exact defAt_zeroO w, alone_z h.z⟩
  have HU : Hid (usedO o ↔ 0 ≤ o.n ∧ o.n ≤ 511) := Lib.hid (by unfold usedO nodeO; simp only [hk, ↓reduceIte])
  have e1 : (o.k == 1) = true := by rw [hk]; rfl
  have IN0 := fun W => in3_any o.n 0 55 W
  obtain ⟨b0, hb0⟩ : ∃ b, b = decide (0 ≤ o.n ∧ o.n ≤ 55) := ⟨_, rfl⟩
  rw [← hb0] at IN0
  have HB0 := Lib.hid hb0
  have IN0 := Lib.hid IN0
  clear hb0
  have IN1 := fun W => in3_any o.n 0 511 W
  obtain ⟨b1, hb1⟩ : ∃ b, b = decide (0 ≤ o.n ∧ o.n ≤ 511) := ⟨_, rfl⟩
  rw [← hb1] at IN1
  have HB1 : Hid (b1 = true ↔ 0 ≤ o.n ∧ o.n ≤ 511) := Lib.hid (by rw [hb1, decide_eq_true_iff])
  have IN1 := Lib.hid IN1
  clear hb1
  clear hk h
  go_enter Tryz.func62, Tryz.ntmps62
  go_upto_region 1 with fail
  rw [← zero10 0 0]
  generalize ((w.alloc (.cells (oA o A n m) 34)).alloc (.cells (oA (zeroO 0 0) none 0 0) 34)) = w1 at I0 ⊢
  have x0 : w1.cell? ⟨w.heap.size, 0, none⟩ = some (.int .i64 o.k) := I0.out.2.1.cell 0
  have x1 : w1.cell? ⟨w.heap.size, 1, none⟩ = some (.int .i64 o.n) := I0.out.2.1.cell 1
  have I1 := Lib.hid (AlI.new I0.out o.k o.n)
  go_upto_region 2 with (refine wpList_store_row rfl 34 (.tmp 4) (.tmp 10) rfl _ (oA (zeroO o.k o.n) none 0 0) rfl rfl 34 _ (heap_alloc_new _ _) (info10 _ _ _ _) rfl (all10 _ _ _ _) ?_; rw [World.setRow_alloc_new])
  clear x0 x1 I0
  generalize w1.alloc (.cells (oA (zeroO o.k o.n) none 0 0) 34) = w2 at I1 ⊢
  generalize w1.heap.size = O at I1 ⊢
  have x0 : w2.cell? ⟨w.heap.size, 0, none⟩ = some (.int .i64 o.k) := I1.out.wb.cell 0
  have x1 : w2.cell? ⟨w.heap.size, 1, none⟩ = some (.int .i64 o.n) := I1.out.wb.cell 1
  go_upto_region 3 with (go_at_call 93; refine (IN0.out _).mono ?_; rintro e v ⟨rfl, rfl⟩; clear IN0)
  have I2 := I1
  clear x0 x1 I1
  have IC : Hid (AlI w o A n m O cc none 0 0 w2) := Lib.hid (by have := I2.out; rw [← HCC.out] at this; exact this)
  clear I2
  have HU1 : Hid (QU b1 o) := Lib.hid (HB1.out.trans HU.out.symm)
  cases b1
  case false =>
    have HQ : Hid (QU false o) := Lib.hid (HU1.out)
    have x0 : w2.cell? ⟨w.heap.size, 0, none⟩ = some (.int .i64 o.k) := IC.out.wb.cell 0
    have x1 : w2.cell? ⟨w.heap.size, 1, none⟩ = some (.int .i64 o.n) := IC.out.wb.cell 1
    go_upto_region 28 with (first
      | (go_at_call 93; refine (IN1.out _).mono ?_; rintro e v ⟨rfl, rfl⟩; clear IN1))
    have IZ := IC
    clear IC x0 x1
    go_wp2_with (first
      | (refine wpList_load_row rfl 34 (.tmp 4) rfl O rfl 34 (oA cc none 0 0) (0, 0) _ IZ.out.wo Tryz.underlying34 rfl (info10 _ _ _ _) ?_)
      | (refine wpList_store_row rfl 34 (.tmp 2) (.tmp 101) rfl (w.heap.size + 1) (oA cc none 0 0) rfl rfl 34 (oA (zeroO 0 0) none 0 0) IZ.out.wr (info10 _ _ _ _) rfl (all10 _ _ _ _) ?_))
    refine bodyPost_ret (results_row2 rfl _ _ (w.heap.size + 1) 34 (oA cc none 0 0) (0, 0) _ rfl (setRow_heap _ _ _ _ _ _ IZ.out.wr) Tryz.underlying34 rfl (info10 _ _ _ _) (.bool false) rfl) rfl ?_
    exact alo_end HAL.out HQ.out HRI.out ⟨rfl, below_row IZ.out.bl (Nat.le_succ _) _⟩
  case true =>
    have HQ : Hid (QU true o) := Lib.hid (HU1.out)
    have x0 : w2.cell? ⟨w.heap.size, 0, none⟩ = some (.int .i64 o.k) := IC.out.wb.cell 0
    have x1 : w2.cell? ⟨w.heap.size, 1, none⟩ = some (.int .i64 o.n) := IC.out.wb.cell 1
    go_upto_region 28 with (first
      | (go_at_call 93; refine (IN1.out _).mono ?_; rintro e v ⟨rfl, rfl⟩; clear IN1))
    have IZ := IC
    clear IC x0 x1
    go_wp2_with (first
      | (refine wpList_load_row rfl 34 (.tmp 4) rfl O rfl 34 (oA cc none 0 0) (0, 0) _ IZ.out.wo Tryz.underlying34 rfl (info10 _ _ _ _) ?_)
      | (refine wpList_store_row rfl 34 (.tmp 2) (.tmp 101) rfl (w.heap.size + 1) (oA cc none 0 0) rfl rfl 34 (oA (zeroO 0 0) none 0 0) IZ.out.wr (info10 _ _ _ _) rfl (all10 _ _ _ _) ?_))
    refine bodyPost_ret (results_row2 rfl _ _ (w.heap.size + 1) 34 (oA cc none 0 0) (0, 0) _ rfl (setRow_heap _ _ _ _ _ _ IZ.out.wr) Tryz.underlying34 rfl (info10 _ _ _ _) (.bool true) rfl) rfl ?_
    exact alo_end HAL.out HQ.out HRI.out ⟨rfl, below_row IZ.out.bl (Nat.le_succ _) _⟩
set_option maxRecDepth 100000 in
set_option maxHeartbeats 8000000 in
theorem alone_2 (o : Ov) (A : Option Addr) (n m : Nat) (w : World) (h : OpIn w o A n m) (hk : o.k = 2) :
    Calls Tryz.prog 62 #[.agg (oA o A n m)] w fun e w' => AloR o w w' e := by
  have I0 := Lib.hid (al_start w o A n m)
  obtain ⟨cc, hcc⟩ : ∃ cc : Ov, cc = zeroO o.k o.n := ⟨_, rfl⟩
  have HAL : Hid (cc = aloneO o) := Lib.hid (by rw [hcc]; unfold aloneO; simp only [hk, Int.reduceEq, ↓reduceIte])
  have HCC := Lib.hid hcc
  clear hcc
  have HIN := Lib.hid h
  have HRI : Hid (OpIn w (aloneO o) none 0 0) := Lib.hid ⟨by rw [show (aloneO o).d = zeroD from by rw [← HAL.out, HCC.out]; rfl]; exact defAt_zeroO w, alone_z h.z⟩
  have HU : Hid (usedO o ↔ 0 ≤ o.n ∧ o.n ≤ 511) := Lib.hid (by unfold usedO nodeO; simp only [hk, Int.reduceEq, ↓reduceIte])
  have e1 : (o.k == 1) = false := by rw [hk]; rfl
  have e2 : (o.k == 2) = true := by rw [hk]; rfl
  have IN0 := fun W => in3_any o.n 0 55 W
  obtain ⟨b0, hb0⟩ : ∃ b, b = decide (0 ≤ o.n ∧ o.n ≤ 55) := ⟨_, rfl⟩
  rw [← hb0] at IN0
  have HB0 := Lib.hid hb0
  have IN0 := Lib.hid IN0
  clear hb0
  have IN1 := fun W => in3_any o.n 0 511 W
  obtain ⟨b1, hb1⟩ : ∃ b, b = decide (0 ≤ o.n ∧ o.n ≤ 511) := ⟨_, rfl⟩
  rw [← hb1] at IN1
  have HB1 : Hid (b1 = true ↔ 0 ≤ o.n ∧ o.n ≤ 511) := Lib.hid (by rw [hb1, decide_eq_true_iff])
  have IN1 := Lib.hid IN1
  clear hb1
  clear hk h
  go_enter Tryz.func62, Tryz.ntmps62
  go_upto_region 1 with fail
  rw [← zero10 0 0]
  generalize ((w.alloc (.cells (oA o A n m) 34)).alloc (.cells (oA (zeroO 0 0) none 0 0) 34)) = w1 at I0 ⊢
  have x0 : w1.cell? ⟨w.heap.size, 0, none⟩ = some (.int .i64 o.k) := I0.out.2.1.cell 0
  have x1 : w1.cell? ⟨w.heap.size, 1, none⟩ = some (.int .i64 o.n) := I0.out.2.1.cell 1
  have I1 := Lib.hid (AlI.new I0.out o.k o.n)
  go_upto_region 2 with (refine wpList_store_row rfl 34 (.tmp 4) (.tmp 10) rfl _ (oA (zeroO o.k o.n) none 0 0) rfl rfl 34 _ (heap_alloc_new _ _) (info10 _ _ _ _) rfl (all10 _ _ _ _) ?_; rw [World.setRow_alloc_new])
  clear x0 x1 I0
  generalize w1.alloc (.cells (oA (zeroO o.k o.n) none 0 0) 34) = w2 at I1 ⊢
  generalize w1.heap.size = O at I1 ⊢
  have x0 : w2.cell? ⟨w.heap.size, 0, none⟩ = some (.int .i64 o.k) := I1.out.wb.cell 0
  have x1 : w2.cell? ⟨w.heap.size, 1, none⟩ = some (.int .i64 o.n) := I1.out.wb.cell 1
  go_upto_region 3 with (go_at_call 93; refine (IN0.out _).mono ?_; rintro e v ⟨rfl, rfl⟩; clear IN0)
  have I2 := I1
  clear x0 x1 I1
  have IC : Hid (AlI w o A n m O cc none 0 0 w2) := Lib.hid (by have := I2.out; rw [← HCC.out] at this; exact this)
  clear I2
  have HU1 : Hid (QU b1 o) := Lib.hid (HB1.out.trans HU.out.symm)
  cases b1
  case false =>
    have HQ : Hid (QU false o) := Lib.hid (HU1.out)
    have x0 : w2.cell? ⟨w.heap.size, 0, none⟩ = some (.int .i64 o.k) := IC.out.wb.cell 0
    have x1 : w2.cell? ⟨w.heap.size, 1, none⟩ = some (.int .i64 o.n) := IC.out.wb.cell 1
    go_upto_region 28 with (first
      | (go_at_call 93; refine (IN1.out _).mono ?_; rintro e v ⟨rfl, rfl⟩; clear IN1))
    have IZ := IC
    clear IC x0 x1
    go_wp2_with (first
      | (refine wpList_load_row rfl 34 (.tmp 4) rfl O rfl 34 (oA cc none 0 0) (0, 0) _ IZ.out.wo Tryz.underlying34 rfl (info10 _ _ _ _) ?_)
      | (refine wpList_store_row rfl 34 (.tmp 2) (.tmp 101) rfl (w.heap.size + 1) (oA cc none 0 0) rfl rfl 34 (oA (zeroO 0 0) none 0 0) IZ.out.wr (info10 _ _ _ _) rfl (all10 _ _ _ _) ?_))
    refine bodyPost_ret (results_row2 rfl _ _ (w.heap.size + 1) 34 (oA cc none 0 0) (0, 0) _ rfl (setRow_heap _ _ _ _ _ _ IZ.out.wr) Tryz.underlying34 rfl (info10 _ _ _ _) (.bool false) rfl) rfl ?_
    exact alo_end HAL.out HQ.out HRI.out ⟨rfl, below_row IZ.out.bl (Nat.le_succ _) _⟩
  case true =>
    have HQ : Hid (QU true o) := Lib.hid (HU1.out)
    have x0 : w2.cell? ⟨w.heap.size, 0, none⟩ = some (.int .i64 o.k) := IC.out.wb.cell 0
    have x1 : w2.cell? ⟨w.heap.size, 1, none⟩ = some (.int .i64 o.n) := IC.out.wb.cell 1
    go_upto_region 28 with (first
      | (go_at_call 93; refine (IN1.out _).mono ?_; rintro e v ⟨rfl, rfl⟩; clear IN1))
    have IZ := IC
    clear IC x0 x1
    go_wp2_with (first
      | (refine wpList_load_row rfl 34 (.tmp 4) rfl O rfl 34 (oA cc none 0 0) (0, 0) _ IZ.out.wo Tryz.underlying34 rfl (info10 _ _ _ _) ?_)
      | (refine wpList_store_row rfl 34 (.tmp 2) (.tmp 101) rfl (w.heap.size + 1) (oA cc none 0 0) rfl rfl 34 (oA (zeroO 0 0) none 0 0) IZ.out.wr (info10 _ _ _ _) rfl (all10 _ _ _ _) ?_))
    refine bodyPost_ret (results_row2 rfl _ _ (w.heap.size + 1) 34 (oA cc none 0 0) (0, 0) _ rfl (setRow_heap _ _ _ _ _ _ IZ.out.wr) Tryz.underlying34 rfl (info10 _ _ _ _) (.bool true) rfl) rfl ?_
    exact alo_end HAL.out HQ.out HRI.out ⟨rfl, below_row IZ.out.bl (Nat.le_succ _) _⟩
set_option maxRecDepth 100000 in
set_option maxHeartbeats 8000000 in
theorem alone_3 (o : Ov) (A : Option Addr) (n m : Nat) (w : World) (h : OpIn w o A n m) (hk : o.k = 3) :
    Calls Tryz.prog 62 #[.agg (oA o A n m)] w fun e w' => AloR o w w' e := by
  have I0 := Lib.hid (al_start w o A n m)
  obtain ⟨cc, hcc⟩ : ∃ cc : Ov, cc = zeroO o.k o.n := ⟨_, rfl⟩
  have HAL : Hid (cc = aloneO o) := Lib.hid (by rw [hcc]; unfold aloneO; simp only [hk, Int.reduceEq, ↓reduceIte])
  have HCC := Lib.hid hcc
  clear hcc
  have HIN := Lib.hid h
  have HRI : Hid (OpIn w (aloneO o) none 0 0) := Lib.hid ⟨by rw [show (aloneO o).d = zeroD from by rw [← HAL.out, HCC.out]; rfl]; exact defAt_zeroO w, alone_z h.z⟩
  have HU : Hid (usedO o ↔ 0 ≤ o.n ∧ o.n ≤ 511) := Lib.hid (by unfold usedO nodeO; simp only [hk, Int.reduceEq, ↓reduceIte])
  have e1 : (o.k == 1) = false := by rw [hk]; rfl
  have e2 : (o.k == 2) = false := by rw [hk]; rfl
  have e3 : (o.k == 3) = true := by rw [hk]; rfl
  have IN0 := fun W => in3_any o.n 0 55 W
  obtain ⟨b0, hb0⟩ : ∃ b, b = decide (0 ≤ o.n ∧ o.n ≤ 55) := ⟨_, rfl⟩
  rw [← hb0] at IN0
  have HB0 := Lib.hid hb0
  have IN0 := Lib.hid IN0
  clear hb0
  have IN1 := fun W => in3_any o.n 0 511 W
  obtain ⟨b1, hb1⟩ : ∃ b, b = decide (0 ≤ o.n ∧ o.n ≤ 511) := ⟨_, rfl⟩
  rw [← hb1] at IN1
  have HB1 : Hid (b1 = true ↔ 0 ≤ o.n ∧ o.n ≤ 511) := Lib.hid (by rw [hb1, decide_eq_true_iff])
  have IN1 := Lib.hid IN1
  clear hb1
  clear hk h
  go_enter Tryz.func62, Tryz.ntmps62
  go_upto_region 1 with fail
  rw [← zero10 0 0]
  generalize ((w.alloc (.cells (oA o A n m) 34)).alloc (.cells (oA (zeroO 0 0) none 0 0) 34)) = w1 at I0 ⊢
  have x0 : w1.cell? ⟨w.heap.size, 0, none⟩ = some (.int .i64 o.k) := I0.out.2.1.cell 0
  have x1 : w1.cell? ⟨w.heap.size, 1, none⟩ = some (.int .i64 o.n) := I0.out.2.1.cell 1
  have I1 := Lib.hid (AlI.new I0.out o.k o.n)
  go_upto_region 2 with (refine wpList_store_row rfl 34 (.tmp 4) (.tmp 10) rfl _ (oA (zeroO o.k o.n) none 0 0) rfl rfl 34 _ (heap_alloc_new _ _) (info10 _ _ _ _) rfl (all10 _ _ _ _) ?_; rw [World.setRow_alloc_new])
  clear x0 x1 I0
  generalize w1.alloc (.cells (oA (zeroO o.k o.n) none 0 0) 34) = w2 at I1 ⊢
  generalize w1.heap.size = O at I1 ⊢
  have x0 : w2.cell? ⟨w.heap.size, 0, none⟩ = some (.int .i64 o.k) := I1.out.wb.cell 0
  have x1 : w2.cell? ⟨w.heap.size, 1, none⟩ = some (.int .i64 o.n) := I1.out.wb.cell 1
  go_upto_region 3 with (go_at_call 93; refine (IN0.out _).mono ?_; rintro e v ⟨rfl, rfl⟩; clear IN0)
  have I2 := I1
  clear x0 x1 I1
  have IC : Hid (AlI w o A n m O cc none 0 0 w2) := Lib.hid (by have := I2.out; rw [← HCC.out] at this; exact this)
  clear I2
  have HU1 : Hid (QU b1 o) := Lib.hid (HB1.out.trans HU.out.symm)
  cases b1
  case false =>
    have HQ : Hid (QU false o) := Lib.hid (HU1.out)
    have x0 : w2.cell? ⟨w.heap.size, 0, none⟩ = some (.int .i64 o.k) := IC.out.wb.cell 0
    have x1 : w2.cell? ⟨w.heap.size, 1, none⟩ = some (.int .i64 o.n) := IC.out.wb.cell 1
    go_upto_region 28 with (first
      | (go_at_call 93; refine (IN1.out _).mono ?_; rintro e v ⟨rfl, rfl⟩; clear IN1))
    have IZ := IC
    clear IC x0 x1
    go_wp2_with (first
      | (refine wpList_load_row rfl 34 (.tmp 4) rfl O rfl 34 (oA cc none 0 0) (0, 0) _ IZ.out.wo Tryz.underlying34 rfl (info10 _ _ _ _) ?_)
      | (refine wpList_store_row rfl 34 (.tmp 2) (.tmp 101) rfl (w.heap.size + 1) (oA cc none 0 0) rfl rfl 34 (oA (zeroO 0 0) none 0 0) IZ.out.wr (info10 _ _ _ _) rfl (all10 _ _ _ _) ?_))
    refine bodyPost_ret (results_row2 rfl _ _ (w.heap.size + 1) 34 (oA cc none 0 0) (0, 0) _ rfl (setRow_heap _ _ _ _ _ _ IZ.out.wr) Tryz.underlying34 rfl (info10 _ _ _ _) (.bool false) rfl) rfl ?_
    exact alo_end HAL.out HQ.out HRI.out ⟨rfl, below_row IZ.out.bl (Nat.le_succ _) _⟩
  case true =>
    have HQ : Hid (QU true o) := Lib.hid (HU1.out)
    have x0 : w2.cell? ⟨w.heap.size, 0, none⟩ = some (.int .i64 o.k) := IC.out.wb.cell 0
    have x1 : w2.cell? ⟨w.heap.size, 1, none⟩ = some (.int .i64 o.n) := IC.out.wb.cell 1
    go_upto_region 28 with (first
      | (go_at_call 93; refine (IN1.out _).mono ?_; rintro e v ⟨rfl, rfl⟩; clear IN1))
    have IZ := IC
    clear IC x0 x1
    go_wp2_with (first
      | (refine wpList_load_row rfl 34 (.tmp 4) rfl O rfl 34 (oA cc none 0 0) (0, 0) _ IZ.out.wo Tryz.underlying34 rfl (info10 _ _ _ _) ?_)
      | (refine wpList_store_row rfl 34 (.tmp 2) (.tmp 101) rfl (w.heap.size + 1) (oA cc none 0 0) rfl rfl 34 (oA (zeroO 0 0) none 0 0) IZ.out.wr (info10 _ _ _ _) rfl (all10 _ _ _ _) ?_))
    refine bodyPost_ret (results_row2 rfl _ _ (w.heap.size + 1) 34 (oA cc none 0 0) (0, 0) _ rfl (setRow_heap _ _ _ _ _ _ IZ.out.wr) Tryz.underlying34 rfl (info10 _ _ _ _) (.bool true) rfl) rfl ?_
    exact alo_end HAL.out HQ.out HRI.out ⟨rfl, below_row IZ.out.bl (Nat.le_succ _) _⟩
set_option maxRecDepth 100000 in
set_option maxHeartbeats 8000000 in
theorem alone_4 (o : Ov) (A : Option Addr) (n m : Nat) (w : World) (h : OpIn w o A n m) (hk : o.k = 4) :
    Calls Tryz.prog 62 #[.agg (oA o A n m)] w fun e w' => AloR o w w' e := by
  have I0 := Lib.hid (al_start w o A n m)
  obtain ⟨cc, hcc⟩ : ∃ cc : Ov, cc = zeroO o.k o.n := ⟨_, rfl⟩
  have HAL : Hid (cc = aloneO o) := Lib.hid (by rw [hcc]; unfold aloneO; simp only [hk, Int.reduceEq, ↓reduceIte])
  have HCC := Lib.hid hcc
  clear hcc
  have HIN := Lib.hid h
  have HRI : Hid (OpIn w (aloneO o) none 0 0) := Lib.hid ⟨by rw [show (aloneO o).d = zeroD from by rw [← HAL.out, HCC.out]; rfl]; exact defAt_zeroO w, alone_z h.z⟩
  have HU : Hid (usedO o ↔ 0 ≤ o.n ∧ o.n ≤ 55) := Lib.hid (by unfold usedO nodeO; simp only [hk, Int.reduceEq, ↓reduceIte])
  have e1 : (o.k == 1) = false := by rw [hk]; rfl
  have e2 : (o.k == 2) = false := by rw [hk]; rfl
  have e3 : (o.k == 3) = false := by rw [hk]; rfl
  have e4 : (o.k == 4) = true := by rw [hk]; rfl
  have IN0 := fun W => in3_any o.n 0 55 W
  obtain ⟨b0, hb0⟩ : ∃ b, b = decide (0 ≤ o.n ∧ o.n ≤ 55) := ⟨_, rfl⟩
  rw [← hb0] at IN0
  have HB0 := Lib.hid hb0
  have IN0 := Lib.hid IN0
  clear hb0
  clear hk h
  go_enter Tryz.func62, Tryz.ntmps62
  go_upto_region 1 with fail
  rw [← zero10 0 0]
  generalize ((w.alloc (.cells (oA o A n m) 34)).alloc (.cells (oA (zeroO 0 0) none 0 0) 34)) = w1 at I0 ⊢
  have x0 : w1.cell? ⟨w.heap.size, 0, none⟩ = some (.int .i64 o.k) := I0.out.2.1.cell 0
  have x1 : w1.cell? ⟨w.heap.size, 1, none⟩ = some (.int .i64 o.n) := I0.out.2.1.cell 1
  have I1 := Lib.hid (AlI.new I0.out o.k o.n)
  go_upto_region 2 with (refine wpList_store_row rfl 34 (.tmp 4) (.tmp 10) rfl _ (oA (zeroO o.k o.n) none 0 0) rfl rfl 34 _ (heap_alloc_new _ _) (info10 _ _ _ _) rfl (all10 _ _ _ _) ?_; rw [World.setRow_alloc_new])
  clear x0 x1 I0
  generalize w1.alloc (.cells (oA (zeroO o.k o.n) none 0 0) 34) = w2 at I1 ⊢
  generalize w1.heap.size = O at I1 ⊢
  have x0 : w2.cell? ⟨w.heap.size, 0, none⟩ = some (.int .i64 o.k) := I1.out.wb.cell 0
  have x1 : w2.cell? ⟨w.heap.size, 1, none⟩ = some (.int .i64 o.n) := I1.out.wb.cell 1
  go_upto_region 3 with (go_at_call 93; refine (IN0.out _).mono ?_; rintro e v ⟨rfl, rfl⟩; clear IN0)
  have I2 := I1
  clear x0 x1 I1
  have IC : Hid (AlI w o A n m O cc none 0 0 w2) := Lib.hid (by have := I2.out; rw [← HCC.out] at this; exact this)
  clear I2
  have HB0 : Hid (b0 = true ↔ 0 ≤ o.n ∧ o.n ≤ 55) := Lib.hid (by rw [HB0.out, decide_eq_true_iff])
  cases b0
  case false =>
    have HQ : Hid (QU false o) := Lib.hid (⟨fun e => (by cases e), fun e => HB0.out.2 (HU.out.1 e)⟩)
    have x0 : w2.cell? ⟨w.heap.size, 0, none⟩ = some (.int .i64 o.k) := IC.out.wb.cell 0
    go_upto_region 28 with fail
    have IZ := IC
    clear IC x0
    go_wp2_with (first
      | (refine wpList_load_row rfl 34 (.tmp 4) rfl O rfl 34 (oA cc none 0 0) (0, 0) _ IZ.out.wo Tryz.underlying34 rfl (info10 _ _ _ _) ?_)
      | (refine wpList_store_row rfl 34 (.tmp 2) (.tmp 101) rfl (w.heap.size + 1) (oA cc none 0 0) rfl rfl 34 (oA (zeroO 0 0) none 0 0) IZ.out.wr (info10 _ _ _ _) rfl (all10 _ _ _ _) ?_))
    refine bodyPost_ret (results_row2 rfl _ _ (w.heap.size + 1) 34 (oA cc none 0 0) (0, 0) _ rfl (setRow_heap _ _ _ _ _ _ IZ.out.wr) Tryz.underlying34 rfl (info10 _ _ _ _) (.bool false) rfl) rfl ?_
    exact alo_end HAL.out HQ.out HRI.out ⟨rfl, below_row IZ.out.bl (Nat.le_succ _) _⟩
  case true =>
    have HQ : Hid (QU true o) := Lib.hid (⟨fun _ => HU.out.2 (HB0.out.1 rfl), fun _ => rfl⟩)
    have x0 : w2.cell? ⟨w.heap.size, 0, none⟩ = some (.int .i64 o.k) := IC.out.wb.cell 0
    go_upto_region 28 with fail
    have IZ := IC
    clear IC x0
    go_wp2_with (first
      | (refine wpList_load_row rfl 34 (.tmp 4) rfl O rfl 34 (oA cc none 0 0) (0, 0) _ IZ.out.wo Tryz.underlying34 rfl (info10 _ _ _ _) ?_)
      | (refine wpList_store_row rfl 34 (.tmp 2) (.tmp 101) rfl (w.heap.size + 1) (oA cc none 0 0) rfl rfl 34 (oA (zeroO 0 0) none 0 0) IZ.out.wr (info10 _ _ _ _) rfl (all10 _ _ _ _) ?_))
    refine bodyPost_ret (results_row2 rfl _ _ (w.heap.size + 1) 34 (oA cc none 0 0) (0, 0) _ rfl (setRow_heap _ _ _ _ _ _ IZ.out.wr) Tryz.underlying34 rfl (info10 _ _ _ _) (.bool true) rfl) rfl ?_
    exact alo_end HAL.out HQ.out HRI.out ⟨rfl, below_row IZ.out.bl (Nat.le_succ _) _⟩
set_option maxRecDepth 100000 in
set_option maxHeartbeats 8000000 in
theorem alone_5 (o : Ov) (A : Option Addr) (n m : Nat) (w : World) (h : OpIn w o A n m) (hk : o.k = 5) :
    Calls Tryz.prog 62 #[.agg (oA o A n m)] w fun e w' => AloR o w w' e := by
  have I0 := Lib.hid (al_start w o A n m)
  obtain ⟨cc, hcc⟩ : ∃ cc : Ov, cc = zeroO o.k o.n := ⟨_, rfl⟩
  have HAL : Hid (cc = aloneO o) := Lib.hid (by rw [hcc]; unfold aloneO; simp only [hk, Int.reduceEq, ↓reduceIte])
  have HCC := Lib.hid hcc
  clear hcc
  have HIN := Lib.hid h
  have HRI : Hid (OpIn w (aloneO o) none 0 0) := Lib.hid ⟨by rw [show (aloneO o).d = zeroD from by rw [← HAL.out, HCC.out]; rfl]; exact defAt_zeroO w, alone_z h.z⟩
  have HU : Hid (usedO o ↔ 0 ≤ o.n ∧ o.n ≤ 55) := Lib.hid (by unfold usedO nodeO; simp only [hk, Int.reduceEq, ↓reduceIte])
  have e1 : (o.k == 1) = false := by rw [hk]; rfl
  have e2 : (o.k == 2) = false := by rw [hk]; rfl
  have e3 : (o.k == 3) = false := by rw [hk]; rfl
  have e4 : (o.k == 4) = false := by rw [hk]; rfl
  have e5 : (o.k == 5) = true := by rw [hk]; rfl
  have IN0 := fun W => in3_any o.n 0 55 W
  obtain ⟨b0, hb0⟩ : ∃ b, b = decide (0 ≤ o.n ∧ o.n ≤ 55) := ⟨_, rfl⟩
  rw [← hb0] at IN0
  have HB0 := Lib.hid hb0
  have IN0 := Lib.hid IN0
  clear hb0
  clear hk h
  go_enter Tryz.func62, Tryz.ntmps62
  go_upto_region 1 with fail
  rw [← zero10 0 0]
  generalize ((w.alloc (.cells (oA o A n m) 34)).alloc (.cells (oA (zeroO 0 0) none 0 0) 34)) = w1 at I0 ⊢
  have x0 : w1.cell? ⟨w.heap.size, 0, none⟩ = some (.int .i64 o.k) := I0.out.2.1.cell 0
  have x1 : w1.cell? ⟨w.heap.size, 1, none⟩ = some (.int .i64 o.n) := I0.out.2.1.cell 1
  have I1 := Lib.hid (AlI.new I0.out o.k o.n)
  go_upto_region 2 with (refine wpList_store_row rfl 34 (.tmp 4) (.tmp 10) rfl _ (oA (zeroO o.k o.n) none 0 0) rfl rfl 34 _ (heap_alloc_new _ _) (info10 _ _ _ _) rfl (all10 _ _ _ _) ?_; rw [World.setRow_alloc_new])
  clear x0 x1 I0
  generalize w1.alloc (.cells (oA (zeroO o.k o.n) none 0 0) 34) = w2 at I1 ⊢
  generalize w1.heap.size = O at I1 ⊢
  have x0 : w2.cell? ⟨w.heap.size, 0, none⟩ = some (.int .i64 o.k) := I1.out.wb.cell 0
  have x1 : w2.cell? ⟨w.heap.size, 1, none⟩ = some (.int .i64 o.n) := I1.out.wb.cell 1
  go_upto_region 3 with (go_at_call 93; refine (IN0.out _).mono ?_; rintro e v ⟨rfl, rfl⟩; clear IN0)
  have I2 := I1
  clear x0 x1 I1
  have IC : Hid (AlI w o A n m O cc none 0 0 w2) := Lib.hid (by have := I2.out; rw [← HCC.out] at this; exact this)
  clear I2
  have HB0 : Hid (b0 = true ↔ 0 ≤ o.n ∧ o.n ≤ 55) := Lib.hid (by rw [HB0.out, decide_eq_true_iff])
  cases b0
  case false =>
    have HQ : Hid (QU false o) := Lib.hid (⟨fun e => (by cases e), fun e => HB0.out.2 (HU.out.1 e)⟩)
    have x0 : w2.cell? ⟨w.heap.size, 0, none⟩ = some (.int .i64 o.k) := IC.out.wb.cell 0
    go_upto_region 28 with fail
    have IZ := IC
    clear IC x0
    go_wp2_with (first
      | (refine wpList_load_row rfl 34 (.tmp 4) rfl O rfl 34 (oA cc none 0 0) (0, 0) _ IZ.out.wo Tryz.underlying34 rfl (info10 _ _ _ _) ?_)
      | (refine wpList_store_row rfl 34 (.tmp 2) (.tmp 101) rfl (w.heap.size + 1) (oA cc none 0 0) rfl rfl 34 (oA (zeroO 0 0) none 0 0) IZ.out.wr (info10 _ _ _ _) rfl (all10 _ _ _ _) ?_))
    refine bodyPost_ret (results_row2 rfl _ _ (w.heap.size + 1) 34 (oA cc none 0 0) (0, 0) _ rfl (setRow_heap _ _ _ _ _ _ IZ.out.wr) Tryz.underlying34 rfl (info10 _ _ _ _) (.bool false) rfl) rfl ?_
    exact alo_end HAL.out HQ.out HRI.out ⟨rfl, below_row IZ.out.bl (Nat.le_succ _) _⟩
  case true =>
    have HQ : Hid (QU true o) := Lib.hid (⟨fun _ => HU.out.2 (HB0.out.1 rfl), fun _ => rfl⟩)
    have x0 : w2.cell? ⟨w.heap.size, 0, none⟩ = some (.int .i64 o.k) := IC.out.wb.cell 0
    go_upto_region 28 with fail
    have IZ := IC
    clear IC x0
    go_wp2_with (first
      | (refine wpList_load_row rfl 34 (.tmp 4) rfl O rfl 34 (oA cc none 0 0) (0, 0) _ IZ.out.wo Tryz.underlying34 rfl (info10 _ _ _ _) ?_)
      | (refine wpList_store_row rfl 34 (.tmp 2) (.tmp 101) rfl (w.heap.size + 1) (oA cc none 0 0) rfl rfl 34 (oA (zeroO 0 0) none 0 0) IZ.out.wr (info10 _ _ _ _) rfl (all10 _ _ _ _) ?_))
    refine bodyPost_ret (results_row2 rfl _ _ (w.heap.size + 1) 34 (oA cc none 0 0) (0, 0) _ rfl (setRow_heap _ _ _ _ _ _ IZ.out.wr) Tryz.underlying34 rfl (info10 _ _ _ _) (.bool true) rfl) rfl ?_
    exact alo_end HAL.out HQ.out HRI.out ⟨rfl, below_row IZ.out.bl (Nat.le_succ _) _⟩
set_option maxRecDepth 100000 in
set_option maxHeartbeats 8000000 in
theorem alone_6 (o : Ov) (A : Option Addr) (n m : Nat) (w : World) (h : OpIn w o A n m) (hk : o.k = 6) :
    Calls Tryz.prog 62 #[.agg (oA o A n m)] w fun e w' => AloR o w w' e := by
  have I0 := Lib.hid (al_start w o A n m)
  obtain ⟨cc, hcc⟩ : ∃ cc : Ov, cc = { zeroO o.k o.n with m := o.m } := ⟨_, rfl⟩
  have HAL : Hid (cc = aloneO o) := Lib.hid (by rw [hcc]; unfold aloneO; simp only [hk, ↓reduceIte])
  have HCC := Lib.hid hcc
  clear hcc
  have HIN := Lib.hid h
  have HRI : Hid (OpIn w (aloneO o) none 0 0) := Lib.hid ⟨by rw [show (aloneO o).d = zeroD from by rw [← HAL.out, HCC.out]; rfl]; exact defAt_zeroO w, alone_z h.z⟩
  have HU : Hid (usedO o ↔ (0 ≤ o.n ∧ o.n ≤ 55) ∧ 0 ≤ o.m ∧ o.m ≤ 1000000) := Lib.hid (by unfold usedO nodeO; simp only [hk, Int.reduceEq, ↓reduceIte])
  have e1 : (o.k == 1) = false := by rw [hk]; rfl
  have e2 : (o.k == 2) = false := by rw [hk]; rfl
  have e3 : (o.k == 3) = false := by rw [hk]; rfl
  have e4 : (o.k == 4) = false := by rw [hk]; rfl
  have e5 : (o.k == 5) = false := by rw [hk]; rfl
  have e7 : (o.k == 7) = false := by rw [hk]; rfl
  have e6 : (o.k == 6) = true := by rw [hk]; rfl
  have IN0 := fun W => in3_any o.n 0 55 W
  obtain ⟨b0, hb0⟩ : ∃ b, b = decide (0 ≤ o.n ∧ o.n ≤ 55) := ⟨_, rfl⟩
  rw [← hb0] at IN0
  have HB0 := Lib.hid hb0
  have IN0 := Lib.hid IN0
  clear hb0
  have IN1 := fun W => in3_any o.m 0 1000000 W
  obtain ⟨b1, hb1⟩ : ∃ b, b = decide (0 ≤ o.m ∧ o.m ≤ 1000000) := ⟨_, rfl⟩
  rw [← hb1] at IN1
  have HB1 : Hid (b1 = true ↔ 0 ≤ o.m ∧ o.m ≤ 1000000) := Lib.hid (by rw [hb1, decide_eq_true_iff])
  have IN1 := Lib.hid IN1
  clear hb1
  clear hk h
  go_enter Tryz.func62, Tryz.ntmps62
  go_upto_region 1 with fail
  rw [← zero10 0 0]
  generalize ((w.alloc (.cells (oA o A n m) 34)).alloc (.cells (oA (zeroO 0 0) none 0 0) 34)) = w1 at I0 ⊢
  have x0 : w1.cell? ⟨w.heap.size, 0, none⟩ = some (.int .i64 o.k) := I0.out.2.1.cell 0
  have x1 : w1.cell? ⟨w.heap.size, 1, none⟩ = some (.int .i64 o.n) := I0.out.2.1.cell 1
  have I1 := Lib.hid (AlI.new I0.out o.k o.n)
  go_upto_region 2 with (refine wpList_store_row rfl 34 (.tmp 4) (.tmp 10) rfl _ (oA (zeroO o.k o.n) none 0 0) rfl rfl 34 _ (heap_alloc_new _ _) (info10 _ _ _ _) rfl (all10 _ _ _ _) ?_; rw [World.setRow_alloc_new])
  clear x0 x1 I0
  generalize w1.alloc (.cells (oA (zeroO o.k o.n) none 0 0) 34) = w2 at I1 ⊢
  generalize w1.heap.size = O at I1 ⊢
  have x0 : w2.cell? ⟨w.heap.size, 0, none⟩ = some (.int .i64 o.k) := I1.out.wb.cell 0
  have x1 : w2.cell? ⟨w.heap.size, 1, none⟩ = some (.int .i64 o.n) := I1.out.wb.cell 1
  go_upto_region 3 with (go_at_call 93; refine (IN0.out _).mono ?_; rintro e v ⟨rfl, rfl⟩; clear IN0)
  have x2 : w2.cell? ⟨w.heap.size, 2, none⟩ = some (.int .i64 o.m) := I1.out.wb.cell 2
  have y2 : w2.cell? ⟨O, 2, none⟩ = some (.int .i64 0) := I1.out.wo.cell 2
  have f2 : w2.frozen? ⟨O, 2, none⟩ = false := I1.out.wo.fr 2
  have I2 := Lib.hid I1.out.put_m
  go_upto_region 14 with fail
  clear x0 x1 x2 y2 f2 I1
  generalize (w2.setCell ⟨O, 2, none⟩ (.int .i64 o.m)) = w3 at I2 ⊢
  have IC : Hid (AlI w o A n m O cc none 0 0 w3) := Lib.hid (by have := I2.out; rw [← HCC.out] at this; exact this)
  clear I2
  have HB0 : Hid (b0 = true ↔ 0 ≤ o.n ∧ o.n ≤ 55) := Lib.hid (by rw [HB0.out, decide_eq_true_iff])
  cases b0
  case false =>
    have HQ : Hid (QU false o) := Lib.hid (⟨fun e => (by cases e), fun e => HB0.out.2 (HU.out.1 e).1⟩)
    have x0 : w3.cell? ⟨w.heap.size, 0, none⟩ = some (.int .i64 o.k) := IC.out.wb.cell 0
    go_upto_region 28 with fail
    have IZ := IC
    clear IC x0
    go_wp2_with (first
      | (refine wpList_load_row rfl 34 (.tmp 4) rfl O rfl 34 (oA cc none 0 0) (0, 0) _ IZ.out.wo Tryz.underlying34 rfl (info10 _ _ _ _) ?_)
      | (refine wpList_store_row rfl 34 (.tmp 2) (.tmp 101) rfl (w.heap.size + 1) (oA cc none 0 0) rfl rfl 34 (oA (zeroO 0 0) none 0 0) IZ.out.wr (info10 _ _ _ _) rfl (all10 _ _ _ _) ?_))
    refine bodyPost_ret (results_row2 rfl _ _ (w.heap.size + 1) 34 (oA cc none 0 0) (0, 0) _ rfl (setRow_heap _ _ _ _ _ _ IZ.out.wr) Tryz.underlying34 rfl (info10 _ _ _ _) (.bool false) rfl) rfl ?_
    exact alo_end HAL.out HQ.out HRI.out ⟨rfl, below_row IZ.out.bl (Nat.le_succ _) _⟩
  case true =>
    cases b1
    case false =>
      have HQ : Hid (QU false o) := Lib.hid (⟨fun e => (by cases e), fun e => HB1.out.2 (HU.out.1 e).2⟩)
      have x0 : w3.cell? ⟨w.heap.size, 0, none⟩ = some (.int .i64 o.k) := IC.out.wb.cell 0
      have x2 : w3.cell? ⟨w.heap.size, 2, none⟩ = some (.int .i64 o.m) := IC.out.wb.cell 2
      go_upto_region 28 with (first
        | (go_at_call 93; refine (IN1.out _).mono ?_; rintro e v ⟨rfl, rfl⟩; clear IN1))
      have IZ := IC
      clear IC x0 x2
      go_wp2_with (first
        | (refine wpList_load_row rfl 34 (.tmp 4) rfl O rfl 34 (oA cc none 0 0) (0, 0) _ IZ.out.wo Tryz.underlying34 rfl (info10 _ _ _ _) ?_)
        | (refine wpList_store_row rfl 34 (.tmp 2) (.tmp 101) rfl (w.heap.size + 1) (oA cc none 0 0) rfl rfl 34 (oA (zeroO 0 0) none 0 0) IZ.out.wr (info10 _ _ _ _) rfl (all10 _ _ _ _) ?_))
      refine bodyPost_ret (results_row2 rfl _ _ (w.heap.size + 1) 34 (oA cc none 0 0) (0, 0) _ rfl (setRow_heap _ _ _ _ _ _ IZ.out.wr) Tryz.underlying34 rfl (info10 _ _ _ _) (.bool false) rfl) rfl ?_
      exact alo_end HAL.out HQ.out HRI.out ⟨rfl, below_row IZ.out.bl (Nat.le_succ _) _⟩
    case true =>
      have HQ : Hid (QU true o) := Lib.hid (⟨fun _ => HU.out.2 ⟨HB0.out.1 rfl, HB1.out.1 rfl⟩, fun _ => rfl⟩)
      have x0 : w3.cell? ⟨w.heap.size, 0, none⟩ = some (.int .i64 o.k) := IC.out.wb.cell 0
      have x2 : w3.cell? ⟨w.heap.size, 2, none⟩ = some (.int .i64 o.m) := IC.out.wb.cell 2
      go_upto_region 28 with (first
        | (go_at_call 93; refine (IN1.out _).mono ?_; rintro e v ⟨rfl, rfl⟩; clear IN1))
      have IZ := IC
      clear IC x0 x2
      go_wp2_with (first
        | (refine wpList_load_row rfl 34 (.tmp 4) rfl O rfl 34 (oA cc none 0 0) (0, 0) _ IZ.out.wo Tryz.underlying34 rfl (info10 _ _ _ _) ?_)
        | (refine wpList_store_row rfl 34 (.tmp 2) (.tmp 101) rfl (w.heap.size + 1) (oA cc none 0 0) rfl rfl 34 (oA (zeroO 0 0) none 0 0) IZ.out.wr (info10 _ _ _ _) rfl (all10 _ _ _ _) ?_))
      refine bodyPost_ret (results_row2 rfl _ _ (w.heap.size + 1) 34 (oA cc none 0 0) (0, 0) _ rfl (setRow_heap _ _ _ _ _ _ IZ.out.wr) Tryz.underlying34 rfl (info10 _ _ _ _) (.bool true) rfl) rfl ?_
      exact alo_end HAL.out HQ.out HRI.out ⟨rfl, below_row IZ.out.bl (Nat.le_succ _) _⟩
set_option maxRecDepth 100000 in
set_option maxHeartbeats 8000000 in
theorem alone_7 (o : Ov) (A : Option Addr) (n m : Nat) (w : World) (h : OpIn w o A n m) (hk : o.k = 7) :
    Calls Tryz.prog 62 #[.agg (oA o A n m)] w fun e w' => AloR o w w' e := by
  have I0 := Lib.hid (al_start w o A n m)
  obtain ⟨cc, hcc⟩ : ∃ cc : Ov, cc = zeroO o.k o.n := ⟨_, rfl⟩
  have HAL : Hid (cc = aloneO o) := Lib.hid (by rw [hcc]; unfold aloneO; simp only [hk, Int.reduceEq, ↓reduceIte])
  have HCC := Lib.hid hcc
  clear hcc
  have HIN := Lib.hid h
  have HRI : Hid (OpIn w (aloneO o) none 0 0) := Lib.hid ⟨by rw [show (aloneO o).d = zeroD from by rw [← HAL.out, HCC.out]; rfl]; exact defAt_zeroO w, alone_z h.z⟩
  have HU : Hid (usedO o ↔ 0 ≤ o.n ∧ o.n ≤ 55) := Lib.hid (by unfold usedO nodeO; simp only [hk, Int.reduceEq, ↓reduceIte])
  have e1 : (o.k == 1) = false := by rw [hk]; rfl
  have e2 : (o.k == 2) = false := by rw [hk]; rfl
  have e3 : (o.k == 3) = false := by rw [hk]; rfl
  have e4 : (o.k == 4) = false := by rw [hk]; rfl
  have e5 : (o.k == 5) = false := by rw [hk]; rfl
  have e7 : (o.k == 7) = true := by rw [hk]; rfl
  have IN0 := fun W => in3_any o.n 0 55 W
  obtain ⟨b0, hb0⟩ : ∃ b, b = decide (0 ≤ o.n ∧ o.n ≤ 55) := ⟨_, rfl⟩
  rw [← hb0] at IN0
  have HB0 := Lib.hid hb0
  have IN0 := Lib.hid IN0
  clear hb0
  clear hk h
  go_enter Tryz.func62, Tryz.ntmps62
  go_upto_region 1 with fail
  rw [← zero10 0 0]
  generalize ((w.alloc (.cells (oA o A n m) 34)).alloc (.cells (oA (zeroO 0 0) none 0 0) 34)) = w1 at I0 ⊢
  have x0 : w1.cell? ⟨w.heap.size, 0, none⟩ = some (.int .i64 o.k) := I0.out.2.1.cell 0
  have x1 : w1.cell? ⟨w.heap.size, 1, none⟩ = some (.int .i64 o.n) := I0.out.2.1.cell 1
  have I1 := Lib.hid (AlI.new I0.out o.k o.n)
  go_upto_region 2 with (refine wpList_store_row rfl 34 (.tmp 4) (.tmp 10) rfl _ (oA (zeroO o.k o.n) none 0 0) rfl rfl 34 _ (heap_alloc_new _ _) (info10 _ _ _ _) rfl (all10 _ _ _ _) ?_; rw [World.setRow_alloc_new])
  clear x0 x1 I0
  generalize w1.alloc (.cells (oA (zeroO o.k o.n) none 0 0) 34) = w2 at I1 ⊢
  generalize w1.heap.size = O at I1 ⊢
  have x0 : w2.cell? ⟨w.heap.size, 0, none⟩ = some (.int .i64 o.k) := I1.out.wb.cell 0
  have x1 : w2.cell? ⟨w.heap.size, 1, none⟩ = some (.int .i64 o.n) := I1.out.wb.cell 1
  go_upto_region 3 with (go_at_call 93; refine (IN0.out _).mono ?_; rintro e v ⟨rfl, rfl⟩; clear IN0)
  have I2 := I1
  clear x0 x1 I1
  have IC : Hid (AlI w o A n m O cc none 0 0 w2) := Lib.hid (by have := I2.out; rw [← HCC.out] at this; exact this)
  clear I2
  have HB0 : Hid (b0 = true ↔ 0 ≤ o.n ∧ o.n ≤ 55) := Lib.hid (by rw [HB0.out, decide_eq_true_iff])
  cases b0
  case false =>
    have HQ : Hid (QU false o) := Lib.hid (⟨fun e => (by cases e), fun e => HB0.out.2 (HU.out.1 e)⟩)
    have x0 : w2.cell? ⟨w.heap.size, 0, none⟩ = some (.int .i64 o.k) := IC.out.wb.cell 0
    go_upto_region 28 with fail
    have IZ := IC
    clear IC x0
    go_wp2_with (first
      | (refine wpList_load_row rfl 34 (.tmp 4) rfl O rfl 34 (oA cc none 0 0) (0, 0) _ IZ.out.wo Tryz.underlying34 rfl (info10 _ _ _ _) ?_)
      | (refine wpList_store_row rfl 34 (.tmp 2) (.tmp 101) rfl (w.heap.size + 1) (oA cc none 0 0) rfl rfl 34 (oA (zeroO 0 0) none 0 0) IZ.out.wr (info10 _ _ _ _) rfl (all10 _ _ _ _) ?_))
    refine bodyPost_ret (results_row2 rfl _ _ (w.heap.size + 1) 34 (oA cc none 0 0) (0, 0) _ rfl (setRow_heap _ _ _ _ _ _ IZ.out.wr) Tryz.underlying34 rfl (info10 _ _ _ _) (.bool false) rfl) rfl ?_
    exact alo_end HAL.out HQ.out HRI.out ⟨rfl, below_row IZ.out.bl (Nat.le_succ _) _⟩
  case true =>
    have HQ : Hid (QU true o) := Lib.hid (⟨fun _ => HU.out.2 (HB0.out.1 rfl), fun _ => rfl⟩)
    have x0 : w2.cell? ⟨w.heap.size, 0, none⟩ = some (.int .i64 o.k) := IC.out.wb.cell 0
    go_upto_region 28 with fail
    have IZ := IC
    clear IC x0
    go_wp2_with (first
      | (refine wpList_load_row rfl 34 (.tmp 4) rfl O rfl 34 (oA cc none 0 0) (0, 0) _ IZ.out.wo Tryz.underlying34 rfl (info10 _ _ _ _) ?_)
      | (refine wpList_store_row rfl 34 (.tmp 2) (.tmp 101) rfl (w.heap.size + 1) (oA cc none 0 0) rfl rfl 34 (oA (zeroO 0 0) none 0 0) IZ.out.wr (info10 _ _ _ _) rfl (all10 _ _ _ _) ?_))
    refine bodyPost_ret (results_row2 rfl _ _ (w.heap.size + 1) 34 (oA cc none 0 0) (0, 0) _ rfl (setRow_heap _ _ _ _ _ _ IZ.out.wr) Tryz.underlying34 rfl (info10 _ _ _ _) (.bool true) rfl) rfl ?_
    exact alo_end HAL.out HQ.out HRI.out ⟨rfl, below_row IZ.out.bl (Nat.le_succ _) _⟩
set_option maxRecDepth 100000 in
set_option maxHeartbeats 8000000 in
theorem alone_8 (o : Ov) (A : Option Addr) (n m : Nat) (w : World) (h : OpIn w o A n m) (hk : o.k = 8) :
    Calls Tryz.prog 62 #[.agg (oA o A n m)] w fun e w' => AloR o w w' e := by
  have I0 := Lib.hid (al_start w o A n m)
  obtain ⟨cc, hcc⟩ : ∃ cc : Ov, cc = { zeroO o.k o.n with m := o.m, d := o.d } := ⟨_, rfl⟩
  have HAL : Hid (cc = aloneO o) := Lib.hid (by rw [hcc]; unfold aloneO; simp only [hk, Int.reduceEq, ↓reduceIte])
  have HCC := Lib.hid hcc
  clear hcc
  have HIN := Lib.hid h
  have HRI : Hid (OpIn w (aloneO o) A n m) := Lib.hid ⟨by rw [show (aloneO o).d = o.d from by rw [← HAL.out, HCC.out]]; exact h.d, alone_z h.z⟩
  have HU : Hid (usedO o ↔ (0 ≤ o.n ∧ o.n ≤ 55) ∧ (1 ≤ o.m ∧ o.m ≤ 9999) ∧ defOk o.d) := Lib.hid (by unfold usedO nodeO; simp only [hk, Int.reduceEq, ↓reduceIte])
  have e1 : (o.k == 1) = false := by rw [hk]; rfl
  have e2 : (o.k == 2) = false := by rw [hk]; rfl
  have e3 : (o.k == 3) = false := by rw [hk]; rfl
  have e4 : (o.k == 4) = false := by rw [hk]; rfl
  have e5 : (o.k == 5) = false := by rw [hk]; rfl
  have e7 : (o.k == 7) = false := by rw [hk]; rfl
  have e6 : (o.k == 6) = false := by rw [hk]; rfl
  have e8 : (o.k == 8) = true := by rw [hk]; rfl
  have IN0 := fun W => in3_any o.n 0 55 W
  obtain ⟨b0, hb0⟩ : ∃ b, b = decide (0 ≤ o.n ∧ o.n ≤ 55) := ⟨_, rfl⟩
  rw [← hb0] at IN0
  have HB0 := Lib.hid hb0
  have IN0 := Lib.hid IN0
  clear hb0
  have IN1 := fun W => in3_any o.m 1 9999 W
  obtain ⟨b1, hb1⟩ : ∃ b, b = decide (1 ≤ o.m ∧ o.m ≤ 9999) := ⟨_, rfl⟩
  rw [← hb1] at IN1
  have HB1 : Hid (b1 = true ↔ 1 ≤ o.m ∧ o.m ≤ 9999) := Lib.hid (by rw [hb1, decide_eq_true_iff])
  have IN1 := Lib.hid IN1
  clear hb1
  have IN2 := fun (W : World) (hb : Below w.heap.size w W) => defCheck_any o.d A n m W (h.d.keep hb)
  unfold dV at IN2
  obtain ⟨b2, hb2⟩ : ∃ b : Bool, (b = true ↔ defOk o.d) ∧ ckD o.d = (if b = true then 0 else 15) := by
    by_cases hd : defOk o.d
    · exact ⟨true, by simp [hd], by rw [ckD_yes hd]; rfl⟩
    · exact ⟨false, by simp [hd], by rw [ckD_no hd]; rfl⟩
  rw [hb2.2] at IN2
  have HB2 := Lib.hid hb2.1
  have IN2 := Lib.hid IN2
  clear hb2
  clear hk h
  go_enter Tryz.func62, Tryz.ntmps62
  go_upto_region 1 with fail
  rw [← zero10 0 0]
  generalize ((w.alloc (.cells (oA o A n m) 34)).alloc (.cells (oA (zeroO 0 0) none 0 0) 34)) = w1 at I0 ⊢
  have x0 : w1.cell? ⟨w.heap.size, 0, none⟩ = some (.int .i64 o.k) := I0.out.2.1.cell 0
  have x1 : w1.cell? ⟨w.heap.size, 1, none⟩ = some (.int .i64 o.n) := I0.out.2.1.cell 1
  have I1 := Lib.hid (AlI.new I0.out o.k o.n)
  go_upto_region 2 with (refine wpList_store_row rfl 34 (.tmp 4) (.tmp 10) rfl _ (oA (zeroO o.k o.n) none 0 0) rfl rfl 34 _ (heap_alloc_new _ _) (info10 _ _ _ _) rfl (all10 _ _ _ _) ?_; rw [World.setRow_alloc_new])
  clear x0 x1 I0
  generalize w1.alloc (.cells (oA (zeroO o.k o.n) none 0 0) 34) = w2 at I1 ⊢
  generalize w1.heap.size = O at I1 ⊢
  have x0 : w2.cell? ⟨w.heap.size, 0, none⟩ = some (.int .i64 o.k) := I1.out.wb.cell 0
  have x1 : w2.cell? ⟨w.heap.size, 1, none⟩ = some (.int .i64 o.n) := I1.out.wb.cell 1
  go_upto_region 3 with (go_at_call 93; refine (IN0.out _).mono ?_; rintro e v ⟨rfl, rfl⟩; clear IN0)
  go_upto_region 16 with fail
  clear x0 x1
  have ID := Lib.hid (I1.out.keep (Below.refl _ _).drew)
  have SA : Hid (w2.drew.cell? ⟨w.heap.size, 2, none⟩ = some (.int .i64 o.m) ∧ w2.drew.cell? ⟨w.heap.size, 6, none⟩ = some (.string o.d.n) ∧ w2.drew.cell? ⟨w.heap.size, 7, none⟩ = some (.int .i64 o.d.r) ∧ w2.drew.cell? ⟨w.heap.size, 8, none⟩ = some (.int .i64 o.d.dl) ∧ w2.drew.cell? ⟨w.heap.size, 9, none⟩ = some (.slice A n m)) := Lib.hid ⟨ID.out.wb.cell 2, ID.out.wb.cell 6, ID.out.wb.cell 7, ID.out.wb.cell 8, ID.out.wb.cell 9⟩
  refine wp_region_held_drew (S := fun wx => wx.cell? ⟨w.heap.size, 2, none⟩ = some (.int .i64 o.m) ∧ wx.cell? ⟨w.heap.size, 6, none⟩ = some (.string o.d.n) ∧ wx.cell? ⟨w.heap.size, 7, none⟩ = some (.int .i64 o.d.r) ∧ wx.cell? ⟨w.heap.size, 8, none⟩ = some (.int .i64 o.d.dl) ∧ wx.cell? ⟨w.heap.size, 9, none⟩ = some (.slice A n m)) (by kernel_rfl) SA.out (fun hHeld => ?_)
  clear SA I1
  generalize w2.drew = wd at hHeld ID ⊢
  have y2 : wd.cell? ⟨O, 2, none⟩ = some (.int .i64 0) := ID.out.wo.cell 2
  have f2 : wd.frozen? ⟨O, 2, none⟩ = false := ID.out.wo.fr 2
  have y6 : wd.cell? ⟨O, 6, none⟩ = some (.string ⟨#[]⟩) := ID.out.wo.cell 6
  have f6 : wd.frozen? ⟨O, 6, none⟩ = false := ID.out.wo.fr 6
  have y7 : wd.cell? ⟨O, 7, none⟩ = some (.int .i64 0) := ID.out.wo.cell 7
  have f7 : wd.frozen? ⟨O, 7, none⟩ = false := ID.out.wo.fr 7
  have y8 : wd.cell? ⟨O, 8, none⟩ = some (.int .i64 0) := ID.out.wo.cell 8
  have f8 : wd.frozen? ⟨O, 8, none⟩ = false := ID.out.wo.fr 8
  have y9 : wd.cell? ⟨O, 9, none⟩ = some (.slice none 0 0) := ID.out.wo.cell 9
  have f9 : wd.frozen? ⟨O, 9, none⟩ = false := ID.out.wo.fr 9
  have HO : Hid (w.heap.size ≠ O) := Lib.hid (by have := ID.out.o; omega)
  have hne : w.heap.size ≠ O := HO.out
  have hne2 : ¬ (O = w.heap.size) := fun e => HO.out e.symm
  refine wpAnyH_take (i := 0) (v := ?_) rfl (by kernel_rfl) (by kernel_rfl) (by kernel_rfl) (fun _ _ _ h => h) (Or.inl ⟨by rfl, ?_⟩) (by assumption) ?_
  rotate_left
  · intro w hSw
    go_simp
    try with_reducible rfl
  simp only [Act.put, List.getElem_toArray, List.getElem_cons_zero, List.setIfInBounds_toArray, List.set_cons_zero, List.set_cons_succ]
  refine wpAnyH_take (i := 1) (v := ?_) rfl (by kernel_rfl) (by kernel_rfl) (by kernel_rfl) (fun _ _ _ h => h) (Or.inl ⟨by rfl, ?_⟩) (by assumption) ?_
  rotate_left
  · intro w hSw
    go_simp
    try with_reducible rfl
  simp only [Act.put, List.getElem_toArray, List.getElem_cons_succ, List.getElem_cons_zero, List.setIfInBounds_toArray, List.set_cons_zero, List.set_cons_succ]
  refine wpAnyH_take (i := 2) (v := ?_) rfl (by kernel_rfl) (by kernel_rfl) (by kernel_rfl) (fun _ _ _ h => h) (Or.inl ⟨by rfl, ?_⟩) (by assumption) ?_
  rotate_left
  · intro w hSw
    go_simp
    try with_reducible rfl
  simp only [Act.put, List.getElem_toArray, List.getElem_cons_succ, List.getElem_cons_zero, List.setIfInBounds_toArray, List.set_cons_zero, List.set_cons_succ]
  refine wpAnyH_take (i := 3) (v := ?_) rfl (by kernel_rfl) (by kernel_rfl) (by kernel_rfl) (fun _ _ _ h => h) (Or.inl ⟨by rfl, ?_⟩) (by assumption) ?_
  rotate_left
  · intro w hSw
    go_simp
    try with_reducible rfl
  simp only [Act.put, List.getElem_toArray, List.getElem_cons_succ, List.getElem_cons_zero, List.setIfInBounds_toArray, List.set_cons_zero, List.set_cons_succ]
  refine wpAnyH_take (i := 4) (v := ?_) rfl (by kernel_rfl) (by kernel_rfl) (by kernel_rfl) (fun _ _ _ h => h) (Or.inl ⟨by rfl, ?_⟩) (by assumption) ?_
  rotate_left
  · intro w hSw
    go_simp
    try with_reducible rfl
  simp only [Act.put, List.getElem_toArray, List.getElem_cons_succ, List.getElem_cons_zero, List.setIfInBounds_toArray, List.set_cons_zero, List.set_cons_succ]
  refine wpAnyH_ready (rs := [5]) (by kernel_rfl) (by simp) ?_
  refine AllReadyH.cons rfl (fun K hK => ?_) AllReadyH.nil
  go_simp
  refine hK.out _ _ ?_ (fun hHeld' => ?_)
  · simpa [go_sem, hne, hne2] using hHeld
  clear hK K hHeld
  have hHeld := hHeld'
  clear hHeld'
  try simp only [Act.put, List.getElem_toArray, List.getElem_cons_succ, List.getElem_cons_zero]
  refine wpAnyH_take (i := 6) (v := ?_) rfl (by kernel_rfl) (by kernel_rfl) (by kernel_rfl) (fun _ _ _ h => h) (Or.inl ⟨by rfl, ?_⟩) (by assumption) ?_
  rotate_left
  · intro w hSw
    go_simp
    try with_reducible rfl
  simp only [Act.put, List.getElem_toArray, List.getElem_cons_succ, List.getElem_cons_zero, List.setIfInBounds_toArray, List.set_cons_zero, List.set_cons_succ]
  refine wpAnyH_ready (rs := [7]) (by kernel_rfl) (by simp) ?_
  refine AllReadyH.cons rfl (fun K hK => ?_) AllReadyH.nil
  go_simp
  refine hK.out _ _ ?_ (fun hHeld' => ?_)
  · simpa [go_sem, hne, hne2] using hHeld
  clear hK K hHeld
  have hHeld := hHeld'
  clear hHeld'
  try simp only [Act.put, List.getElem_toArray, List.getElem_cons_succ, List.getElem_cons_zero]
  refine wpAnyH_done (by kernel_rfl) ?_ _
  have IC := ID.out.put_m.put_def
  clear y2 f2 y6 f6 y7 f7 y8 f8 y9 f9 ID hne hne2 hHeld
  generalize (((((wd.setCell ⟨O, 2, none⟩ (.int .i64 o.m)).setCell ⟨O, 6, none⟩ (.string o.d.n)).setCell ⟨O, 7, none⟩ (.int .i64 o.d.r)).setCell ⟨O, 8, none⟩ (.int .i64 o.d.dl)).setCell ⟨O, 9, none⟩ (.slice A n m)) = w3 at IC ⊢
  have I2 := Lib.hid IC
  clear IC
  have IC : Hid (AlI w o A n m O cc A n m w3) := Lib.hid (by have := I2.out; rw [← HCC.out] at this; exact this)
  clear I2
  have HB0 : Hid (b0 = true ↔ 0 ≤ o.n ∧ o.n ≤ 55) := Lib.hid (by rw [HB0.out, decide_eq_true_iff])
  cases b0
  case false =>
    have HQ : Hid (QU false o) := Lib.hid (⟨fun e => (by cases e), fun e => HB0.out.2 (HU.out.1 e).1⟩)
    have x0 : w3.cell? ⟨w.heap.size, 0, none⟩ = some (.int .i64 o.k) := IC.out.wb.cell 0
    go_upto_region 28 with fail
    have IZ := IC
    clear IC x0
    go_wp2_with (first
      | (refine wpList_load_row rfl 34 (.tmp 4) rfl O rfl 34 (oA cc A n m) (0, 0) _ IZ.out.wo Tryz.underlying34 rfl (info10 _ _ _ _) ?_)
      | (refine wpList_store_row rfl 34 (.tmp 2) (.tmp 101) rfl (w.heap.size + 1) (oA cc A n m) rfl rfl 34 (oA (zeroO 0 0) none 0 0) IZ.out.wr (info10 _ _ _ _) rfl (all10 _ _ _ _) ?_))
    refine bodyPost_ret (results_row2 rfl _ _ (w.heap.size + 1) 34 (oA cc A n m) (0, 0) _ rfl (setRow_heap _ _ _ _ _ _ IZ.out.wr) Tryz.underlying34 rfl (info10 _ _ _ _) (.bool false) rfl) rfl ?_
    exact alo_end HAL.out HQ.out HRI.out ⟨rfl, below_row IZ.out.bl (Nat.le_succ _) _⟩
  case true =>
    cases b1
    case false =>
      have HQ : Hid (QU false o) := Lib.hid (⟨fun e => (by cases e), fun e => HB1.out.2 (HU.out.1 e).2.1⟩)
      have x0 : w3.cell? ⟨w.heap.size, 0, none⟩ = some (.int .i64 o.k) := IC.out.wb.cell 0
      have x2 : w3.cell? ⟨w.heap.size, 2, none⟩ = some (.int .i64 o.m) := IC.out.wb.cell 2
      go_upto_region 28 with (first
        | (go_at_call 93; refine (IN1.out _).mono ?_; rintro e v ⟨rfl, rfl⟩; clear IN1))
      have IZ := IC
      clear IC x0 x2
      go_wp2_with (first
        | (refine wpList_load_row rfl 34 (.tmp 4) rfl O rfl 34 (oA cc A n m) (0, 0) _ IZ.out.wo Tryz.underlying34 rfl (info10 _ _ _ _) ?_)
        | (refine wpList_store_row rfl 34 (.tmp 2) (.tmp 101) rfl (w.heap.size + 1) (oA cc A n m) rfl rfl 34 (oA (zeroO 0 0) none 0 0) IZ.out.wr (info10 _ _ _ _) rfl (all10 _ _ _ _) ?_))
      refine bodyPost_ret (results_row2 rfl _ _ (w.heap.size + 1) 34 (oA cc A n m) (0, 0) _ rfl (setRow_heap _ _ _ _ _ _ IZ.out.wr) Tryz.underlying34 rfl (info10 _ _ _ _) (.bool false) rfl) rfl ?_
      exact alo_end HAL.out HQ.out HRI.out ⟨rfl, below_row IZ.out.bl (Nat.le_succ _) _⟩
    case true =>
      cases b2
      case false =>
        have HQ : Hid (QU false o) := Lib.hid (⟨fun e => (by cases e), fun e => HB2.out.2 (HU.out.1 e).2.2⟩)
        have x0 : w3.cell? ⟨w.heap.size, 0, none⟩ = some (.int .i64 o.k) := IC.out.wb.cell 0
        have x2 : w3.cell? ⟨w.heap.size, 2, none⟩ = some (.int .i64 o.m) := IC.out.wb.cell 2
        have x6 : w3.cell? ⟨w.heap.size, 6, none⟩ = some (.string o.d.n) := IC.out.wb.cell 6
        have x7 : w3.cell? ⟨w.heap.size, 7, none⟩ = some (.int .i64 o.d.r) := IC.out.wb.cell 7
        have x8 : w3.cell? ⟨w.heap.size, 8, none⟩ = some (.int .i64 o.d.dl) := IC.out.wb.cell 8
        have x9 : w3.cell? ⟨w.heap.size, 9, none⟩ = some (.slice A n m) := IC.out.wb.cell 9
        go_upto_region 28 with (first
          | (go_at_call 93; refine (IN1.out _).mono ?_; rintro e v ⟨rfl, rfl⟩; clear IN1)
          | (go_at_call 87; refine (IN2.out _ IC.out.bl).mono ?_; rintro e w4 ⟨rfl, hb⟩; have IZ := Lib.hid (IC.out.keep hb); clear hb IN2))
        clear IC x0 x2 x6 x7 x8 x9
        go_wp2_with (first
          | (refine wpList_load_row rfl 34 (.tmp 4) rfl O rfl 34 (oA cc A n m) (0, 0) _ IZ.out.wo Tryz.underlying34 rfl (info10 _ _ _ _) ?_)
          | (refine wpList_store_row rfl 34 (.tmp 2) (.tmp 101) rfl (w.heap.size + 1) (oA cc A n m) rfl rfl 34 (oA (zeroO 0 0) none 0 0) IZ.out.wr (info10 _ _ _ _) rfl (all10 _ _ _ _) ?_))
        refine bodyPost_ret (results_row2 rfl _ _ (w.heap.size + 1) 34 (oA cc A n m) (0, 0) _ rfl (setRow_heap _ _ _ _ _ _ IZ.out.wr) Tryz.underlying34 rfl (info10 _ _ _ _) (.bool false) rfl) rfl ?_
        exact alo_end HAL.out HQ.out HRI.out ⟨rfl, below_row IZ.out.bl (Nat.le_succ _) _⟩
      case true =>
        have HQ : Hid (QU true o) := Lib.hid (⟨fun _ => HU.out.2 ⟨HB0.out.1 rfl, HB1.out.1 rfl, HB2.out.1 rfl⟩, fun _ => rfl⟩)
        have x0 : w3.cell? ⟨w.heap.size, 0, none⟩ = some (.int .i64 o.k) := IC.out.wb.cell 0
        have x2 : w3.cell? ⟨w.heap.size, 2, none⟩ = some (.int .i64 o.m) := IC.out.wb.cell 2
        have x6 : w3.cell? ⟨w.heap.size, 6, none⟩ = some (.string o.d.n) := IC.out.wb.cell 6
        have x7 : w3.cell? ⟨w.heap.size, 7, none⟩ = some (.int .i64 o.d.r) := IC.out.wb.cell 7
        have x8 : w3.cell? ⟨w.heap.size, 8, none⟩ = some (.int .i64 o.d.dl) := IC.out.wb.cell 8
        have x9 : w3.cell? ⟨w.heap.size, 9, none⟩ = some (.slice A n m) := IC.out.wb.cell 9
        go_upto_region 28 with (first
          | (go_at_call 93; refine (IN1.out _).mono ?_; rintro e v ⟨rfl, rfl⟩; clear IN1)
          | (go_at_call 87; refine (IN2.out _ IC.out.bl).mono ?_; rintro e w4 ⟨rfl, hb⟩; have IZ := Lib.hid (IC.out.keep hb); clear hb IN2))
        clear IC x0 x2 x6 x7 x8 x9
        go_wp2_with (first
          | (refine wpList_load_row rfl 34 (.tmp 4) rfl O rfl 34 (oA cc A n m) (0, 0) _ IZ.out.wo Tryz.underlying34 rfl (info10 _ _ _ _) ?_)
          | (refine wpList_store_row rfl 34 (.tmp 2) (.tmp 101) rfl (w.heap.size + 1) (oA cc A n m) rfl rfl 34 (oA (zeroO 0 0) none 0 0) IZ.out.wr (info10 _ _ _ _) rfl (all10 _ _ _ _) ?_))
        refine bodyPost_ret (results_row2 rfl _ _ (w.heap.size + 1) 34 (oA cc A n m) (0, 0) _ rfl (setRow_heap _ _ _ _ _ _ IZ.out.wr) Tryz.underlying34 rfl (info10 _ _ _ _) (.bool true) rfl) rfl ?_
        exact alo_end HAL.out HQ.out HRI.out ⟨rfl, below_row IZ.out.bl (Nat.le_succ _) _⟩
set_option maxRecDepth 100000 in
set_option maxHeartbeats 8000000 in
theorem alone_9 (o : Ov) (A : Option Addr) (n m : Nat) (w : World) (h : OpIn w o A n m) (hk : o.k = 9) :
    Calls Tryz.prog 62 #[.agg (oA o A n m)] w fun e w' => AloR o w w' e := by
  have I0 := Lib.hid (al_start w o A n m)
  obtain ⟨cc, hcc⟩ : ∃ cc : Ov, cc = { zeroO o.k o.n with m := o.m } := ⟨_, rfl⟩
  have HAL : Hid (cc = aloneO o) := Lib.hid (by rw [hcc]; unfold aloneO; simp only [hk, Int.reduceEq, ↓reduceIte])
  have HCC := Lib.hid hcc
  clear hcc
  have HIN := Lib.hid h
  have HRI : Hid (OpIn w (aloneO o) none 0 0) := Lib.hid ⟨by rw [show (aloneO o).d = zeroD from by rw [← HAL.out, HCC.out]; rfl]; exact defAt_zeroO w, alone_z h.z⟩
  have HU : Hid (usedO o ↔ (0 ≤ o.n ∧ o.n ≤ 55) ∧ 1 ≤ o.m ∧ o.m ≤ 9999) := Lib.hid (by unfold usedO nodeO; simp only [hk, Int.reduceEq, ↓reduceIte])
  have e1 : (o.k == 1) = false := by rw [hk]; rfl
  have e2 : (o.k == 2) = false := by rw [hk]; rfl
  have e3 : (o.k == 3) = false := by rw [hk]; rfl
  have e4 : (o.k == 4) = false := by rw [hk]; rfl
  have e5 : (o.k == 5) = false := by rw [hk]; rfl
  have e7 : (o.k == 7) = false := by rw [hk]; rfl
  have e6 : (o.k == 6) = false := by rw [hk]; rfl
  have e8 : (o.k == 8) = false := by rw [hk]; rfl
  have e9 : (o.k == 9) = true := by rw [hk]; rfl
  have IN0 := fun W => in3_any o.n 0 55 W
  obtain ⟨b0, hb0⟩ : ∃ b, b = decide (0 ≤ o.n ∧ o.n ≤ 55) := ⟨_, rfl⟩
  rw [← hb0] at IN0
  have HB0 := Lib.hid hb0
  have IN0 := Lib.hid IN0
  clear hb0
  have IN1 := fun W => in3_any o.m 1 9999 W
  obtain ⟨b1, hb1⟩ : ∃ b, b = decide (1 ≤ o.m ∧ o.m ≤ 9999) := ⟨_, rfl⟩
  rw [← hb1] at IN1
  have HB1 : Hid (b1 = true ↔ 1 ≤ o.m ∧ o.m ≤ 9999) := Lib.hid (by rw [hb1, decide_eq_true_iff])
  have IN1 := Lib.hid IN1
  clear hb1
  clear hk h
  go_enter Tryz.func62, Tryz.ntmps62
  go_upto_region 1 with fail
  rw [← zero10 0 0]
  generalize ((w.alloc (.cells (oA o A n m) 34)).alloc (.cells (oA (zeroO 0 0) none 0 0) 34)) = w1 at I0 ⊢
  have x0 : w1.cell? ⟨w.heap.size, 0, none⟩ = some (.int .i64 o.k) := I0.out.2.1.cell 0
  have x1 : w1.cell? ⟨w.heap.size, 1, none⟩ = some (.int .i64 o.n) := I0.out.2.1.cell 1
  have I1 := Lib.hid (AlI.new I0.out o.k o.n)
  go_upto_region 2 with (refine wpList_store_row rfl 34 (.tmp 4) (.tmp 10) rfl _ (oA (zeroO o.k o.n) none 0 0) rfl rfl 34 _ (heap_alloc_new _ _) (info10 _ _ _ _) rfl (all10 _ _ _ _) ?_; rw [World.setRow_alloc_new])
  clear x0 x1 I0
  generalize w1.alloc (.cells (oA (zeroO o.k o.n) none 0 0) 34) = w2 at I1 ⊢
  generalize w1.heap.size = O at I1 ⊢
  have x0 : w2.cell? ⟨w.heap.size, 0, none⟩ = some (.int .i64 o.k) := I1.out.wb.cell 0
  have x1 : w2.cell? ⟨w.heap.size, 1, none⟩ = some (.int .i64 o.n) := I1.out.wb.cell 1
  go_upto_region 3 with (go_at_call 93; refine (IN0.out _).mono ?_; rintro e v ⟨rfl, rfl⟩; clear IN0)
  have x2 : w2.cell? ⟨w.heap.size, 2, none⟩ = some (.int .i64 o.m) := I1.out.wb.cell 2
  have y2 : w2.cell? ⟨O, 2, none⟩ = some (.int .i64 0) := I1.out.wo.cell 2
  have f2 : w2.frozen? ⟨O, 2, none⟩ = false := I1.out.wo.fr 2
  have I2 := Lib.hid I1.out.put_m
  go_upto_region 21 with fail
  clear x0 x1 x2 y2 f2 I1
  generalize (w2.setCell ⟨O, 2, none⟩ (.int .i64 o.m)) = w3 at I2 ⊢
  have IC : Hid (AlI w o A n m O cc none 0 0 w3) := Lib.hid (by have := I2.out; rw [← HCC.out] at this; exact this)
  clear I2
  have HB0 : Hid (b0 = true ↔ 0 ≤ o.n ∧ o.n ≤ 55) := Lib.hid (by rw [HB0.out, decide_eq_true_iff])
  cases b0
  case false =>
    have HQ : Hid (QU false o) := Lib.hid (⟨fun e => (by cases e), fun e => HB0.out.2 (HU.out.1 e).1⟩)
    have x0 : w3.cell? ⟨w.heap.size, 0, none⟩ = some (.int .i64 o.k) := IC.out.wb.cell 0
    go_upto_region 28 with fail
    have IZ := IC
    clear IC x0
    go_wp2_with (first
      | (refine wpList_load_row rfl 34 (.tmp 4) rfl O rfl 34 (oA cc none 0 0) (0, 0) _ IZ.out.wo Tryz.underlying34 rfl (info10 _ _ _ _) ?_)
      | (refine wpList_store_row rfl 34 (.tmp 2) (.tmp 101) rfl (w.heap.size + 1) (oA cc none 0 0) rfl rfl 34 (oA (zeroO 0 0) none 0 0) IZ.out.wr (info10 _ _ _ _) rfl (all10 _ _ _ _) ?_))
    refine bodyPost_ret (results_row2 rfl _ _ (w.heap.size + 1) 34 (oA cc none 0 0) (0, 0) _ rfl (setRow_heap _ _ _ _ _ _ IZ.out.wr) Tryz.underlying34 rfl (info10 _ _ _ _) (.bool false) rfl) rfl ?_
    exact alo_end HAL.out HQ.out HRI.out ⟨rfl, below_row IZ.out.bl (Nat.le_succ _) _⟩
  case true =>
    cases b1
    case false =>
      have HQ : Hid (QU false o) := Lib.hid (⟨fun e => (by cases e), fun e => HB1.out.2 (HU.out.1 e).2⟩)
      have x0 : w3.cell? ⟨w.heap.size, 0, none⟩ = some (.int .i64 o.k) := IC.out.wb.cell 0
      have x2 : w3.cell? ⟨w.heap.size, 2, none⟩ = some (.int .i64 o.m) := IC.out.wb.cell 2
      go_upto_region 28 with (first
        | (go_at_call 93; refine (IN1.out _).mono ?_; rintro e v ⟨rfl, rfl⟩; clear IN1))
      have IZ := IC
      clear IC x0 x2
      go_wp2_with (first
        | (refine wpList_load_row rfl 34 (.tmp 4) rfl O rfl 34 (oA cc none 0 0) (0, 0) _ IZ.out.wo Tryz.underlying34 rfl (info10 _ _ _ _) ?_)
        | (refine wpList_store_row rfl 34 (.tmp 2) (.tmp 101) rfl (w.heap.size + 1) (oA cc none 0 0) rfl rfl 34 (oA (zeroO 0 0) none 0 0) IZ.out.wr (info10 _ _ _ _) rfl (all10 _ _ _ _) ?_))
      refine bodyPost_ret (results_row2 rfl _ _ (w.heap.size + 1) 34 (oA cc none 0 0) (0, 0) _ rfl (setRow_heap _ _ _ _ _ _ IZ.out.wr) Tryz.underlying34 rfl (info10 _ _ _ _) (.bool false) rfl) rfl ?_
      exact alo_end HAL.out HQ.out HRI.out ⟨rfl, below_row IZ.out.bl (Nat.le_succ _) _⟩
    case true =>
      have HQ : Hid (QU true o) := Lib.hid (⟨fun _ => HU.out.2 ⟨HB0.out.1 rfl, HB1.out.1 rfl⟩, fun _ => rfl⟩)
      have x0 : w3.cell? ⟨w.heap.size, 0, none⟩ = some (.int .i64 o.k) := IC.out.wb.cell 0
      have x2 : w3.cell? ⟨w.heap.size, 2, none⟩ = some (.int .i64 o.m) := IC.out.wb.cell 2
      go_upto_region 28 with (first
        | (go_at_call 93; refine (IN1.out _).mono ?_; rintro e v ⟨rfl, rfl⟩; clear IN1))
      have IZ := IC
      clear IC x0 x2
      go_wp2_with (first
        | (refine wpList_load_row rfl 34 (.tmp 4) rfl O rfl 34 (oA cc none 0 0) (0, 0) _ IZ.out.wo Tryz.underlying34 rfl (info10 _ _ _ _) ?_)
        | (refine wpList_store_row rfl 34 (.tmp 2) (.tmp 101) rfl (w.heap.size + 1) (oA cc none 0 0) rfl rfl 34 (oA (zeroO 0 0) none 0 0) IZ.out.wr (info10 _ _ _ _) rfl (all10 _ _ _ _) ?_))
      refine bodyPost_ret (results_row2 rfl _ _ (w.heap.size + 1) 34 (oA cc none 0 0) (0, 0) _ rfl (setRow_heap _ _ _ _ _ _ IZ.out.wr) Tryz.underlying34 rfl (info10 _ _ _ _) (.bool true) rfl) rfl ?_
      exact alo_end HAL.out HQ.out HRI.out ⟨rfl, below_row IZ.out.bl (Nat.le_succ _) _⟩
set_option maxRecDepth 100000 in
set_option maxHeartbeats 8000000 in
theorem alone_10 (o : Ov) (A : Option Addr) (n m : Nat) (w : World) (h : OpIn w o A n m) (hk : o.k = 10) :
    Calls Tryz.prog 62 #[.agg (oA o A n m)] w fun e w' => AloR o w w' e := by
  have I0 := Lib.hid (al_start w o A n m)
  obtain ⟨cc, hcc⟩ : ∃ cc : Ov, cc = { zeroO o.k o.n with m := o.m } := ⟨_, rfl⟩
  have HAL : Hid (cc = aloneO o) := Lib.hid (by rw [hcc]; unfold aloneO; simp only [hk, Int.reduceEq, ↓reduceIte])
  have HCC := Lib.hid hcc
  clear hcc
  have HIN := Lib.hid h
  have HRI : Hid (OpIn w (aloneO o) none 0 0) := Lib.hid ⟨by rw [show (aloneO o).d = zeroD from by rw [← HAL.out, HCC.out]; rfl]; exact defAt_zeroO w, alone_z h.z⟩
  have HU : Hid (usedO o ↔ (0 ≤ o.n ∧ o.n ≤ 55) ∧ 1 ≤ o.m ∧ o.m ≤ 9999) := Lib.hid (by unfold usedO nodeO; simp only [hk, Int.reduceEq, ↓reduceIte])
  have e1 : (o.k == 1) = false := by rw [hk]; rfl
  have e2 : (o.k == 2) = false := by rw [hk]; rfl
  have e3 : (o.k == 3) = false := by rw [hk]; rfl
  have e4 : (o.k == 4) = false := by rw [hk]; rfl
  have e5 : (o.k == 5) = false := by rw [hk]; rfl
  have e7 : (o.k == 7) = false := by rw [hk]; rfl
  have e6 : (o.k == 6) = false := by rw [hk]; rfl
  have e8 : (o.k == 8) = false := by rw [hk]; rfl
  have e9 : (o.k == 9) = false := by rw [hk]; rfl
  have e10 : (o.k == 10) = true := by rw [hk]; rfl
  have IN0 := fun W => in3_any o.n 0 55 W
  obtain ⟨b0, hb0⟩ : ∃ b, b = decide (0 ≤ o.n ∧ o.n ≤ 55) := ⟨_, rfl⟩
  rw [← hb0] at IN0
  have HB0 := Lib.hid hb0
  have IN0 := Lib.hid IN0
  clear hb0
  have IN1 := fun W => in3_any o.m 1 9999 W
  obtain ⟨b1, hb1⟩ : ∃ b, b = decide (1 ≤ o.m ∧ o.m ≤ 9999) := ⟨_, rfl⟩
  rw [← hb1] at IN1
  have HB1 : Hid (b1 = true ↔ 1 ≤ o.m ∧ o.m ≤ 9999) := Lib.hid (by rw [hb1, decide_eq_true_iff])
  have IN1 := Lib.hid IN1
  clear hb1
  clear hk h
  go_enter Tryz.func62, Tryz.ntmps62
  go_upto_region 1 with fail
  rw [← zero10 0 0]
  generalize ((w.alloc (.cells (oA o A n m) 34)).alloc (.cells (oA (zeroO 0 0) none 0 0) 34)) = w1 at I0 ⊢
  have x0 : w1.cell? ⟨w.heap.size, 0, none⟩ = some (.int .i64 o.k) := I0.out.2.1.cell 0
  have x1 : w1.cell? ⟨w.heap.size, 1, none⟩ = some (.int .i64 o.n) := I0.out.2.1.cell 1
  have I1 := Lib.hid (AlI.new I0.out o.k o.n)
  go_upto_region 2 with (refine wpList_store_row rfl 34 (.tmp 4) (.tmp 10) rfl _ (oA (zeroO o.k o.n) none 0 0) rfl rfl 34 _ (heap_alloc_new _ _) (info10 _ _ _ _) rfl (all10 _ _ _ _) ?_; rw [World.setRow_alloc_new])
  clear x0 x1 I0
  generalize w1.alloc (.cells (oA (zeroO o.k o.n) none 0 0) 34) = w2 at I1 ⊢
  generalize w1.heap.size = O at I1 ⊢
  have x0 : w2.cell? ⟨w.heap.size, 0, none⟩ = some (.int .i64 o.k) := I1.out.wb.cell 0
  have x1 : w2.cell? ⟨w.heap.size, 1, none⟩ = some (.int .i64 o.n) := I1.out.wb.cell 1
  go_upto_region 3 with (go_at_call 93; refine (IN0.out _).mono ?_; rintro e v ⟨rfl, rfl⟩; clear IN0)
  have x2 : w2.cell? ⟨w.heap.size, 2, none⟩ = some (.int .i64 o.m) := I1.out.wb.cell 2
  have y2 : w2.cell? ⟨O, 2, none⟩ = some (.int .i64 0) := I1.out.wo.cell 2
  have f2 : w2.frozen? ⟨O, 2, none⟩ = false := I1.out.wo.fr 2
  have I2 := Lib.hid I1.out.put_m
  go_upto_region 21 with fail
  clear x0 x1 x2 y2 f2 I1
  generalize (w2.setCell ⟨O, 2, none⟩ (.int .i64 o.m)) = w3 at I2 ⊢
  have IC : Hid (AlI w o A n m O cc none 0 0 w3) := Lib.hid (by have := I2.out; rw [← HCC.out] at this; exact this)
  clear I2
  have HB0 : Hid (b0 = true ↔ 0 ≤ o.n ∧ o.n ≤ 55) := Lib.hid (by rw [HB0.out, decide_eq_true_iff])
  cases b0
  case false =>
    have HQ : Hid (QU false o) := Lib.hid (⟨fun e => (by cases e), fun e => HB0.out.2 (HU.out.1 e).1⟩)
    have x0 : w3.cell? ⟨w.heap.size, 0, none⟩ = some (.int .i64 o.k) := IC.out.wb.cell 0
    go_upto_region 28 with fail
    have IZ := IC
    clear IC x0
    go_wp2_with (first
      | (refine wpList_load_row rfl 34 (.tmp 4) rfl O rfl 34 (oA cc none 0 0) (0, 0) _ IZ.out.wo Tryz.underlying34 rfl (info10 _ _ _ _) ?_)
      | (refine wpList_store_row rfl 34 (.tmp 2) (.tmp 101) rfl (w.heap.size + 1) (oA cc none 0 0) rfl rfl 34 (oA (zeroO 0 0) none 0 0) IZ.out.wr (info10 _ _ _ _) rfl (all10 _ _ _ _) ?_))
    refine bodyPost_ret (results_row2 rfl _ _ (w.heap.size + 1) 34 (oA cc none 0 0) (0, 0) _ rfl (setRow_heap _ _ _ _ _ _ IZ.out.wr) Tryz.underlying34 rfl (info10 _ _ _ _) (.bool false) rfl) rfl ?_
    exact alo_end HAL.out HQ.out HRI.out ⟨rfl, below_row IZ.out.bl (Nat.le_succ _) _⟩
  case true =>
    cases b1
    case false =>
      have HQ : Hid (QU false o) := Lib.hid (⟨fun e => (by cases e), fun e => HB1.out.2 (HU.out.1 e).2⟩)
      have x0 : w3.cell? ⟨w.heap.size, 0, none⟩ = some (.int .i64 o.k) := IC.out.wb.cell 0
      have x2 : w3.cell? ⟨w.heap.size, 2, none⟩ = some (.int .i64 o.m) := IC.out.wb.cell 2
      go_upto_region 28 with (first
        | (go_at_call 93; refine (IN1.out _).mono ?_; rintro e v ⟨rfl, rfl⟩; clear IN1))
      have IZ := IC
      clear IC x0 x2
      go_wp2_with (first
        | (refine wpList_load_row rfl 34 (.tmp 4) rfl O rfl 34 (oA cc none 0 0) (0, 0) _ IZ.out.wo Tryz.underlying34 rfl (info10 _ _ _ _) ?_)
        | (refine wpList_store_row rfl 34 (.tmp 2) (.tmp 101) rfl (w.heap.size + 1) (oA cc none 0 0) rfl rfl 34 (oA (zeroO 0 0) none 0 0) IZ.out.wr (info10 _ _ _ _) rfl (all10 _ _ _ _) ?_))
      refine bodyPost_ret (results_row2 rfl _ _ (w.heap.size + 1) 34 (oA cc none 0 0) (0, 0) _ rfl (setRow_heap _ _ _ _ _ _ IZ.out.wr) Tryz.underlying34 rfl (info10 _ _ _ _) (.bool false) rfl) rfl ?_
      exact alo_end HAL.out HQ.out HRI.out ⟨rfl, below_row IZ.out.bl (Nat.le_succ _) _⟩
    case true =>
      have HQ : Hid (QU true o) := Lib.hid (⟨fun _ => HU.out.2 ⟨HB0.out.1 rfl, HB1.out.1 rfl⟩, fun _ => rfl⟩)
      have x0 : w3.cell? ⟨w.heap.size, 0, none⟩ = some (.int .i64 o.k) := IC.out.wb.cell 0
      have x2 : w3.cell? ⟨w.heap.size, 2, none⟩ = some (.int .i64 o.m) := IC.out.wb.cell 2
      go_upto_region 28 with (first
        | (go_at_call 93; refine (IN1.out _).mono ?_; rintro e v ⟨rfl, rfl⟩; clear IN1))
      have IZ := IC
      clear IC x0 x2
      go_wp2_with (first
        | (refine wpList_load_row rfl 34 (.tmp 4) rfl O rfl 34 (oA cc none 0 0) (0, 0) _ IZ.out.wo Tryz.underlying34 rfl (info10 _ _ _ _) ?_)
        | (refine wpList_store_row rfl 34 (.tmp 2) (.tmp 101) rfl (w.heap.size + 1) (oA cc none 0 0) rfl rfl 34 (oA (zeroO 0 0) none 0 0) IZ.out.wr (info10 _ _ _ _) rfl (all10 _ _ _ _) ?_))
      refine bodyPost_ret (results_row2 rfl _ _ (w.heap.size + 1) 34 (oA cc none 0 0) (0, 0) _ rfl (setRow_heap _ _ _ _ _ _ IZ.out.wr) Tryz.underlying34 rfl (info10 _ _ _ _) (.bool true) rfl) rfl ?_
      exact alo_end HAL.out HQ.out HRI.out ⟨rfl, below_row IZ.out.bl (Nat.le_succ _) _⟩
set_option maxRecDepth 100000 in
set_option maxHeartbeats 8000000 in
theorem alone_11 (o : Ov) (A : Option Addr) (n m : Nat) (w : World) (h : OpIn w o A n m) (hk : o.k = 11) :
    Calls Tryz.prog 62 #[.agg (oA o A n m)] w fun e w' => AloR o w w' e := by
  have I0 := Lib.hid (al_start w o A n m)
  obtain ⟨cc, hcc⟩ : ∃ cc : Ov, cc = { zeroO o.k o.n with key := o.key } := ⟨_, rfl⟩
  have HAL : Hid (cc = aloneO o) := Lib.hid (by rw [hcc]; unfold aloneO; simp only [hk, Int.reduceEq, ↓reduceIte])
  have HCC := Lib.hid hcc
  clear hcc
  have HIN := Lib.hid h
  have HRI : Hid (OpIn w (aloneO o) none 0 0) := Lib.hid ⟨by rw [show (aloneO o).d = zeroD from by rw [← HAL.out, HCC.out]; rfl]; exact defAt_zeroO w, alone_z h.z⟩
  have HU : Hid (usedO o ↔ (0 ≤ o.n ∧ o.n ≤ 55) ∧ isName o.key.data.toList = true) := Lib.hid (by unfold usedO nodeO; simp only [hk, Int.reduceEq, ↓reduceIte])
  have e1 : (o.k == 1) = false := by rw [hk]; rfl
  have e2 : (o.k == 2) = false := by rw [hk]; rfl
  have e3 : (o.k == 3) = false := by rw [hk]; rfl
  have e4 : (o.k == 4) = false := by rw [hk]; rfl
  have e5 : (o.k == 5) = false := by rw [hk]; rfl
  have e7 : (o.k == 7) = false := by rw [hk]; rfl
  have e6 : (o.k == 6) = false := by rw [hk]; rfl
  have e8 : (o.k == 8) = false := by rw [hk]; rfl
  have e9 : (o.k == 9) = false := by rw [hk]; rfl
  have e10 : (o.k == 10) = false := by rw [hk]; rfl
  have e11 : (o.k == 11) = true := by rw [hk]; rfl
  have IN0 := fun W => in3_any o.n 0 55 W
  obtain ⟨b0, hb0⟩ : ∃ b, b = decide (0 ≤ o.n ∧ o.n ≤ 55) := ⟨_, rfl⟩
  rw [← hb0] at IN0
  have HB0 := Lib.hid hb0
  have IN0 := Lib.hid IN0
  clear hb0
  have IN1 := fun W => name_any o.key W h.z.key
  obtain ⟨b1, hb1⟩ : ∃ b, b = isName o.key.data.toList := ⟨_, rfl⟩
  rw [← hb1] at IN1
  have HB1 : Hid (b1 = true ↔ isName o.key.data.toList = true) := Lib.hid (by rw [hb1])
  have IN1 := Lib.hid IN1
  clear hb1
  clear hk h
  go_enter Tryz.func62, Tryz.ntmps62
  go_upto_region 1 with fail
  rw [← zero10 0 0]
  generalize ((w.alloc (.cells (oA o A n m) 34)).alloc (.cells (oA (zeroO 0 0) none 0 0) 34)) = w1 at I0 ⊢
  have x0 : w1.cell? ⟨w.heap.size, 0, none⟩ = some (.int .i64 o.k) := I0.out.2.1.cell 0
  have x1 : w1.cell? ⟨w.heap.size, 1, none⟩ = some (.int .i64 o.n) := I0.out.2.1.cell 1
  have I1 := Lib.hid (AlI.new I0.out o.k o.n)
  go_upto_region 2 with (refine wpList_store_row rfl 34 (.tmp 4) (.tmp 10) rfl _ (oA (zeroO o.k o.n) none 0 0) rfl rfl 34 _ (heap_alloc_new _ _) (info10 _ _ _ _) rfl (all10 _ _ _ _) ?_; rw [World.setRow_alloc_new])
  clear x0 x1 I0
  generalize w1.alloc (.cells (oA (zeroO o.k o.n) none 0 0) 34) = w2 at I1 ⊢
  generalize w1.heap.size = O at I1 ⊢
  have x0 : w2.cell? ⟨w.heap.size, 0, none⟩ = some (.int .i64 o.k) := I1.out.wb.cell 0
  have x1 : w2.cell? ⟨w.heap.size, 1, none⟩ = some (.int .i64 o.n) := I1.out.wb.cell 1
  go_upto_region 3 with (go_at_call 93; refine (IN0.out _).mono ?_; rintro e v ⟨rfl, rfl⟩; clear IN0)
  have x3 : w2.cell? ⟨w.heap.size, 3, none⟩ = some (.string o.key) := I1.out.wb.cell 3
  have y3 : w2.cell? ⟨O, 3, none⟩ = some (.string ⟨#[]⟩) := I1.out.wo.cell 3
  have f3 : w2.frozen? ⟨O, 3, none⟩ = false := I1.out.wo.fr 3
  have I2 := Lib.hid I1.out.put_key
  go_upto_region 24 with fail
  clear x0 x1 x3 y3 f3 I1
  generalize (w2.setCell ⟨O, 3, none⟩ (.string o.key)) = w3 at I2 ⊢
  have IC : Hid (AlI w o A n m O cc none 0 0 w3) := Lib.hid (by have := I2.out; rw [← HCC.out] at this; exact this)
  clear I2
  have HB0 : Hid (b0 = true ↔ 0 ≤ o.n ∧ o.n ≤ 55) := Lib.hid (by rw [HB0.out, decide_eq_true_iff])
  cases b0
  case false =>
    have HQ : Hid (QU false o) := Lib.hid (⟨fun e => (by cases e), fun e => HB0.out.2 (HU.out.1 e).1⟩)
    have x0 : w3.cell? ⟨w.heap.size, 0, none⟩ = some (.int .i64 o.k) := IC.out.wb.cell 0
    go_upto_region 28 with fail
    have IZ := IC
    clear IC x0
    go_wp2_with (first
      | (refine wpList_load_row rfl 34 (.tmp 4) rfl O rfl 34 (oA cc none 0 0) (0, 0) _ IZ.out.wo Tryz.underlying34 rfl (info10 _ _ _ _) ?_)
      | (refine wpList_store_row rfl 34 (.tmp 2) (.tmp 101) rfl (w.heap.size + 1) (oA cc none 0 0) rfl rfl 34 (oA (zeroO 0 0) none 0 0) IZ.out.wr (info10 _ _ _ _) rfl (all10 _ _ _ _) ?_))
    refine bodyPost_ret (results_row2 rfl _ _ (w.heap.size + 1) 34 (oA cc none 0 0) (0, 0) _ rfl (setRow_heap _ _ _ _ _ _ IZ.out.wr) Tryz.underlying34 rfl (info10 _ _ _ _) (.bool false) rfl) rfl ?_
    exact alo_end HAL.out HQ.out HRI.out ⟨rfl, below_row IZ.out.bl (Nat.le_succ _) _⟩
  case true =>
    cases b1
    case false =>
      have HQ : Hid (QU false o) := Lib.hid (⟨fun e => (by cases e), fun e => HB1.out.2 (HU.out.1 e).2⟩)
      have x0 : w3.cell? ⟨w.heap.size, 0, none⟩ = some (.int .i64 o.k) := IC.out.wb.cell 0
      have x3 : w3.cell? ⟨w.heap.size, 3, none⟩ = some (.string o.key) := IC.out.wb.cell 3
      go_upto_region 28 with (first
        | (go_at_call 94; refine (IN1.out _).mono ?_; rintro e w4 ⟨rfl, hb⟩; have IZ := Lib.hid (IC.out.keep hb); clear hb IN1))
      clear IC x0 x3
      go_wp2_with (first
        | (refine wpList_load_row rfl 34 (.tmp 4) rfl O rfl 34 (oA cc none 0 0) (0, 0) _ IZ.out.wo Tryz.underlying34 rfl (info10 _ _ _ _) ?_)
        | (refine wpList_store_row rfl 34 (.tmp 2) (.tmp 101) rfl (w.heap.size + 1) (oA cc none 0 0) rfl rfl 34 (oA (zeroO 0 0) none 0 0) IZ.out.wr (info10 _ _ _ _) rfl (all10 _ _ _ _) ?_))
      refine bodyPost_ret (results_row2 rfl _ _ (w.heap.size + 1) 34 (oA cc none 0 0) (0, 0) _ rfl (setRow_heap _ _ _ _ _ _ IZ.out.wr) Tryz.underlying34 rfl (info10 _ _ _ _) (.bool false) rfl) rfl ?_
      exact alo_end HAL.out HQ.out HRI.out ⟨rfl, below_row IZ.out.bl (Nat.le_succ _) _⟩
    case true =>
      have HQ : Hid (QU true o) := Lib.hid (⟨fun _ => HU.out.2 ⟨HB0.out.1 rfl, HB1.out.1 rfl⟩, fun _ => rfl⟩)
      have x0 : w3.cell? ⟨w.heap.size, 0, none⟩ = some (.int .i64 o.k) := IC.out.wb.cell 0
      have x3 : w3.cell? ⟨w.heap.size, 3, none⟩ = some (.string o.key) := IC.out.wb.cell 3
      go_upto_region 28 with (first
        | (go_at_call 94; refine (IN1.out _).mono ?_; rintro e w4 ⟨rfl, hb⟩; have IZ := Lib.hid (IC.out.keep hb); clear hb IN1))
      clear IC x0 x3
      go_wp2_with (first
        | (refine wpList_load_row rfl 34 (.tmp 4) rfl O rfl 34 (oA cc none 0 0) (0, 0) _ IZ.out.wo Tryz.underlying34 rfl (info10 _ _ _ _) ?_)
        | (refine wpList_store_row rfl 34 (.tmp 2) (.tmp 101) rfl (w.heap.size + 1) (oA cc none 0 0) rfl rfl 34 (oA (zeroO 0 0) none 0 0) IZ.out.wr (info10 _ _ _ _) rfl (all10 _ _ _ _) ?_))
      refine bodyPost_ret (results_row2 rfl _ _ (w.heap.size + 1) 34 (oA cc none 0 0) (0, 0) _ rfl (setRow_heap _ _ _ _ _ _ IZ.out.wr) Tryz.underlying34 rfl (info10 _ _ _ _) (.bool true) rfl) rfl ?_
      exact alo_end HAL.out HQ.out HRI.out ⟨rfl, below_row IZ.out.bl (Nat.le_succ _) _⟩
set_option maxRecDepth 100000 in
set_option maxHeartbeats 8000000 in
theorem alone_12 (o : Ov) (A : Option Addr) (n m : Nat) (w : World) (h : OpIn w o A n m) (hk : o.k = 12) :
    Calls Tryz.prog 62 #[.agg (oA o A n m)] w fun e w' => AloR o w w' e := by
  have I0 := Lib.hid (al_start w o A n m)
  obtain ⟨cc, hcc⟩ : ∃ cc : Ov, cc = { zeroO o.k o.n with m := o.m, f := o.f, t := o.t } := ⟨_, rfl⟩
  have HAL : Hid (cc = aloneO o) := Lib.hid (by rw [hcc]; unfold aloneO; simp only [hk, Int.reduceEq, ↓reduceIte])
  have HCC := Lib.hid hcc
  clear hcc
  have HIN := Lib.hid h
  have HRI : Hid (OpIn w (aloneO o) none 0 0) := Lib.hid ⟨by rw [show (aloneO o).d = zeroD from by rw [← HAL.out, HCC.out]; rfl]; exact defAt_zeroO w, alone_z h.z⟩
  have HU : Hid (usedO o ↔ (0 ≤ o.n ∧ o.n ≤ 55) ∧ (1 ≤ o.m ∧ o.m ≤ 7) ∧ okR o.f o.t = true) := Lib.hid (by unfold usedO nodeO; simp only [hk, Int.reduceEq, ↓reduceIte])
  have e1 : (o.k == 1) = false := by rw [hk]; rfl
  have e2 : (o.k == 2) = false := by rw [hk]; rfl
  have e3 : (o.k == 3) = false := by rw [hk]; rfl
  have e4 : (o.k == 4) = false := by rw [hk]; rfl
  have e5 : (o.k == 5) = false := by rw [hk]; rfl
  have e7 : (o.k == 7) = false := by rw [hk]; rfl
  have e6 : (o.k == 6) = false := by rw [hk]; rfl
  have e8 : (o.k == 8) = false := by rw [hk]; rfl
  have e9 : (o.k == 9) = false := by rw [hk]; rfl
  have e10 : (o.k == 10) = false := by rw [hk]; rfl
  have e11 : (o.k == 11) = false := by rw [hk]; rfl
  have e12 : (o.k == 12) = true := by rw [hk]; rfl
  have IN0 := fun W => in3_any o.n 0 55 W
  obtain ⟨b0, hb0⟩ : ∃ b, b = decide (0 ≤ o.n ∧ o.n ≤ 55) := ⟨_, rfl⟩
  rw [← hb0] at IN0
  have HB0 := Lib.hid hb0
  have IN0 := Lib.hid IN0
  clear hb0
  have IN1 := fun W => in3_any o.m 1 7 W
  obtain ⟨b1, hb1⟩ : ∃ b, b = decide (1 ≤ o.m ∧ o.m ≤ 7) := ⟨_, rfl⟩
  rw [← hb1] at IN1
  have HB1 : Hid (b1 = true ↔ 1 ≤ o.m ∧ o.m ≤ 7) := Lib.hid (by rw [hb1, decide_eq_true_iff])
  have IN1 := Lib.hid IN1
  clear hb1
  have IN2 := fun W => Rg.check_any o.f o.t W h.z.f h.z.t
  obtain ⟨b2, hb2⟩ : ∃ b, b = okR o.f o.t := ⟨_, rfl⟩
  rw [← hb2] at IN2
  have HB2 : Hid (b2 = true ↔ okR o.f o.t = true) := Lib.hid (by rw [hb2])
  have IN2 := Lib.hid IN2
  clear hb2
  clear hk h
  go_enter Tryz.func62, Tryz.ntmps62
  go_upto_region 1 with fail
  rw [← zero10 0 0]
  generalize ((w.alloc (.cells (oA o A n m) 34)).alloc (.cells (oA (zeroO 0 0) none 0 0) 34)) = w1 at I0 ⊢
  have x0 : w1.cell? ⟨w.heap.size, 0, none⟩ = some (.int .i64 o.k) := I0.out.2.1.cell 0
  have x1 : w1.cell? ⟨w.heap.size, 1, none⟩ = some (.int .i64 o.n) := I0.out.2.1.cell 1
  have I1 := Lib.hid (AlI.new I0.out o.k o.n)
  go_upto_region 2 with (refine wpList_store_row rfl 34 (.tmp 4) (.tmp 10) rfl _ (oA (zeroO o.k o.n) none 0 0) rfl rfl 34 _ (heap_alloc_new _ _) (info10 _ _ _ _) rfl (all10 _ _ _ _) ?_; rw [World.setRow_alloc_new])
  clear x0 x1 I0
  generalize w1.alloc (.cells (oA (zeroO o.k o.n) none 0 0) 34) = w2 at I1 ⊢
  generalize w1.heap.size = O at I1 ⊢
  have x0 : w2.cell? ⟨w.heap.size, 0, none⟩ = some (.int .i64 o.k) := I1.out.wb.cell 0
  have x1 : w2.cell? ⟨w.heap.size, 1, none⟩ = some (.int .i64 o.n) := I1.out.wb.cell 1
  go_upto_region 3 with (go_at_call 93; refine (IN0.out _).mono ?_; rintro e v ⟨rfl, rfl⟩; clear IN0)
  go_upto_region 26 with fail
  clear x0 x1
  have ID := Lib.hid (I1.out.keep (Below.refl _ _).drew)
  have SA : Hid (w2.drew.cell? ⟨w.heap.size, 2, none⟩ = some (.int .i64 o.m) ∧ w2.drew.cell? ⟨w.heap.size, 4, none⟩ = some (.string o.f) ∧ w2.drew.cell? ⟨w.heap.size, 5, none⟩ = some (.string o.t)) := Lib.hid ⟨ID.out.wb.cell 2, ID.out.wb.cell 4, ID.out.wb.cell 5⟩
  refine wp_region_held_drew (S := fun wx => wx.cell? ⟨w.heap.size, 2, none⟩ = some (.int .i64 o.m) ∧ wx.cell? ⟨w.heap.size, 4, none⟩ = some (.string o.f) ∧ wx.cell? ⟨w.heap.size, 5, none⟩ = some (.string o.t)) (by kernel_rfl) SA.out (fun hHeld => ?_)
  clear SA I1
  generalize w2.drew = wd at hHeld ID ⊢
  have y2 : wd.cell? ⟨O, 2, none⟩ = some (.int .i64 0) := ID.out.wo.cell 2
  have f2 : wd.frozen? ⟨O, 2, none⟩ = false := ID.out.wo.fr 2
  have y4 : wd.cell? ⟨O, 4, none⟩ = some (.string ⟨#[]⟩) := ID.out.wo.cell 4
  have f4 : wd.frozen? ⟨O, 4, none⟩ = false := ID.out.wo.fr 4
  have y5 : wd.cell? ⟨O, 5, none⟩ = some (.string ⟨#[]⟩) := ID.out.wo.cell 5
  have f5 : wd.frozen? ⟨O, 5, none⟩ = false := ID.out.wo.fr 5
  have HO : Hid (w.heap.size ≠ O) := Lib.hid (by have := ID.out.o; omega)
  have hne : w.heap.size ≠ O := HO.out
  have hne2 : ¬ (O = w.heap.size) := fun e => HO.out e.symm
  refine wpAnyH_take (i := 0) (v := ?_) rfl (by kernel_rfl) (by kernel_rfl) (by kernel_rfl) (fun _ _ _ h => h) (Or.inl ⟨by rfl, ?_⟩) (by assumption) ?_
  rotate_left
  · intro w hSw
    go_simp
    try with_reducible rfl
  simp only [Act.put, List.getElem_toArray, List.getElem_cons_zero, List.setIfInBounds_toArray, List.set_cons_zero, List.set_cons_succ]
  refine wpAnyH_take (i := 1) (v := ?_) rfl (by kernel_rfl) (by kernel_rfl) (by kernel_rfl) (fun _ _ _ h => h) (Or.inl ⟨by rfl, ?_⟩) (by assumption) ?_
  rotate_left
  · intro w hSw
    go_simp
    try with_reducible rfl
  simp only [Act.put, List.getElem_toArray, List.getElem_cons_succ, List.getElem_cons_zero, List.setIfInBounds_toArray, List.set_cons_zero, List.set_cons_succ]
  refine wpAnyH_take (i := 2) (v := ?_) rfl (by kernel_rfl) (by kernel_rfl) (by kernel_rfl) (fun _ _ _ h => h) (Or.inl ⟨by rfl, ?_⟩) (by assumption) ?_
  rotate_left
  · intro w hSw
    go_simp
    try with_reducible rfl
  simp only [Act.put, List.getElem_toArray, List.getElem_cons_succ, List.getElem_cons_zero, List.setIfInBounds_toArray, List.set_cons_zero, List.set_cons_succ]
  refine wpAnyH_take (i := 3) (v := ?_) rfl (by kernel_rfl) (by kernel_rfl) (by kernel_rfl) (fun _ _ _ h => h) (Or.inl ⟨by rfl, ?_⟩) (by assumption) ?_
  rotate_left
  · intro w hSw
    go_simp
    try with_reducible rfl
  simp only [Act.put, List.getElem_toArray, List.getElem_cons_succ, List.getElem_cons_zero, List.setIfInBounds_toArray, List.set_cons_zero, List.set_cons_succ]
  refine wpAnyH_take (i := 4) (v := ?_) rfl (by kernel_rfl) (by kernel_rfl) (by kernel_rfl) (fun _ _ _ h => h) (Or.inl ⟨by rfl, ?_⟩) (by assumption) ?_
  rotate_left
  · intro w hSw
    go_simp
    try with_reducible rfl
  simp only [Act.put, List.getElem_toArray, List.getElem_cons_succ, List.getElem_cons_zero, List.setIfInBounds_toArray, List.set_cons_zero, List.set_cons_succ]
  refine wpAnyH_ready (rs := [5]) (by kernel_rfl) (by simp) ?_
  refine AllReadyH.cons rfl (fun K hK => ?_) AllReadyH.nil
  go_simp
  refine hK.out _ _ ?_ (fun hHeld' => ?_)
  · simpa [go_sem, hne, hne2] using hHeld
  clear hK K hHeld
  have hHeld := hHeld'
  clear hHeld'
  try simp only [Act.put, List.getElem_toArray, List.getElem_cons_succ, List.getElem_cons_zero]
  refine wpAnyH_take (i := 6) (v := ?_) rfl (by kernel_rfl) (by kernel_rfl) (by kernel_rfl) (fun _ _ _ h => h) (Or.inl ⟨by rfl, ?_⟩) (by assumption) ?_
  rotate_left
  · intro w hSw
    go_simp
    try with_reducible rfl
  simp only [Act.put, List.getElem_toArray, List.getElem_cons_succ, List.getElem_cons_zero, List.setIfInBounds_toArray, List.set_cons_zero, List.set_cons_succ]
  refine wpAnyH_ready (rs := [7]) (by kernel_rfl) (by simp) ?_
  refine AllReadyH.cons rfl (fun K hK => ?_) AllReadyH.nil
  go_simp
  refine hK.out _ _ ?_ (fun hHeld' => ?_)
  · simpa [go_sem, hne, hne2] using hHeld
  clear hK K hHeld
  have hHeld := hHeld'
  clear hHeld'
  try simp only [Act.put, List.getElem_toArray, List.getElem_cons_succ, List.getElem_cons_zero]
  refine wpAnyH_done (by kernel_rfl) ?_ _
  have IC := ID.out.put_m.put_rng
  clear y2 f2 y4 f4 y5 f5 ID hne hne2 hHeld
  generalize (((wd.setCell ⟨O, 2, none⟩ (.int .i64 o.m)).setCell ⟨O, 4, none⟩ (.string o.f)).setCell ⟨O, 5, none⟩ (.string o.t)) = w3 at IC ⊢
  have I2 := Lib.hid IC
  clear IC
  have IC : Hid (AlI w o A n m O cc none 0 0 w3) := Lib.hid (by have := I2.out; rw [← HCC.out] at this; exact this)
  clear I2
  have HB0 : Hid (b0 = true ↔ 0 ≤ o.n ∧ o.n ≤ 55) := Lib.hid (by rw [HB0.out, decide_eq_true_iff])
  cases b0
  case false =>
    have HQ : Hid (QU false o) := Lib.hid (⟨fun e => (by cases e), fun e => HB0.out.2 (HU.out.1 e).1⟩)
    have x0 : w3.cell? ⟨w.heap.size, 0, none⟩ = some (.int .i64 o.k) := IC.out.wb.cell 0
    go_upto_region 28 with fail
    have IZ := IC
    clear IC x0
    go_wp2_with (first
      | (refine wpList_load_row rfl 34 (.tmp 4) rfl O rfl 34 (oA cc none 0 0) (0, 0) _ IZ.out.wo Tryz.underlying34 rfl (info10 _ _ _ _) ?_)
      | (refine wpList_store_row rfl 34 (.tmp 2) (.tmp 101) rfl (w.heap.size + 1) (oA cc none 0 0) rfl rfl 34 (oA (zeroO 0 0) none 0 0) IZ.out.wr (info10 _ _ _ _) rfl (all10 _ _ _ _) ?_))
    refine bodyPost_ret (results_row2 rfl _ _ (w.heap.size + 1) 34 (oA cc none 0 0) (0, 0) _ rfl (setRow_heap _ _ _ _ _ _ IZ.out.wr) Tryz.underlying34 rfl (info10 _ _ _ _) (.bool false) rfl) rfl ?_
    exact alo_end HAL.out HQ.out HRI.out ⟨rfl, below_row IZ.out.bl (Nat.le_succ _) _⟩
  case true =>
    cases b1
    case false =>
      have HQ : Hid (QU false o) := Lib.hid (⟨fun e => (by cases e), fun e => HB1.out.2 (HU.out.1 e).2.1⟩)
      have x0 : w3.cell? ⟨w.heap.size, 0, none⟩ = some (.int .i64 o.k) := IC.out.wb.cell 0
      have x2 : w3.cell? ⟨w.heap.size, 2, none⟩ = some (.int .i64 o.m) := IC.out.wb.cell 2
      go_upto_region 28 with (first
        | (go_at_call 93; refine (IN1.out _).mono ?_; rintro e v ⟨rfl, rfl⟩; clear IN1))
      have IZ := IC
      clear IC x0 x2
      go_wp2_with (first
        | (refine wpList_load_row rfl 34 (.tmp 4) rfl O rfl 34 (oA cc none 0 0) (0, 0) _ IZ.out.wo Tryz.underlying34 rfl (info10 _ _ _ _) ?_)
        | (refine wpList_store_row rfl 34 (.tmp 2) (.tmp 101) rfl (w.heap.size + 1) (oA cc none 0 0) rfl rfl 34 (oA (zeroO 0 0) none 0 0) IZ.out.wr (info10 _ _ _ _) rfl (all10 _ _ _ _) ?_))
      refine bodyPost_ret (results_row2 rfl _ _ (w.heap.size + 1) 34 (oA cc none 0 0) (0, 0) _ rfl (setRow_heap _ _ _ _ _ _ IZ.out.wr) Tryz.underlying34 rfl (info10 _ _ _ _) (.bool false) rfl) rfl ?_
      exact alo_end HAL.out HQ.out HRI.out ⟨rfl, below_row IZ.out.bl (Nat.le_succ _) _⟩
    case true =>
      cases b2
      case false =>
        have HQ : Hid (QU false o) := Lib.hid (⟨fun e => (by cases e), fun e => HB2.out.2 (HU.out.1 e).2.2⟩)
        have x0 : w3.cell? ⟨w.heap.size, 0, none⟩ = some (.int .i64 o.k) := IC.out.wb.cell 0
        have x2 : w3.cell? ⟨w.heap.size, 2, none⟩ = some (.int .i64 o.m) := IC.out.wb.cell 2
        have x4 : w3.cell? ⟨w.heap.size, 4, none⟩ = some (.string o.f) := IC.out.wb.cell 4
        have x5 : w3.cell? ⟨w.heap.size, 5, none⟩ = some (.string o.t) := IC.out.wb.cell 5
        go_upto_region 28 with (first
          | (go_at_call 93; refine (IN1.out _).mono ?_; rintro e v ⟨rfl, rfl⟩; clear IN1)
          | (go_at_call 89; refine (IN2.out _).mono ?_; rintro e w4 ⟨rfl, hb⟩; have IZ := Lib.hid (IC.out.keep hb); clear hb IN2))
        clear IC x0 x2 x4 x5
        go_wp2_with (first
          | (refine wpList_load_row rfl 34 (.tmp 4) rfl O rfl 34 (oA cc none 0 0) (0, 0) _ IZ.out.wo Tryz.underlying34 rfl (info10 _ _ _ _) ?_)
          | (refine wpList_store_row rfl 34 (.tmp 2) (.tmp 101) rfl (w.heap.size + 1) (oA cc none 0 0) rfl rfl 34 (oA (zeroO 0 0) none 0 0) IZ.out.wr (info10 _ _ _ _) rfl (all10 _ _ _ _) ?_))
        refine bodyPost_ret (results_row2 rfl _ _ (w.heap.size + 1) 34 (oA cc none 0 0) (0, 0) _ rfl (setRow_heap _ _ _ _ _ _ IZ.out.wr) Tryz.underlying34 rfl (info10 _ _ _ _) (.bool false) rfl) rfl ?_
        exact alo_end HAL.out HQ.out HRI.out ⟨rfl, below_row IZ.out.bl (Nat.le_succ _) _⟩
      case true =>
        have HQ : Hid (QU true o) := Lib.hid (⟨fun _ => HU.out.2 ⟨HB0.out.1 rfl, HB1.out.1 rfl, HB2.out.1 rfl⟩, fun _ => rfl⟩)
        have x0 : w3.cell? ⟨w.heap.size, 0, none⟩ = some (.int .i64 o.k) := IC.out.wb.cell 0
        have x2 : w3.cell? ⟨w.heap.size, 2, none⟩ = some (.int .i64 o.m) := IC.out.wb.cell 2
        have x4 : w3.cell? ⟨w.heap.size, 4, none⟩ = some (.string o.f) := IC.out.wb.cell 4
        have x5 : w3.cell? ⟨w.heap.size, 5, none⟩ = some (.string o.t) := IC.out.wb.cell 5
        go_upto_region 28 with (first
          | (go_at_call 93; refine (IN1.out _).mono ?_; rintro e v ⟨rfl, rfl⟩; clear IN1)
          | (go_at_call 89; refine (IN2.out _).mono ?_; rintro e w4 ⟨rfl, hb⟩; have IZ := Lib.hid (IC.out.keep hb); clear hb IN2))
        clear IC x0 x2 x4 x5
        go_wp2_with (first
          | (refine wpList_load_row rfl 34 (.tmp 4) rfl O rfl 34 (oA cc none 0 0) (0, 0) _ IZ.out.wo Tryz.underlying34 rfl (info10 _ _ _ _) ?_)
          | (refine wpList_store_row rfl 34 (.tmp 2) (.tmp 101) rfl (w.heap.size + 1) (oA cc none 0 0) rfl rfl 34 (oA (zeroO 0 0) none 0 0) IZ.out.wr (info10 _ _ _ _) rfl (all10 _ _ _ _) ?_))
        refine bodyPost_ret (results_row2 rfl _ _ (w.heap.size + 1) 34 (oA cc none 0 0) (0, 0) _ rfl (setRow_heap _ _ _ _ _ _ IZ.out.wr) Tryz.underlying34 rfl (info10 _ _ _ _) (.bool true) rfl) rfl ?_
        exact alo_end HAL.out HQ.out HRI.out ⟨rfl, below_row IZ.out.bl (Nat.le_succ _) _⟩
set_option maxRecDepth 100000 in
set_option maxHeartbeats 8000000 in
theorem alone_0 (o : Ov) (A : Option Addr) (n m : Nat) (w : World) (h : OpIn w o A n m) (hk : ¬ (1 ≤ o.k ∧ o.k ≤ 12)) :
    Calls Tryz.prog 62 #[.agg (oA o A n m)] w fun e w' => AloR o w w' e := by
  have I0 := Lib.hid (al_start w o A n m)
  obtain ⟨cc, hcc⟩ : ∃ cc : Ov, cc = zeroO o.k o.n := ⟨_, rfl⟩
  have HAL : Hid (cc = aloneO o) := Lib.hid (by rw [hcc]; unfold aloneO; rw [if_neg (by omega), if_neg (by omega), if_neg (by omega), if_neg (by omega), if_neg (by omega), if_neg (by omega)])
  have HCC := Lib.hid hcc
  clear hcc
  have HIN := Lib.hid h
  have HRI : Hid (OpIn w (aloneO o) none 0 0) := Lib.hid ⟨by rw [show (aloneO o).d = zeroD from by rw [← HAL.out, HCC.out]; rfl]; exact defAt_zeroO w, alone_z h.z⟩
  have HU : Hid (¬ usedO o) := Lib.hid (by unfold usedO; rw [if_neg (by omega), if_neg (by omega), if_neg (by omega), if_neg (by omega), if_neg (by omega), if_neg (by omega), if_neg (by omega), if_neg (by omega), if_neg (by omega), if_neg (by omega), if_neg (by omega), if_neg (by omega)]; exact id)
  have e1 : (o.k == 1) = false := by rw [beq_eq_false_iff_ne]; omega
  have e2 : (o.k == 2) = false := by rw [beq_eq_false_iff_ne]; omega
  have e3 : (o.k == 3) = false := by rw [beq_eq_false_iff_ne]; omega
  have e4 : (o.k == 4) = false := by rw [beq_eq_false_iff_ne]; omega
  have e5 : (o.k == 5) = false := by rw [beq_eq_false_iff_ne]; omega
  have e7 : (o.k == 7) = false := by rw [beq_eq_false_iff_ne]; omega
  have e6 : (o.k == 6) = false := by rw [beq_eq_false_iff_ne]; omega
  have e8 : (o.k == 8) = false := by rw [beq_eq_false_iff_ne]; omega
  have e9 : (o.k == 9) = false := by rw [beq_eq_false_iff_ne]; omega
  have e10 : (o.k == 10) = false := by rw [beq_eq_false_iff_ne]; omega
  have e11 : (o.k == 11) = false := by rw [beq_eq_false_iff_ne]; omega
  have e12 : (o.k == 12) = false := by rw [beq_eq_false_iff_ne]; omega
  have IN0 := fun W => in3_any o.n 0 55 W
  obtain ⟨b0, hb0⟩ : ∃ b, b = decide (0 ≤ o.n ∧ o.n ≤ 55) := ⟨_, rfl⟩
  rw [← hb0] at IN0
  have HB0 := Lib.hid hb0
  have IN0 := Lib.hid IN0
  clear hb0
  clear hk h
  go_enter Tryz.func62, Tryz.ntmps62
  go_upto_region 1 with fail
  rw [← zero10 0 0]
  generalize ((w.alloc (.cells (oA o A n m) 34)).alloc (.cells (oA (zeroO 0 0) none 0 0) 34)) = w1 at I0 ⊢
  have x0 : w1.cell? ⟨w.heap.size, 0, none⟩ = some (.int .i64 o.k) := I0.out.2.1.cell 0
  have x1 : w1.cell? ⟨w.heap.size, 1, none⟩ = some (.int .i64 o.n) := I0.out.2.1.cell 1
  have I1 := Lib.hid (AlI.new I0.out o.k o.n)
  go_upto_region 2 with (refine wpList_store_row rfl 34 (.tmp 4) (.tmp 10) rfl _ (oA (zeroO o.k o.n) none 0 0) rfl rfl 34 _ (heap_alloc_new _ _) (info10 _ _ _ _) rfl (all10 _ _ _ _) ?_; rw [World.setRow_alloc_new])
  clear x0 x1 I0
  generalize w1.alloc (.cells (oA (zeroO o.k o.n) none 0 0) 34) = w2 at I1 ⊢
  generalize w1.heap.size = O at I1 ⊢
  have x0 : w2.cell? ⟨w.heap.size, 0, none⟩ = some (.int .i64 o.k) := I1.out.wb.cell 0
  have x1 : w2.cell? ⟨w.heap.size, 1, none⟩ = some (.int .i64 o.n) := I1.out.wb.cell 1
  go_upto_region 3 with (go_at_call 93; refine (IN0.out _).mono ?_; rintro e v ⟨rfl, rfl⟩; clear IN0)
  have I2 := I1
  clear x0 x1 I1
  have IC : Hid (AlI w o A n m O cc none 0 0 w2) := Lib.hid (by have := I2.out; rw [← HCC.out] at this; exact this)
  clear I2
  have HQ : Hid (QU false o) := Lib.hid (⟨fun e => (by cases e), fun e => absurd e HU.out⟩)
  have x0 : w2.cell? ⟨w.heap.size, 0, none⟩ = some (.int .i64 o.k) := IC.out.wb.cell 0
  go_upto_region 28 with fail
  have IZ := IC
  clear IC x0
  go_wp2_with (first
    | (refine wpList_load_row rfl 34 (.tmp 4) rfl O rfl 34 (oA cc none 0 0) (0, 0) _ IZ.out.wo Tryz.underlying34 rfl (info10 _ _ _ _) ?_)
    | (refine wpList_store_row rfl 34 (.tmp 2) (.tmp 101) rfl (w.heap.size + 1) (oA cc none 0 0) rfl rfl 34 (oA (zeroO 0 0) none 0 0) IZ.out.wr (info10 _ _ _ _) rfl (all10 _ _ _ _) ?_))
  refine bodyPost_ret (results_row2 rfl _ _ (w.heap.size + 1) 34 (oA cc none 0 0) (0, 0) _ rfl (setRow_heap _ _ _ _ _ _ IZ.out.wr) Tryz.underlying34 rfl (info10 _ _ _ _) (.bool false) rfl) rfl ?_
  exact alo_end HAL.out HQ.out HRI.out ⟨rfl, below_row IZ.out.bl (Nat.le_succ _) _⟩
theorem alone_any (o : Ov) (A : Option Addr) (n m : Nat) (w : World) (h : OpIn w o A n m) :
    Calls Tryz.prog 62 #[.agg (oA o A n m)] w fun e w' => AloR o w w' e := by
  by_cases hk : 1 ≤ o.k ∧ o.k ≤ 12
  case neg => exact alone_0 o A n m w h hk
  have h12 : o.k = 1 ∨ o.k = 2 ∨ o.k = 3 ∨ o.k = 4 ∨ o.k = 5 ∨ o.k = 6 ∨ o.k = 7 ∨ o.k = 8 ∨ o.k = 9 ∨ o.k = 10 ∨ o.k = 11 ∨ o.k = 12 := by omega
  rcases h12 with h1 | h1 | h1 | h1 | h1 | h1 | h1 | h1 | h1 | h1 | h1 | h1
  · exact alone_1 o A n m w h h1
  · exact alone_2 o A n m w h h1
  · exact alone_3 o A n m w h h1
  · exact alone_4 o A n m w h h1
  · exact alone_5 o A n m w h h1
  · exact alone_6 o A n m w h h1
  · exact alone_7 o A n m w h h1
  · exact alone_8 o A n m w h h1
  · exact alone_9 o A n m w h h1
  · exact alone_10 o A n m w h h1
  · exact alone_11 o A n m w h h1
  · exact alone_12 o A n m w h h1
end Go.Proofs.YtojodekmmkemgaaGreatDoor
