/- What a command's kind uses, by the reference. Condition: sizes as a machine's integers can say. -/
import Derived.Test.YtgjnmfmbheejoaaGreatDoorCmRow
import Derived.Test.YtgjnmfmbheejoaaGreatDoorCmDec
import Derived.Test.YtgjnmfmbheejoaaGreatDoorBaA
namespace Go.Proofs.YtgjnmfmbheejoaaGreatDoor
open Go.RowKit Go.Shelf

set_option maxHeartbeats 1000000 in
theorem ucall_yes (x : Int) (w : World) (h : 0 ≤ x ∧ x ≤ 2147483648) : Calls Tryz.prog 138 #[.int .i64 x] w fun e w' => e = .returned (.bool true) ∧ w = w' := by
  obtain ⟨h0, h1⟩ := h
  go_enter Tryz.func138, Tryz.ntmps138
  go_wp2
  go_ret
  exact ⟨rfl, rfl⟩
set_option maxHeartbeats 1000000 in
theorem ucall_no (x : Int) (w : World) (h : ¬ (0 ≤ x ∧ x ≤ 2147483648)) : Calls Tryz.prog 138 #[.int .i64 x] w fun e w' => e = .returned (.bool false) ∧ w = w' := by
  by_cases h0 : 0 ≤ x
  · have h1 : ¬ (x ≤ 2147483648) := fun h1 => h ⟨h0, h1⟩
    clear h
    go_enter Tryz.func138, Tryz.ntmps138
    go_wp2
    go_ret
    exact ⟨rfl, rfl⟩
  · clear h
    go_enter Tryz.func138, Tryz.ntmps138
    go_wp2
    go_ret
    exact ⟨rfl, rfl⟩
set_option maxHeartbeats 1000000 in
theorem usaga_yes (x : Int) (w : World) (h : 1 ≤ x ∧ x ≤ 9999) : Calls Tryz.prog 141 #[.int .i64 x] w fun e w' => e = .returned (.bool true) ∧ w = w' := by
  obtain ⟨h0, h1⟩ := h
  go_enter Tryz.func141, Tryz.ntmps141
  go_wp2
  go_ret
  exact ⟨rfl, rfl⟩
set_option maxHeartbeats 1000000 in
theorem usaga_no (x : Int) (w : World) (h : ¬ (1 ≤ x ∧ x ≤ 9999)) : Calls Tryz.prog 141 #[.int .i64 x] w fun e w' => e = .returned (.bool false) ∧ w = w' := by
  by_cases h0 : 1 ≤ x
  · have h1 : ¬ (x ≤ 9999) := fun h1 => h ⟨h0, h1⟩
    clear h
    go_enter Tryz.func141, Tryz.ntmps141
    go_wp2
    go_ret
    exact ⟨rfl, rfl⟩
  · clear h
    go_enter Tryz.func141, Tryz.ntmps141
    go_wp2
    go_ret
    exact ⟨rfl, rfl⟩
set_option maxHeartbeats 1000000 in
theorem umove_yes (x : Int) (w : World) (h : 1 ≤ x ∧ x ≤ 64) : Calls Tryz.prog 139 #[.int .i64 x] w fun e w' => e = .returned (.bool true) ∧ w = w' := by
  obtain ⟨h0, h1⟩ := h
  go_enter Tryz.func139, Tryz.ntmps139
  go_wp2
  go_ret
  exact ⟨rfl, rfl⟩
set_option maxHeartbeats 1000000 in
theorem umove_no (x : Int) (w : World) (h : ¬ (1 ≤ x ∧ x ≤ 64)) : Calls Tryz.prog 139 #[.int .i64 x] w fun e w' => e = .returned (.bool false) ∧ w = w' := by
  by_cases h0 : 1 ≤ x
  · have h1 : ¬ (x ≤ 64) := fun h1 => h ⟨h0, h1⟩
    clear h
    go_enter Tryz.func139, Tryz.ntmps139
    go_wp2
    go_ret
    exact ⟨rfl, rfl⟩
  · clear h
    go_enter Tryz.func139, Tryz.ntmps139
    go_wp2
    go_ret
    exact ⟨rfl, rfl⟩
set_option maxHeartbeats 1000000 in
theorem udata_yes (x : ByteArray) (w : World) (h : x.size ≤ 65536) : Calls Tryz.prog 140 #[.string x] w fun e w' => e = .returned (.bool true) ∧ w = w' := by
  have h1 := h
  have h2 : (x.size : Int) ≤ 65536 := by omega
  clear h h1
  go_enter Tryz.func140, Tryz.ntmps140
  go_wp2
  go_ret
  exact ⟨rfl, rfl⟩
set_option maxHeartbeats 1000000 in
theorem udata_no (x : ByteArray) (w : World) (h : ¬ (x.size ≤ 65536)) : Calls Tryz.prog 140 #[.string x] w fun e w' => e = .returned (.bool false) ∧ w = w' := by
  have h2 : ¬ ((x.size : Int) ≤ 65536) := by omega
  clear h
  go_enter Tryz.func140, Tryz.ntmps140
  go_wp2
  go_ret
  exact ⟨rfl, rfl⟩
/-- What used holds in memory. -/
structure UsI (w : World) (c : Cv) (A : Option Addr) (n m O : Nat) (cc : Cv) (A' : Option Addr) (n' m' : Nat) (W : World) : Prop where
  bl : Below w.heap.size w W
  wb : Whole W w.heap.size 36 (cA c A n m)
  wr : Whole W (w.heap.size + 1) 36 (cA (zeroC 0) none 0 0)
  wo : Whole W O 36 (cA cc A' n' m')
  o : w.heap.size + 1 < O
theorem UsI.keep {w W W' : World} {c cc : Cv} {A A' : Option Addr} {n m O n' m' : Nat} (h : UsI w c A n m O cc A' n' m' W) (hb : Below W.heap.size W W') : UsI w c A n m O cc A' n' m' W' :=
  ⟨h.bl.trans (hb.mono h.bl.size), h.wb.keep hb, h.wr.keep hb, h.wo.keep hb, h.o⟩
theorem UsI.turn {w W W' : World} {c cc cc2 : Cv} {A A' A2 : Option Addr} {n m O n' m' n2 m2 : Nat} (h : UsI w c A n m O cc A' n' m' W) (hg : W.grownBy W' (some O)) (hw : Whole W' O 36 (cA cc2 A2 n2 m2)) : UsI w c A n m O cc2 A2 n2 m2 W' := by
  have ho := h.o
  exact ⟨h.bl.grown hg h.bl.size (fun k e => by cases e; omega), h.wb.grown hg (fun e => by have := Option.some.inj e; omega), h.wr.grown hg (fun e => by have := Option.some.inj e; omega), hw, ho⟩
theorem us_start (w : World) (c : Cv) (A : Option Addr) (n m : Nat) : Below w.heap.size w ((w.alloc (.cells (cA c A n m) 36)).alloc (.cells (cA (zeroC 0) none 0 0) 36)) ∧ Whole ((w.alloc (.cells (cA c A n m) 36)).alloc (.cells (cA (zeroC 0) none 0 0) 36)) w.heap.size 36 (cA c A n m) ∧ Whole ((w.alloc (.cells (cA c A n m) 36)).alloc (.cells (cA (zeroC 0) none 0 0) 36)) (w.heap.size + 1) 36 (cA (zeroC 0) none 0 0) := by
  have b1 := (Below.refl w.heap.size w).alloc (Nat.le_refl _) (.cells (cA c A n m) 36)
  have b2 := b1.alloc b1.size (.cells (cA (zeroC 0) none 0 0) 36)
  have W2 := Whole.new (w.alloc (.cells (cA c A n m) 36)) 36 (cA (zeroC 0) none 0 0)
  rw [World.size_alloc] at W2
  exact ⟨b2, (Whole.new w 36 (cA c A n m)).alloc _, W2⟩
theorem UsI.new {w w1 : World} {c : Cv} {A : Option Addr} {n m : Nat} (h : Below w.heap.size w w1 ∧ Whole w1 w.heap.size 36 (cA c A n m) ∧ Whole w1 (w.heap.size + 1) 36 (cA (zeroC 0) none 0 0)) (z : Int) :
    UsI w c A n m w1.heap.size (zeroC z) none 0 0 (w1.alloc (.cells (cA (zeroC z) none 0 0) 36)) := by
  have ba := (Below.refl w1.heap.size w1).alloc (Nat.le_refl _) (.cells (cA (zeroC z) none 0 0) 36)
  exact ⟨h.1.trans (ba.mono h.1.size), h.2.1.keep ba, h.2.2.keep ba, Whole.new w1 _ _, h.2.2.lt⟩
theorem UsI.put_eff {w W : World} {c cc : Cv} {A : Option Addr} {n m O : Nat} (h : UsI w c A n m O cc none 0 0 W) : UsI w c A n m O (setF .eff c cc) none 0 0 (((W.setCell ⟨O, 3, none⟩ (.int .i64 c.ea)).setCell ⟨O, 4, none⟩ (.int .i64 c.eb)).setCell ⟨O, 5, none⟩ (.int .i64 c.ec)) := by
  have hp := ((((((h.wo).put 3 (.int .i64 c.ea))).put 4 (.int .i64 c.eb))).put 5 (.int .i64 c.ec))
  rw [show ((((cA cc none 0 0).setIfInBounds 3 (.int .i64 c.ea)).setIfInBounds 4 (.int .i64 c.eb)).setIfInBounds 5 (.int .i64 c.ec)) = cA (setF .eff c cc) none 0 0 from rfl] at hp
  exact h.turn (grown_set ((grown_set ((grown_set (World.grownBy.refl W (some O)) 3 _)) 4 _)) 5 _) hp
theorem UsI.put_key {w W : World} {c cc : Cv} {A : Option Addr} {n m O : Nat} (h : UsI w c A n m O cc none 0 0 W) : UsI w c A n m O (setF .key c cc) none 0 0 (W.setCell ⟨O, 6, none⟩ (.string c.key)) := by
  have hp := ((h.wo).put 6 (.string c.key))
  rw [show ((cA cc none 0 0).setIfInBounds 6 (.string c.key)) = cA (setF .key c cc) none 0 0 from rfl] at hp
  exact h.turn (grown_set (World.grownBy.refl W (some O)) 6 _) hp
theorem UsI.put_dl {w W : World} {c cc : Cv} {A : Option Addr} {n m O : Nat} (h : UsI w c A n m O cc none 0 0 W) : UsI w c A n m O (setF .dl c cc) none 0 0 (W.setCell ⟨O, 7, none⟩ (.int .i64 c.dl)) := by
  have hp := ((h.wo).put 7 (.int .i64 c.dl))
  rw [show ((cA cc none 0 0).setIfInBounds 7 (.int .i64 c.dl)) = cA (setF .dl c cc) none 0 0 from rfl] at hp
  exact h.turn (grown_set (World.grownBy.refl W (some O)) 7 _) hp
theorem UsI.put_call {w W : World} {c cc : Cv} {A : Option Addr} {n m O : Nat} (h : UsI w c A n m O cc none 0 0 W) : UsI w c A n m O (setF .call c cc) none 0 0 (W.setCell ⟨O, 1, none⟩ (.int .i64 c.call)) := by
  have hp := ((h.wo).put 1 (.int .i64 c.call))
  rw [show ((cA cc none 0 0).setIfInBounds 1 (.int .i64 c.call)) = cA (setF .call c cc) none 0 0 from rfl] at hp
  exact h.turn (grown_set (World.grownBy.refl W (some O)) 1 _) hp
theorem UsI.put_mv {w W : World} {c cc : Cv} {A : Option Addr} {n m O : Nat} (h : UsI w c A n m O cc none 0 0 W) : UsI w c A n m O (setF .mv c cc) none 0 0 (W.setCell ⟨O, 8, none⟩ (.int .i64 c.mv)) := by
  have hp := ((h.wo).put 8 (.int .i64 c.mv))
  rw [show ((cA cc none 0 0).setIfInBounds 8 (.int .i64 c.mv)) = cA (setF .mv c cc) none 0 0 from rfl] at hp
  exact h.turn (grown_set (World.grownBy.refl W (some O)) 8 _) hp
theorem UsI.put_rng {w W : World} {c cc : Cv} {A : Option Addr} {n m O : Nat} (h : UsI w c A n m O cc none 0 0 W) : UsI w c A n m O (setF .rng c cc) none 0 0 ((W.setCell ⟨O, 9, none⟩ (.string c.f)).setCell ⟨O, 10, none⟩ (.string c.t)) := by
  have hp := ((((h.wo).put 9 (.string c.f))).put 10 (.string c.t))
  rw [show (((cA cc none 0 0).setIfInBounds 9 (.string c.f)).setIfInBounds 10 (.string c.t)) = cA (setF .rng c cc) none 0 0 from rfl] at hp
  exact h.turn (grown_set ((grown_set (World.grownBy.refl W (some O)) 9 _)) 10 _) hp
theorem UsI.put_data {w W : World} {c cc : Cv} {A : Option Addr} {n m O : Nat} (h : UsI w c A n m O cc none 0 0 W) : UsI w c A n m O (setF .data c cc) none 0 0 (W.setCell ⟨O, 23, none⟩ (.string c.data)) := by
  have hp := ((h.wo).put 23 (.string c.data))
  rw [show ((cA cc none 0 0).setIfInBounds 23 (.string c.data)) = cA (setF .data c cc) none 0 0 from rfl] at hp
  exact h.turn (grown_set (World.grownBy.refl W (some O)) 23 _) hp
theorem UsI.put_saga {w W : World} {c cc : Cv} {A : Option Addr} {n m O : Nat} (h : UsI w c A n m O cc none 0 0 W) : UsI w c A n m O (setF .saga c cc) none 0 0 (W.setCell ⟨O, 2, none⟩ (.int .i64 c.saga)) := by
  have hp := ((h.wo).put 2 (.int .i64 c.saga))
  rw [show ((cA cc none 0 0).setIfInBounds 2 (.int .i64 c.saga)) = cA (setF .saga c cc) none 0 0 from rfl] at hp
  exact h.turn (grown_set (World.grownBy.refl W (some O)) 2 _) hp
theorem UsI.put_defn {w W : World} {c cc : Cv} {A : Option Addr} {n m O : Nat} (h : UsI w c A n m O cc none 0 0 W) : UsI w c A n m O (setF .defn c cc) A n m ((((W.setCell ⟨O, 12, none⟩ (.string c.d.n)).setCell ⟨O, 13, none⟩ (.int .i64 c.d.r)).setCell ⟨O, 14, none⟩ (.int .i64 c.d.dl)).setCell ⟨O, 15, none⟩ (.slice A n m)) := by
  have hp := ((((((((h.wo).put 12 (.string c.d.n))).put 13 (.int .i64 c.d.r))).put 14 (.int .i64 c.d.dl))).put 15 (.slice A n m))
  rw [show (((((cA cc none 0 0).setIfInBounds 12 (.string c.d.n)).setIfInBounds 13 (.int .i64 c.d.r)).setIfInBounds 14 (.int .i64 c.d.dl)).setIfInBounds 15 (.slice A n m)) = cA (setF .defn c cc) A n m from rfl] at hp
  exact h.turn (grown_set ((grown_set ((grown_set ((grown_set (World.grownBy.refl W (some O)) 12 _)) 13 _)) 14 _)) 15 _) hp
theorem UsI.put_grp {w W : World} {c cc : Cv} {A : Option Addr} {n m O : Nat} (h : UsI w c A n m O cc none 0 0 W) : UsI w c A n m O (setF .grp c cc) none 0 0 (W.setCell ⟨O, 11, none⟩ (.int .i64 c.g)) := by
  have hp := ((h.wo).put 11 (.int .i64 c.g))
  rw [show ((cA cc none 0 0).setIfInBounds 11 (.int .i64 c.g)) = cA (setF .grp c cc) none 0 0 from rfl] at hp
  exact h.turn (grown_set (World.grownBy.refl W (some O)) 11 _) hp
theorem UsI.put_item {w W : World} {c cc : Cv} {A : Option Addr} {n m O : Nat} (h : UsI w c A n m O cc none 0 0 W) : UsI w c A n m O (setF .item c cc) none 0 0 ((((((W.setCell ⟨O, 16, none⟩ (.int .i64 c.it.a)).setCell ⟨O, 17, none⟩ (.int .i64 c.it.b)).setCell ⟨O, 18, none⟩ (.int .i64 c.it.c)).setCell ⟨O, 19, none⟩ (.int .i64 c.it.m)).setCell ⟨O, 20, none⟩ (.bool c.it.i)).setCell ⟨O, 21, none⟩ (.int .i64 c.it.g)) := by
  have hp := ((((((((((((h.wo).put 16 (.int .i64 c.it.a))).put 17 (.int .i64 c.it.b))).put 18 (.int .i64 c.it.c))).put 19 (.int .i64 c.it.m))).put 20 (.bool c.it.i))).put 21 (.int .i64 c.it.g))
  rw [show (((((((cA cc none 0 0).setIfInBounds 16 (.int .i64 c.it.a)).setIfInBounds 17 (.int .i64 c.it.b)).setIfInBounds 18 (.int .i64 c.it.c)).setIfInBounds 19 (.int .i64 c.it.m)).setIfInBounds 20 (.bool c.it.i)).setIfInBounds 21 (.int .i64 c.it.g)) = cA (setF .item c cc) none 0 0 from rfl] at hp
  exact h.turn (grown_set ((grown_set ((grown_set ((grown_set ((grown_set ((grown_set (World.grownBy.refl W (some O)) 16 _)) 17 _)) 18 _)) 19 _)) 20 _)) 21 _) hp
theorem UsI.put_res {w W : World} {c cc : Cv} {A : Option Addr} {n m O : Nat} (h : UsI w c A n m O cc none 0 0 W) : UsI w c A n m O (setF .res c cc) none 0 0 (W.setCell ⟨O, 22, none⟩ (.int .i64 c.res)) := by
  have hp := ((h.wo).put 22 (.int .i64 c.res))
  rw [show ((cA cc none 0 0).setIfInBounds 22 (.int .i64 c.res)) = cA (setF .res c cc) none 0 0 from rfl] at hp
  exact h.turn (grown_set (World.grownBy.refl W (some O)) 22 _) hp
end Go.Proofs.YtgjnmfmbheejoaaGreatDoor
