/- ScriptFields returns true at every input. Conditions: as the statement's own. -/
import Derived.Test.YtojodekmmkemgaaGreatDoorScUse
import Derived.Test.YtojodekmmkemgaaGreatDoorScRep
import Derived.Great.Walk
namespace Go.Proofs.YtojodekmmkemgaaGreatDoor
open Go.RowKit Go.Shelf

/-- What ScriptFields holds in memory: the operation, and the one that is turned. -/
structure Fld (w : World) (P Q : Nat) (c : Ov) (A : Option Addr) (n m : Nat) (d : Ov) (A' : Option Addr) (n' m' : Nat) (W : World) : Prop where
  bl : Below w.heap.size w W
  cp : OpAt W P c A n m
  cq : OpAt W Q d A' n' m'
  o : P ≠ Q
  h : w.heap.size ≤ Q
theorem Fld.keep {w W W' : World} {P Q : Nat} {c : Ov} {A : Option Addr} {n m : Nat} {d : Ov} {A' : Option Addr} {n' m' : Nat} (h : Fld w P Q c A n m d A' n' m' W) (hb : Below W.heap.size W W') : Fld w P Q c A n m d A' n' m' W' :=
  ⟨h.bl.trans (hb.mono h.bl.size), h.cp.keep hb, h.cq.keep hb, h.o, h.h⟩
theorem OpAt.grown {w w' : World} {B : Nat} {o : Ov} {A : Option Addr} {n m : Nat} {row : Option Nat} (h : OpAt w B o A n m) (hg : w.grownBy w' row) (hne : some B ≠ row) (ha : ∀ a : Addr, A = some a → o.d.s ≠ [] → some a.block ≠ row) : OpAt w' B o A n m :=
  ⟨h.w.grown hg hne, ⟨h.i.d.grown hg ha, h.i.z⟩, h.o⟩
/-- A cell of the turned operation is set; the steps of both are those of the first, or none. -/
theorem Fld.put {w W : World} {P Q : Nat} {c : Ov} {A : Option Addr} {n m : Nat} {d d' : Ov} {A' : Option Addr} {n' m' : Nat} (h : Fld w P Q c A n m d A' n' m' W) (hA : ∀ a : Addr, A = some a → c.d.s ≠ [] → a.block ≠ Q) (i : Nat) (v : Value)
    (hput : (oA d A' n' m').setIfInBounds i v = oA d' A' n' m') (hd : d'.d.s = d.d.s) (hn : DefZ d'.d) (hz : OpZ d') : Fld w P Q c A n m d' A' n' m' (W.setCell ⟨Q, i, none⟩ v) := by
  have o := h.o
  have hh := h.h
  have g := grown_set (World.grownBy.refl W (some Q)) i v
  have hw := h.cq.w.put i v
  rw [hput] at hw
  refine ⟨h.bl.grown g h.bl.size (fun k e => by cases e; exact hh), h.cp.grown g (fun e => o (Option.some.inj e)) (fun a ha hs e => hA a ha hs (Option.some.inj e)), ⟨hw, ⟨⟨?_, h.cq.i.d.le, h.cq.i.d.big, hn, ?_⟩, hz⟩, ?_⟩, o, hh⟩
  · rw [hd]; exact h.cq.i.d.len
  · rw [hd]; exact h.cq.i.d.s.grown g (fun a ha hs e => h.cq.o a ha hs (Option.some.inj e))
  · rw [hd]; exact h.cq.o
def wipeD (z : Nat) : Dv := { zeroD with s := List.replicate z ⟨⟨#[]⟩, 0⟩ }
def stepsZ (z : Nat) : Array Value := madeCells (Value.agg #[.string ⟨#[]⟩, .int .i64 0]).cells (z * 2)
theorem stepsZ_get (z j : Nat) (h : j < z * 2) : (stepsZ z)[j]? = some (if j % 2 = 0 then .string ⟨#[]⟩ else .int .i64 0) := by
  unfold stepsZ
  have h2 : j % 2 = 0 ∨ j % 2 = 1 := by omega
  rcases h2 with h2 | h2 <;> simp [madeCells, Value.cells, h, h2]
theorem stepsZ_sl {W : World} {X z : Nat} (h : Whole W X 71 (stepsZ z)) : SlD W (some ⟨X, 0, none⟩) (wipeD z).s := by
  intro i p hi
  have hp : p = ⟨⟨#[]⟩, 0⟩ ∧ i < z := by
    have h1 : (List.replicate z (⟨⟨#[]⟩, 0⟩ : Sp))[i]? = some p := hi
    obtain ⟨h2, h3⟩ := List.getElem?_eq_some_iff.1 h1
    rw [List.length_replicate] at h2
    rw [List.getElem_replicate] at h3
    exact ⟨h3.symm, h2⟩
  obtain ⟨rfl, hlt⟩ := hp
  refine ⟨X, 0, rfl, ?_, ?_⟩
  · rw [h.cell, stepsZ_get z _ (by omega), if_pos (by omega)]
  · rw [h.cell, stepsZ_get z _ (by omega), if_neg (by omega)]
theorem run_makeZ {z : Nat} (hz : z = 1 ∨ z = 2 ∨ z = 3) (W : World) : (Instr.makeSlice 30 (.int .i64 (z : Int)) (.int .i64 (z : Int))).run Tryz.prog W = .ok (.slice (some ⟨W.heap.size, 0, none⟩) z z) (W.alloc (.cells (stepsZ z) 71)) := by
  obtain ⟨i, hi, hz0, hz1, hz2⟩ := info_parts infoP
  have h := run_make (P := Tryz.prog) W 30 71 i (.agg #[.string ⟨#[]⟩, .int .i64 0]) Tryz.underlying30 hi hz0 .i64 .i64 z z (by omega) (Int.le_refl _) (by rw [hz2]; omega) (by omega)
  rw [Int.toNat_natCast, hz1] at h
  exact h
/-- The turned operation's definition is made anew. -/
theorem Fld.wipe {w W : World} {P Q X z : Nat} {c : Ov} {A : Option Addr} {n m : Nat} {d : Ov} {A' : Option Addr} {n' m' : Nat} (h : Fld w P Q c A n m d A' n' m' W) (hA : ∀ a : Addr, A = some a → c.d.s ≠ [] → a.block ≠ Q) (hz : z = 1 ∨ z = 2 ∨ z = 3) (hX : Whole W X 71 (stepsZ z)) (hXQ : X ≠ Q) :
    Fld w P Q c A n m { d with d := wipeD z } (some ⟨X, 0, none⟩) z z ((((W.setCell ⟨Q, 6, none⟩ (.string ⟨#[]⟩)).setCell ⟨Q, 7, none⟩ (.int .i64 0)).setCell ⟨Q, 8, none⟩ (.int .i64 0)).setCell ⟨Q, 9, none⟩ (.slice (some ⟨X, 0, none⟩) z z)) := by
  have o := h.o
  have hh := h.h
  have g := grown_set (grown_set (grown_set (grown_set (World.grownBy.refl W (some Q)) 6 (.string ⟨#[]⟩)) 7 (.int .i64 0)) 8 (.int .i64 0)) 9 (.slice (some ⟨X, 0, none⟩) z z)
  have hw := (((h.cq.w.put 6 (.string ⟨#[]⟩)).put 7 (.int .i64 0)).put 8 (.int .i64 0)).put 9 (.slice (some ⟨X, 0, none⟩) z z)
  have hs := stepsZ_sl hX
  have i0 : In64 0 := ⟨by decide, by decide⟩
  refine ⟨h.bl.grown g h.bl.size (fun k e => by cases e; exact hh), h.cp.grown g (fun e => o (Option.some.inj e)) (fun a ha hs e => hA a ha hs (Option.some.inj e)), ⟨by simpa [oA, wipeD, zeroD] using hw, ⟨⟨List.length_replicate .., Nat.le_refl _, by omega, ⟨Nat.zero_le _, i0, i0, fun i p hp => ?_⟩, hs.grown g (fun a ha _ e => by cases ha; exact hXQ (Option.some.inj e))⟩, ?_⟩, fun a ha _ => by cases ha; exact hXQ⟩, o, hh⟩
  · have h1 : (List.replicate z (⟨⟨#[]⟩, 0⟩ : Sp))[i]? = some p := hp
    obtain ⟨h2, h3⟩ := List.getElem?_eq_some_iff.1 h1
    rw [List.getElem_replicate] at h3
    rw [← h3]
    exact ⟨Nat.zero_le _, by decide, by decide⟩
  · obtain ⟨a1, a2, a3, a4, a5, a6⟩ := h.cq.i.z
    constructor <;> assumption
/-- Two operations, one behind the other, in a new block. -/
theorem two_slO {w : World} {o p : Ov} {A B : Option Addr} {n m k j : Nat} (ho : OpIn w o A n m) (hp : OpIn w p B k j) (cs : Array Value) (hc : cs = (oA o A n m) ++ (oA p B k j)) : SlO (w.alloc (.cells cs 34)) (some ⟨w.heap.size, 0, none⟩) [⟨o, A, n, m⟩, ⟨p, B, k, j⟩] := by
  have ba := (Below.refl w.heap.size w).alloc (Nat.le_refl _) (.cells cs 34)
  intro i q hi
  match i with
  | 0 =>
    cases hi
    refine ⟨w.heap.size, 0, rfl, fun j v hj => ?_, ho.keep ba⟩
    have hj10 : j < 10 := (List.getElem?_eq_some_iff.1 hj).1
    rw [(Whole.new w 34 cs).cell, hc, show 0 + 0 * 10 + j = j by omega, Array.getElem?_append_left (by exact hj10)]
    unfold qL at hj
    rw [Array.getElem?_toList] at hj
    exact hj
  | 1 =>
    cases hi
    refine ⟨w.heap.size, 0, rfl, fun j v hj => ?_, hp.keep ba⟩
    have hj10 : j < 10 := (List.getElem?_eq_some_iff.1 hj).1
    rw [(Whole.new w 34 cs).cell, hc, Array.getElem?_append_right (by show 10 ≤ _; omega), show 0 + 1 * 10 + j - (oA o A n m).size = j by show 0 + 1 * 10 + j - 10 = j; omega]
    unfold qL at hj
    rw [Array.getElem?_toList] at hj
    exact hj
  | i + 2 => simp at hi
set_option maxRecDepth 100000 in
theorem built2 (o p : Ov) (A B : Option Addr) (n m k j : Nat) : Tryz.prog.builtSlice 34 2 [(0, .agg (oA o A n m)), (1, .agg (oA p B k j))] = some (oA o A n m ++ oA p B k j) := by kernel_rfl
theorem bad_print {w : World} {g : Nat} {l : List Oq} (hE : DfE w) (hs : SlO w (some ⟨g, 0, none⟩) l) (hl : l.length = 2) {o : Ov} (ho : o ∈ l.map (·.o)) (hb : ¬ opOk o) :
    Calls Tryz.prog 12 #[.slice (some ⟨g, 0, none⟩) 2 2] w fun e w' => e = .returned (.tuple #[.string ⟨#[]⟩, .int .i64 2]) ∧ Below w.heap.size w w' := by
  have h := prall_any (some ⟨g, 0, none⟩) 2 2 l w hE hs hl.symm (by decide)
  rw [prAll_no (wrongL_bad (by rw [List.length_map, hl]; decide) ho hb) (by decide)] at h
  exact h
theorem bad_calm {w : World} {g : Nat} {l : List Oq} (hs : SlO w (some ⟨g, 0, none⟩) l) (hl : l.length = 2) {o : Ov} (ho : o ∈ l.map (·.o)) (hb : ¬ opOk o) :
    Calls Tryz.prog 34 #[.slice (some ⟨g, 0, none⟩) 2 2] w fun e w' => e = .returned (.tuple #[.bool false, .int .i64 2]) ∧ Below w.heap.size w w' := by
  have h := calm_any (some ⟨g, 0, none⟩) 2 2 l w hs hl.symm (by decide)
  rw [calmV_no (wrongL_bad (by rw [List.length_map, hl]; decide) ho hb) (by decide)] at h
  exact h
set_option maxRecDepth 100000 in
set_option maxHeartbeats 16000000 in
theorem scriptFields_any (x : No) (hz : NoZ x) (wh : Int) (n : Nat) (w : World) (hE : DfE w) (h0 : 0 ≤ wh) (_h1 : wh ≤ 255) (hn : n ≤ 65535) :
    Calls Tryz.prog 9 #[.agg (nAo x), .int .u8 wh, .int .u16 (n : Int)] w fun e w' => e = .returned (.bool true) ∧ Below w.heap.size w w' := by
  have HE := Lib.hid hE
  obtain ⟨c, hc⟩ : ∃ c, c = madeO x := ⟨_, rfl⟩
  have HOK : Hid (opOk c) := Lib.hid (by rw [hc]; exact madeO_ok x hz.n)
  have MD := Lib.hid (fun W => made_any x W hz)
  unfold MdO at MD
  rw [← hc] at MD
  have WK := Lib.hid (fun (W : World) (hb : Below w.heap.size w W) => works_any W (hE.keep hb))
  have I1 := Lib.hid (And.intro ((Below.refl w.heap.size w).alloc (Nat.le_refl _) (.cells (nAo x) 27)) (Whole.new w 27 (nAo x)))
  obtain ⟨wt, hwt⟩ : ∃ wt : Int, wh % 7 = wt := ⟨_, rfl⟩
  have ht : wt = 0 ∨ wt = 1 ∨ wt = 2 ∨ wt = 3 ∨ wt = 4 ∨ wt = 5 ∨ wt = 6 := by omega
  have HT := Lib.hid ht
  have hwt2 : wh.tmod 7 = wt := by rw [Int.tmod_eq_emod_of_nonneg (by omega)]; exact hwt
  have hwn : IntKind.i64.wrap (n : Int) = (n : Int) := IntWalk.i64_in _ (by omega)
  clear hz hE hc h0 ht
  go_enter Tryz.func9, Tryz.ntmps9
  go_upto_region 1 with fail
  generalize w.alloc (.cells (nAo x) 27) = w1 at I1 ⊢
  have MD := Lib.hid (MD.out w1)
  go_upto_region 2 with (first
    | (refine wpList_load_row (by rfl) 27 (.tmp 3) (by rfl) _ (by rfl) 27 (nAo x) (0, 0) _ I1.out.2 Tryz.underlying27 (by rfl) (info7 x) ?_)
    | (go_at_call 11; refine MD.out.mono ?_; rintro e w2 ⟨A, na, m, rfl, hi, hb, -⟩; have ba := (Below.refl w2.heap.size w2).alloc (Nat.le_refl _) (.cells (oA c A na m) 34); have b2 := I1.out.1.trans (hb.mono I1.out.1.size); have I2 := Lib.hid (And.intro (b2.trans (ba.mono b2.size)) (OpAt.new hi)); clear hi hb ba b2 MD)
    | (refine wpList_store_row (by rfl) 34 (.tmp 7) (.tmp 17) (by rfl) _ (oA c A na m) (by rfl) (by rfl) 34 _ (heap_alloc_new _ _) (info10 _ _ _ _) (by rfl) (all10 _ _ _ _) ?_; rw [World.setRow_alloc_new]))
  clear I1
  generalize w2.alloc (.cells (oA c A na m) 34) = w3 at I2 ⊢
  generalize w2.heap.size = P at I2 ⊢
  go_upto_region 3 with (first
    | (refine wpList_load_row (by rfl) 34 (.tmp 7) (by rfl) _ (by rfl) 34 (oA c A na m) (0, 0) _ I2.out.2.w Tryz.underlying34 (by rfl) (info10 c A na m) ?_)
    | (refine wpList_store_row (by rfl) 34 (.tmp 8) (.tmp 18) (by rfl) _ (oA c A na m) (by rfl) (by rfl) 34 _ (heap_alloc_new _ _) (info10 _ _ _ _) (by rfl) (all10 _ _ _ _) ?_; rw [World.setRow_alloc_new]))
  have ba := (Below.refl w3.heap.size w3).alloc (Nat.le_refl _) (.cells (oA c A na m) 34)
  have F4 : Hid (Fld w P w3.heap.size c A na m c A na m (w3.alloc (.cells (oA c A na m) 34))) := Lib.hid ⟨I2.out.1.trans (ba.mono I2.out.1.size), I2.out.2.keep ba, OpAt.new I2.out.2.i, Nat.ne_of_lt I2.out.2.w.lt, I2.out.1.size⟩
  have HA : Hid (∀ a : Addr, A = some a → c.d.s ≠ [] → a.block ≠ w3.heap.size) := Lib.hid (fun a ha hs => Nat.ne_of_lt (slD_lt I2.out.2.i.d.s a ha hs))
  clear ba I2
  generalize w3.alloc (.cells (oA c A na m) 34) = w4 at F4 ⊢
  generalize w3.heap.size = Q at F4 HA ⊢
  go_upto_block 0 with fail
  clear hwt hwt2
  go_cut [] from 23 to 77 (fun wx => ∃ (d : Ov) (A' : Option Addr) (n' m' : Nat), Hid (Fld w P Q c A na m d A' n' m' wx ∧ ¬ opOk d))
  case first =>
    rcases HT.out with rfl | rfl | rfl | rfl | rfl | rfl | rfl
    · have hw0 : IntKind.i64.wrap (13 + (n : Int)) = 13 + (n : Int) := IntWalk.i64_in _ (by omega)
      have y0 := F4.out.cq.w.cell 0
      have f0 := F4.out.cq.w.fr 0
      obtain ⟨o0, ho0⟩ : ∃ o, (oA c A na m)[0]? = some o := ⟨_, rfl⟩
      rw [ho0] at y0
      clear ho0
      have p0 := Fld.put (d' := { c with k := 13 + (n : Int) }) F4.out HA.out 0 (.int .i64 (13 + (n : Int))) rfl rfl F4.out.cq.i.d.z { F4.out.cq.i.z with k := (show In64 (13 + (n : Int)) from ⟨by omega, by omega⟩) }
      have F6 := Lib.hid p0
      have HB : Hid (¬ opOk { c with k := 13 + (n : Int) }) := Lib.hid (turnO_not c 0 n (by decide))
      clear p0 F4
      go_wp2_with fail
      go_meet
      case rel => exact ⟨_, _, _, _, Lib.hid ⟨F6.out, HB.out⟩⟩
    · have hw0 : IntKind.i64.wrap (512 + (n : Int)) = 512 + (n : Int) := IntWalk.i64_in _ (by omega)
      have y1 := F4.out.cq.w.cell 1
      have f1 := F4.out.cq.w.fr 1
      obtain ⟨o1, ho1⟩ : ∃ o, (oA c A na m)[1]? = some o := ⟨_, rfl⟩
      rw [ho1] at y1
      clear ho1
      have p0 := Fld.put (d' := { c with n := 512 + (n : Int) }) F4.out HA.out 1 (.int .i64 (512 + (n : Int))) rfl rfl F4.out.cq.i.d.z { F4.out.cq.i.z with n := (show In64 (512 + (n : Int)) from ⟨by omega, by omega⟩) }
      have F6 := Lib.hid p0
      have HB : Hid (¬ opOk { c with n := 512 + (n : Int) }) := Lib.hid (turnO_not c 1 n (by decide))
      clear p0 F4
      go_wp2_with fail
      go_meet
      case rel => exact ⟨_, _, _, _, Lib.hid ⟨F6.out, HB.out⟩⟩
    · have hw0 : IntKind.i64.wrap (-1 - (n : Int)) = -1 - (n : Int) := IntWalk.i64_in _ (by omega)
      have y1 := F4.out.cq.w.cell 1
      have f1 := F4.out.cq.w.fr 1
      obtain ⟨o1, ho1⟩ : ∃ o, (oA c A na m)[1]? = some o := ⟨_, rfl⟩
      rw [ho1] at y1
      clear ho1
      have p0 := Fld.put (d' := { c with n := -1 - (n : Int) }) F4.out HA.out 1 (.int .i64 (-1 - (n : Int))) rfl rfl F4.out.cq.i.d.z { F4.out.cq.i.z with n := (show In64 (-1 - (n : Int)) from ⟨by omega, by omega⟩) }
      have F6 := Lib.hid p0
      have HB : Hid (¬ opOk { c with n := -1 - (n : Int) }) := Lib.hid (turnO_not c 2 n (by decide))
      clear p0 F4
      go_wp2_with fail
      go_meet
      case rel => exact ⟨_, _, _, _, Lib.hid ⟨F6.out, HB.out⟩⟩
    · have hw0 : IntKind.i64.wrap (1000001 + (n : Int)) = 1000001 + (n : Int) := IntWalk.i64_in _ (by omega)
      have hwm : IntKind.i64.wrap (-(n : Int)) = -(n : Int) := IntWalk.i64_in _ (by omega)
      obtain ⟨q, hq⟩ : ∃ q : Nat, q = n % 2 := ⟨_, rfl⟩
      have htq : (n : Int).tmod 2 = (q : Int) := by rw [Int.tmod_eq_emod_of_nonneg (by omega)]; omega
      have HBT := Lib.hid (turnO_not c 3 n (by decide))
      have y2 := F4.out.cq.w.cell 2
      have f2 := F4.out.cq.w.fr 2
      obtain ⟨o2, ho2⟩ : ∃ o, (oA c A na m)[2]? = some o := ⟨_, rfl⟩
      rw [ho2] at y2
      clear ho2
      go_upto_region 15 with fail
      have p0 := Fld.put (d' := { c with m := 1000001 + (n : Int) }) F4.out HA.out 2 (.int .i64 (1000001 + (n : Int))) rfl rfl F4.out.cq.i.d.z { F4.out.cq.i.z with m := (show In64 (1000001 + (n : Int)) from ⟨by omega, by omega⟩) }
      have F6 := Lib.hid p0
      clear p0 y2 f2 F4
      generalize w4.setCell ⟨Q, 2, none⟩ (.int .i64 (1000001 + (n : Int))) = w6 at F6 ⊢
      by_cases hq1 : q = 1
      · have e1 : ((q : Int) == 1) = true := by rw [hq1]; rfl
        have HB : Hid (¬ opOk { c with m := -(n : Int) }) := Lib.hid (by have h := HBT.out; have h2 : turnO c 3 n = { c with m := if n % 2 = 1 then -(n : Int) else 1000001 + (n : Int) } := rfl; rw [h2, if_pos (by omega)] at h; exact h)
        obtain ⟨c6, hc6⟩ : ∃ c6 : Ov, c6 = { c with m := 1000001 + (n : Int) } := ⟨_, rfl⟩
        rw [← hc6] at F6
        have HC6 : Hid ({ c6 with m := -(n : Int) } = { c with m := -(n : Int) }) := Lib.hid (by rw [hc6])
        clear hq1 hq hc6
        have y2 := F6.out.cq.w.cell 2
        have f2 := F6.out.cq.w.fr 2
        obtain ⟨o2, ho2⟩ : ∃ o, (oA c6 A na m)[2]? = some o := ⟨_, rfl⟩
        rw [ho2] at y2
        clear ho2
        have p1 := Fld.put (d' := { c6 with m := -(n : Int) }) F6.out HA.out 2 (.int .i64 (-(n : Int))) rfl rfl F6.out.cq.i.d.z { F6.out.cq.i.z with m := (show In64 (-(n : Int)) from ⟨by omega, by omega⟩) }
        have F7 := Lib.hid p1
        rw [HC6.out] at F7
        clear p1
        go_wp2_with fail
        go_meet
        case rel => exact ⟨_, _, _, _, Lib.hid ⟨F7.out, HB.out⟩⟩
      · have e1 : ((q : Int) == 1) = false := by rw [beq_eq_false_iff_ne]; omega
        have HB : Hid (¬ opOk { c with m := 1000001 + (n : Int) }) := Lib.hid (by have h := HBT.out; have h2 : turnO c 3 n = { c with m := if n % 2 = 1 then -(n : Int) else 1000001 + (n : Int) } := rfl; rw [h2, if_neg (by omega)] at h; exact h)
        clear hq1 hq
        go_wp2_with fail
        go_meet
        case rel => exact ⟨_, _, _, _, Lib.hid ⟨F6.out, HB.out⟩⟩
    · have HBT := Lib.hid (turnO_not c 4 n (by decide))
      have y3 := F4.out.cq.w.cell 3
      have f3 := F4.out.cq.w.fr 3
      obtain ⟨o3, ho3⟩ : ∃ o, (oA c A na m)[3]? = some o := ⟨_, rfl⟩
      rw [ho3] at y3
      clear ho3
      go_upto_region 19 with fail
      have p0 := Fld.put (d' := { c with key := ⟨#[65]⟩ }) F4.out HA.out 3 (.string ⟨#[65]⟩) rfl rfl F4.out.cq.i.d.z { F4.out.cq.i.z with key := (by decide : (1 : Nat) ≤ 9223372036854775807) }
      have F6 := Lib.hid p0
      clear p0 y3 f3 F4
      generalize w4.setCell ⟨Q, 3, none⟩ (.string ⟨#[65]⟩) = w6 at F6 ⊢
      have yk : w6.cell? ⟨P, 0, none⟩ = some (.int .i64 c.k) := F6.out.cp.w.cell 0
      by_cases hk : c.k = 11
      · have e1 : (c.k != 11) = false := by rw [hk]; rfl
        have HB : Hid (¬ opOk { c with key := ⟨#[65]⟩ }) := Lib.hid (by have h := HBT.out; have h2 : turnO c 4 n = { c with key := if c.k = 11 then ⟨#[65]⟩ else ⟨#[97]⟩ } := rfl; rw [h2, if_pos hk] at h; exact h)
        clear hk
        go_wp2_with fail
        go_meet
        case rel => exact ⟨_, _, _, _, Lib.hid ⟨F6.out, HB.out⟩⟩
      · have e1 : (c.k != 11) = true := by rw [bne_iff_ne]; exact hk
        have HB : Hid (¬ opOk { c with key := ⟨#[97]⟩ }) := Lib.hid (by have h := HBT.out; have h2 : turnO c 4 n = { c with key := if c.k = 11 then ⟨#[65]⟩ else ⟨#[97]⟩ } := rfl; rw [h2, if_neg hk] at h; exact h)
        obtain ⟨c6, hc6⟩ : ∃ c6 : Ov, c6 = { c with key := ⟨#[65]⟩ } := ⟨_, rfl⟩
        rw [← hc6] at F6
        have HC6 : Hid ({ c6 with key := ⟨#[97]⟩ } = { c with key := ⟨#[97]⟩ }) := Lib.hid (by rw [hc6])
        clear hk hc6
        have y3 := F6.out.cq.w.cell 3
        have f3 := F6.out.cq.w.fr 3
        obtain ⟨o3, ho3⟩ : ∃ o, (oA c6 A na m)[3]? = some o := ⟨_, rfl⟩
        rw [ho3] at y3
        clear ho3
        have p1 := Fld.put (d' := { c6 with key := ⟨#[97]⟩ }) F6.out HA.out 3 (.string ⟨#[97]⟩) rfl rfl F6.out.cq.i.d.z { F6.out.cq.i.z with key := (by decide : (1 : Nat) ≤ 9223372036854775807) }
        have F7 := Lib.hid p1
        rw [HC6.out] at F7
        clear p1
        go_wp2_with fail
        go_meet
        case rel => exact ⟨_, _, _, _, Lib.hid ⟨F7.out, HB.out⟩⟩
    · have HBT := Lib.hid (turnO_not c 5 n (by decide))
      have y4 := F4.out.cq.w.cell 4
      have f4 := F4.out.cq.w.fr 4
      obtain ⟨o4, ho4⟩ : ∃ o, (oA c A na m)[4]? = some o := ⟨_, rfl⟩
      rw [ho4] at y4
      clear ho4
      have y5 := F4.out.cq.w.cell 5
      have f5 := F4.out.cq.w.fr 5
      obtain ⟨o5, ho5⟩ : ∃ o, (oA c A na m)[5]? = some o := ⟨_, rfl⟩
      rw [ho5] at y5
      clear ho5
      go_upto_region 23 with fail
      have p0 := Fld.put (d' := { c with f := ⟨#[98]⟩ }) F4.out HA.out 4 (.string ⟨#[98]⟩) rfl rfl F4.out.cq.i.d.z { F4.out.cq.i.z with f := (by decide : (1 : Nat) ≤ 9223372036854775807) }
      have p1 := Fld.put (d' := { c with f := ⟨#[98]⟩, t := ⟨#[98]⟩ }) p0 HA.out 5 (.string ⟨#[98]⟩) rfl rfl F4.out.cq.i.d.z { p0.cq.i.z with t := (by decide : (1 : Nat) ≤ 9223372036854775807) }
      have F6 := Lib.hid p1
      clear p0 p1 y4 f4 y5 f5 F4
      generalize (w4.setCell ⟨Q, 4, none⟩ (.string ⟨#[98]⟩)).setCell ⟨Q, 5, none⟩ (.string ⟨#[98]⟩) = w6 at F6 ⊢
      have yk : w6.cell? ⟨P, 0, none⟩ = some (.int .i64 c.k) := F6.out.cp.w.cell 0
      by_cases hk : c.k = 12
      · have e1 : (c.k != 12) = false := by rw [hk]; rfl
        have HB : Hid (¬ opOk { c with f := ⟨#[98]⟩, t := ⟨#[98]⟩ }) := Lib.hid (by have h := HBT.out; have h2 : turnO c 5 n = if c.k = 12 then { c with f := ⟨#[98]⟩, t := ⟨#[98]⟩ } else { c with f := ⟨#[]⟩, t := ⟨#[98]⟩ } := rfl; rw [h2, if_pos hk] at h; exact h)
        clear hk
        go_wp2_with fail
        go_meet
        case rel => exact ⟨_, _, _, _, Lib.hid ⟨F6.out, HB.out⟩⟩
      · have e1 : (c.k != 12) = true := by rw [bne_iff_ne]; exact hk
        have HB : Hid (¬ opOk { c with f := ⟨#[]⟩, t := ⟨#[98]⟩ }) := Lib.hid (by have h := HBT.out; have h2 : turnO c 5 n = if c.k = 12 then { c with f := ⟨#[98]⟩, t := ⟨#[98]⟩ } else { c with f := ⟨#[]⟩, t := ⟨#[98]⟩ } := rfl; rw [h2, if_neg hk] at h; exact h)
        obtain ⟨c6, hc6⟩ : ∃ c6 : Ov, c6 = { c with f := ⟨#[98]⟩, t := ⟨#[98]⟩ } := ⟨_, rfl⟩
        rw [← hc6] at F6
        have HC6 : Hid ({ c6 with f := ⟨#[]⟩, t := ⟨#[98]⟩ } = { c with f := ⟨#[]⟩, t := ⟨#[98]⟩ }) := Lib.hid (by rw [hc6])
        clear hk hc6
        have y4 := F6.out.cq.w.cell 4
        have f4 := F6.out.cq.w.fr 4
        obtain ⟨o4, ho4⟩ : ∃ o, (oA c6 A na m)[4]? = some o := ⟨_, rfl⟩
        rw [ho4] at y4
        clear ho4
        have y5 := F6.out.cq.w.cell 5
        have f5 := F6.out.cq.w.fr 5
        obtain ⟨o5, ho5⟩ : ∃ o, (oA c6 A na m)[5]? = some o := ⟨_, rfl⟩
        rw [ho5] at y5
        clear ho5
        have p1 := Fld.put (d' := { c6 with f := ⟨#[]⟩ }) F6.out HA.out 4 (.string ⟨#[]⟩) rfl rfl F6.out.cq.i.d.z { F6.out.cq.i.z with f := Nat.zero_le _ }
        have p2 := Fld.put (d' := { c6 with f := ⟨#[]⟩, t := ⟨#[98]⟩ }) p1 HA.out 5 (.string ⟨#[98]⟩) rfl rfl F6.out.cq.i.d.z { p1.cq.i.z with t := (by decide : (1 : Nat) ≤ 9223372036854775807) }
        have F7 := Lib.hid p2
        rw [HC6.out] at F7
        clear p1 p2
        go_wp2_with fail
        go_meet
        case rel => exact ⟨_, _, _, _, Lib.hid ⟨F7.out, HB.out⟩⟩
    · have HBT := Lib.hid (turnO_not c 6 n (by decide))
      have hw0 : IntKind.i64.wrap (21 + (n : Int)) = 21 + (n : Int) := IntWalk.i64_in _ (by omega)
      have y7 := F4.out.cq.w.cell 7
      have f7 := F4.out.cq.w.fr 7
      obtain ⟨o7, ho7⟩ : ∃ o, (oA c A na m)[7]? = some o := ⟨_, rfl⟩
      rw [ho7] at y7
      clear ho7
      go_upto_region 5 with fail
      have p0 := Fld.put (d' := { c with d := { c.d with r := 21 + (n : Int) } }) F4.out HA.out 7 (.int .i64 (21 + (n : Int))) rfl rfl ⟨F4.out.cq.i.d.z.1, (show In64 (21 + (n : Int)) from ⟨by omega, by omega⟩), F4.out.cq.i.d.z.3, F4.out.cq.i.d.z.4⟩ (by obtain ⟨a1, a2, a3, a4, a5, a6⟩ := F4.out.cq.i.z; constructor <;> assumption)
      have F6 := Lib.hid p0
      clear p0 y7 f7 F4
      generalize w4.setCell ⟨Q, 7, none⟩ (.int .i64 (21 + (n : Int))) = w6 at F6 ⊢
      have yk : w6.cell? ⟨P, 0, none⟩ = some (.int .i64 c.k) := F6.out.cp.w.cell 0
      by_cases hk : c.k = 8
      · have e1 : (c.k != 8) = false := by rw [hk]; rfl
        have HB : Hid (¬ opOk { c with d := { c.d with r := 21 + (n : Int) } }) := Lib.hid (by have h := HBT.out; have h2 : turnO c 6 n = if c.k = 8 then { c with d := { c.d with r := 21 + (n : Int) } } else { c with d := { zeroD with s := List.replicate (1 + n % 3) ⟨⟨#[]⟩, 0⟩ } } := rfl; rw [h2, if_pos hk] at h; exact h)
        clear hk
        go_wp2_with fail
        go_meet
        case rel => exact ⟨_, _, _, _, Lib.hid ⟨F6.out, HB.out⟩⟩
      · have e1 : (c.k != 8) = true := by rw [bne_iff_ne]; exact hk
        obtain ⟨z, hz⟩ : ∃ z : Nat, z = 1 + n % 3 := ⟨_, rfl⟩
        have HB : Hid (¬ opOk { c with d := wipeD z }) := Lib.hid (by have h := HBT.out; have h2 : turnO c 6 n = if c.k = 8 then { c with d := { c.d with r := 21 + (n : Int) } } else { c with d := { zeroD with s := List.replicate (1 + n % 3) ⟨⟨#[]⟩, 0⟩ } } := rfl; rw [h2, if_neg hk, ← hz] at h; exact h)
        have hzz : z = 1 ∨ z = 2 ∨ z = 3 := by omega
        have HZZ := Lib.hid hzz
        have htz : (n : Int).tmod 3 = (z : Int) - 1 := by rw [Int.tmod_eq_emod_of_nonneg (by omega)]; omega
        have hwz : IntKind.i64.wrap (1 + ((z : Int) - 1)) = (z : Int) := by rw [IntWalk.i64_in _ (by omega)]; omega
        have hwz2 : wrap64 (1 + ((z : Int) - 1)) = (z : Int) := by unfold wrap64; omega
        have hmk := run_makeZ hzz
        have ba := (Below.refl w6.heap.size w6).alloc (Nat.le_refl _) (.cells (stepsZ z) 71)
        have F7 := Lib.hid (F6.out.keep ba)
        have X7 := Lib.hid (Whole.new w6 71 (stepsZ z))
        have HXQ : Hid (w6.heap.size ≠ Q) := Lib.hid (Nat.ne_of_gt F6.out.cq.w.lt)
        obtain ⟨c6, hc6⟩ : ∃ c6 : Ov, c6 = { c with d := { c.d with r := 21 + (n : Int) } } := ⟨_, rfl⟩
        rw [← hc6] at F7
        have HC6 : Hid ({ c6 with d := wipeD z } = { c with d := wipeD z }) := Lib.hid (by rw [hc6])
        clear hk hz hzz ba hc6
        have F8 := Lib.hid (F7.out.wipe HA.out HZZ.out X7.out HXQ.out)
        rw [HC6.out] at F8
        have y6 := F7.out.cq.w.cell 6
        have f6 := F7.out.cq.w.fr 6
        obtain ⟨o6, ho6⟩ : ∃ o, (oA c6 A na m)[6]? = some o := ⟨_, rfl⟩
        rw [ho6] at y6
        clear ho6
        have y7 := F7.out.cq.w.cell 7
        have f7 := F7.out.cq.w.fr 7
        obtain ⟨o7, ho7⟩ : ∃ o, (oA c6 A na m)[7]? = some o := ⟨_, rfl⟩
        rw [ho7] at y7
        clear ho7
        have y8 := F7.out.cq.w.cell 8
        have f8 := F7.out.cq.w.fr 8
        obtain ⟨o8, ho8⟩ : ∃ o, (oA c6 A na m)[8]? = some o := ⟨_, rfl⟩
        rw [ho8] at y8
        clear ho8
        have y9 := F7.out.cq.w.cell 9
        have f9 := F7.out.cq.w.fr 9
        obtain ⟨o9, ho9⟩ : ∃ o, (oA c6 A na m)[9]? = some o := ⟨_, rfl⟩
        rw [ho9] at y9
        clear ho9
        go_wp2_with fail
        go_meet
        case rel => exact ⟨_, _, _, _, Lib.hid ⟨F8.out, HB.out⟩⟩
  case rest =>
  generalize wc = w10 at hcut ⊢
  obtain ⟨d, A', n', m', HF⟩ := hcut
  clear F4 HA HT hwn
  have PR := Lib.hid (print_no d A' n' m' w10 (HE.out.keep HF.out.1.bl) HF.out.1.cq.i HF.out.2)
  have HBD := Lib.hid HF.out.2
  go_upto_region 26 with (first
    | (refine wpList_load_row (by rfl) 34 (.tmp 8) (by rfl) _ (by rfl) 34 (oA d A' n' m') (0, 0) _ HF.out.1.cq.w Tryz.underlying34 (by rfl) (info10 d A' n' m') ?_)
    | (go_at_call 22; refine PR.out.mono ?_; rintro e w11 ⟨rfl, hb⟩; have G11 := Lib.hid (HF.out.1.keep hb); clear hb PR))
  clear HF
  have ba := (Below.refl w11.heap.size w11).alloc (Nat.le_refl _) (.cells (oA c A na m ++ oA d A' n' m') 34)
  have PA := Lib.hid (bad_print (HE.out.keep (G11.out.bl.trans (ba.mono G11.out.bl.size))) (two_slO G11.out.cp.i G11.out.cq.i _ rfl) rfl (o := d) (by simp) HBD.out)
  have G12 := Lib.hid (G11.out.keep ba)
  clear ba
  go_upto_region 27 with (first
    | (refine wpList_load_row (by rfl) 34 (.tmp 7) (by rfl) _ (by rfl) 34 (oA c A na m) (0, 0) _ G11.out.cp.w Tryz.underlying34 (by rfl) (info10 c A na m) ?_)
    | (refine wpList_load_row (by rfl) 34 (.tmp 8) (by rfl) _ (by rfl) 34 (oA d A' n' m') (0, 0) _ G11.out.cq.w Tryz.underlying34 (by rfl) (info10 d A' n' m') ?_)
    | (refine Great.wpList_buildSliceTo (by rfl) 24 34 2 #[(0, .tmp 84), (1, .tmp 85)] (by rfl) w11.heap.size rfl (some 86) (by rfl) Tryz.underlying24 (oA c A na m ++ oA d A' n' m') (by kernel_rfl) ?_)
    | (go_at_call 12; refine PA.out.mono ?_; rintro e w13 ⟨rfl, hb⟩; have G13 := Lib.hid (G12.out.keep hb); clear hb PA))
  clear G11 G12
  have ba := (Below.refl w13.heap.size w13).alloc (Nat.le_refl _) (.cells (oA d A' n' m' ++ oA c A na m) 34)
  have PA := Lib.hid (bad_calm (two_slO G13.out.cq.i G13.out.cp.i _ rfl) rfl (o := d) (by simp) HBD.out)
  have G14 := Lib.hid (G13.out.keep ba)
  clear ba
  go_upto_region 28 with (first
    | (refine wpList_load_row (by rfl) 34 (.tmp 8) (by rfl) _ (by rfl) 34 (oA d A' n' m') (0, 0) _ G13.out.cq.w Tryz.underlying34 (by rfl) (info10 d A' n' m') ?_)
    | (refine wpList_load_row (by rfl) 34 (.tmp 7) (by rfl) _ (by rfl) 34 (oA c A na m) (0, 0) _ G13.out.cp.w Tryz.underlying34 (by rfl) (info10 c A na m) ?_)
    | (refine Great.wpList_buildSliceTo (by rfl) 24 34 2 #[(0, .tmp 91), (1, .tmp 92)] (by rfl) w13.heap.size rfl (some 93) (by rfl) Tryz.underlying24 (oA d A' n' m' ++ oA c A na m) (by kernel_rfl) ?_)
    | (go_at_call 34; refine PA.out.mono ?_; rintro e w15 ⟨rfl, hb⟩; have G15 := Lib.hid (G14.out.keep hb); clear hb PA))
  clear G13 G14
  have CK := Lib.hid (check_no d A' n' m' w15 G15.out.cq.i HBD.out)
  have EQ := Lib.hid (fun (W : World) (h : Fld w P Q c A na m d A' n' m' W) => equal_b c d A A' na n' m m' W h.cp.i h.cq.i false (by simp only [Bool.false_eq_true, false_iff]; intro e; exact HBD.out (by rw [← e]; exact HOK.out)))
  clear HBD HOK
  go_wp2_with (first
    | (refine wpList_load_row (by rfl) 34 (.tmp 8) (by rfl) _ (by rfl) 34 (oA d A' n' m') (0, 0) _ G15.out.cq.w Tryz.underlying34 (by rfl) (info10 d A' n' m') ?_)
    | (go_at_call 24; refine CK.out.mono ?_; rintro e w16 ⟨rfl, hb⟩; have G16 := Lib.hid (G15.out.keep hb); clear hb CK)
    | (refine wpList_load_rowG (by rfl) 34 (.tmp 7) (by rfl) _ (by rfl) 34 (oA c A na m) (0, 0) _ G16.out.cp.w Tryz.underlying34 (by rfl) (info10 c A na m) ?_)
    | (refine wpList_load_rowG (by rfl) 34 (.tmp 8) (by rfl) _ (by rfl) 34 (oA d A' n' m') (0, 0) _ G16.out.cq.w Tryz.underlying34 (by rfl) (info10 d A' n' m') ?_)
    | (go_at_call 26; refine (EQ.out w16 G16.out).mono ?_; rintro e w17 ⟨rfl, hb⟩; have B17 := Lib.hid (G16.out.bl.trans (hb.mono G16.out.bl.size)); have W1 := Lib.hid (WK.out w17 B17.out); clear hb)
    | (go_at_call 20; refine W1.out.mono ?_; rintro e w18 ⟨rfl, hb⟩; have B18 := Lib.hid (B17.out.trans (hb.mono B17.out.size)); clear hb))
  go_ret
  exact ⟨rfl, B18.out⟩
end Go.Proofs.YtojodekmmkemgaaGreatDoor
