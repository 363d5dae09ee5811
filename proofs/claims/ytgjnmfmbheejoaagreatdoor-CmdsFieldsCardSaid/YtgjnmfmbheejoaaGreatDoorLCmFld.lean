/- CmdsFields returns true at every input. Conditions: as the statement's own. -/
import Derived.Test.YtgjnmfmbheejoaaGreatDoorCmUse
import Derived.Test.YtgjnmfmbheejoaaGreatDoorCmMd
namespace Go.Proofs.YtgjnmfmbheejoaaGreatDoor
open Go.RowKit Go.Shelf

theorem nm16 (n : Nat) : (nmBA n).size ≤ 16 := by
  have h : (nmBA n).size = 1 + n % 16 := by
    unfold nmBA nameL
    rw [Lib.size_mk, List.length_replicate]
  omega
/-- The turned command's definition is made anew. -/
theorem Fld.wipe {w W : World} {P Q : Nat} {c : Cv} {A : Option Addr} {n m : Nat} {d : Cv} {A' : Option Addr} {n' m' : Nat} (h : Fld w P Q c A n m d A' n' m' W) (hA : ∀ a : Addr, A = some a → c.d.s ≠ [] → a.block ≠ Q) (z : Int) (hz : In64 z) :
    Fld w P Q c A n m { d with d := ⟨⟨#[]⟩, 0, z, []⟩ } none 0 0 ((((W.setCell ⟨Q, 12, none⟩ (.string ⟨#[]⟩)).setCell ⟨Q, 13, none⟩ (.int .i64 0)).setCell ⟨Q, 14, none⟩ (.int .i64 z)).setCell ⟨Q, 15, none⟩ (.slice none 0 0)) := by
  have o := h.o
  have hh := h.h
  have g := grown_set (grown_set (grown_set (grown_set (World.grownBy.refl W (some Q)) 12 (.string ⟨#[]⟩)) 13 (.int .i64 0)) 14 (.int .i64 z)) 15 (.slice none 0 0)
  have hw := (((h.cq.w.put 12 (.string ⟨#[]⟩)).put 13 (.int .i64 0)).put 14 (.int .i64 z)).put 15 (.slice none 0 0)
  refine ⟨h.bl.grown g h.bl.size (fun k e => by cases e; exact hh), h.cp.grown g (fun e => o (Option.some.inj e)) (fun a ha hs e => hA a ha hs (Option.some.inj e)), ⟨by simpa [cA] using hw, ⟨⟨rfl, Nat.le_refl _, Nat.zero_le _, ⟨Nat.zero_le _, (⟨by decide, by decide⟩ : -9223372036854775808 ≤ (0 : Int) ∧ (0 : Int) ≤ 9223372036854775807), hz, fun i p hp => by simp at hp⟩, fun i p hp => by simp at hp⟩, ?_⟩, fun a ha => by cases ha⟩, o, hh⟩
  obtain ⟨a1, a2, a3, a4, a5, a6, a7, a8, a9, a10, a11, a12, a13, a14, a15, a16, a17, a18, a19⟩ := h.cq.i.z
  constructor <;> assumption
theorem info8 (x : Nv) : (Tryz.prog.info? 62).map (·.size) = some (nA x).size := by kernel_rfl
set_option maxRecDepth 100000 in
set_option maxHeartbeats 16000000 in
theorem cmdsFields_any (x : Nv) (hz : NvZ x) (wh : Int) (n : Nat) (w : World) (hE : DfE w) (hK : KndE w) (h0 : 0 ≤ wh) (_h1 : wh ≤ 255) (hn : n ≤ 65535) :
    Calls Tryz.prog 8 #[.agg (nA x), .int .u8 wh, .int .u16 (n : Int)] w fun e w' => e = .returned (.bool true) ∧ Below w.heap.size w w' := by
  have HZ := Lib.hid hz
  have HE := Lib.hid hE
  obtain ⟨c, hc⟩ : ∃ c, c = madeC x := ⟨_, rfl⟩
  have HOK : Hid (cmdOk c) := Lib.hid (by rw [hc]; exact madeC_ok x hz.data)
  have MD := Lib.hid (fun W (h : Below w.heap.size w W) => made_any x hz W (hK.keep h))
  unfold MadeR at MD
  rw [← hc] at MD
  have WK := Lib.hid (fun (W : World) (hb : Below w.heap.size w W) => works_any W (hE.keep hb))
  have I1 := Lib.hid (And.intro ((Below.refl w.heap.size w).alloc (Nat.le_refl _) (.cells (nA x) 62)) (Whole.new w 62 (nA x)))
  obtain ⟨wt, hwt⟩ : ∃ wt : Int, wh % 12 = wt := ⟨_, rfl⟩
  have ht : wt = 0 ∨ wt = 1 ∨ wt = 2 ∨ wt = 3 ∨ wt = 4 ∨ wt = 5 ∨ wt = 6 ∨ wt = 7 ∨ wt = 8 ∨ wt = 9 ∨ wt = 10 ∨ wt = 11 := by omega
  have HT := Lib.hid ht
  have hwt2 : wh.tmod 12 = wt := by rw [Int.tmod_eq_emod_of_nonneg (by omega)]; exact hwt
  have hwn : IntKind.i64.wrap (n : Int) = (n : Int) := IntWalk.i64_in _ (by omega)
  clear hz hE hK hc h0 ht
  go_enter Tryz.func8, Tryz.ntmps8
  go_upto_region 1 with fail
  generalize w.alloc (.cells (nA x) 62) = w1 at I1 ⊢
  have MD := Lib.hid (MD.out w1 I1.out.1)
  go_upto_region 2 with (first
    | (refine wpList_load_row (by rfl) 62 (.tmp 3) (by rfl) _ (by rfl) 62 (nA x) (0, 0) _ I1.out.2 Tryz.underlying62 (by rfl) (info8 x) ?_)
    | (go_at_call 36; refine MD.out.mono ?_; rintro e w2 ⟨⟨A, na, m, rfl, hi⟩, hb⟩; have ba := (Below.refl w2.heap.size w2).alloc (Nat.le_refl _) (.cells (cA c A na m) 36); have b2 := I1.out.1.trans (hb.mono I1.out.1.size); have I2 := Lib.hid (And.intro (b2.trans (ba.mono b2.size)) (And.intro ((I1.out.2.keep hb).keep ba) (CmdAt.new hi))); clear hi hb ba b2 MD)
    | (refine wpList_store_row (by rfl) 36 (.tmp 7) (.tmp 16) (by rfl) _ (cA c A na m) (by rfl) (by rfl) 36 _ (heap_alloc_new _ _) (info24 _ _ _ _) (by rfl) (all24 _ _ _ _) ?_; rw [World.setRow_alloc_new]))
  clear I1
  generalize w2.alloc (.cells (cA c A na m) 36) = w3 at I2 ⊢
  generalize w2.heap.size = P at I2 ⊢
  go_upto_region 3 with (first
    | (refine wpList_load_row (by rfl) 36 (.tmp 7) (by rfl) _ (by rfl) 36 (cA c A na m) (0, 0) _ I2.out.2.2.w Tryz.underlying36 (by rfl) (info24 c A na m) ?_)
    | (refine wpList_store_row (by rfl) 36 (.tmp 8) (.tmp 17) (by rfl) _ (cA c A na m) (by rfl) (by rfl) 36 _ (heap_alloc_new _ _) (info24 _ _ _ _) (by rfl) (all24 _ _ _ _) ?_; rw [World.setRow_alloc_new]))
  have ba := (Below.refl w3.heap.size w3).alloc (Nat.le_refl _) (.cells (cA c A na m) 36)
  have F4 : Hid (Fld w P w3.heap.size c A na m c A na m (w3.alloc (.cells (cA c A na m) 36))) := Lib.hid ⟨I2.out.1.trans (ba.mono I2.out.1.size), I2.out.2.2.keep ba, CmdAt.new I2.out.2.2.i, Nat.ne_of_lt I2.out.2.2.lt, I2.out.1.size⟩
  have NM := Lib.hid (I2.out.2.1.keep ba)
  have HA : Hid (∀ a : Addr, A = some a → c.d.s ≠ [] → a.block ≠ w3.heap.size) := Lib.hid (fun a ha hs => Nat.ne_of_lt (slD_lt I2.out.2.2.i.d.s a ha hs))
  clear ba I2
  generalize w3.alloc (.cells (cA c A na m) 36) = w4 at F4 NM ⊢
  generalize w3.heap.size = Q at F4 HA ⊢
  have hmf : ∀ (fn : Fn) (first cap : Array Value) (w : World), (Instr.makeFunc fn first cap).run Tryz.prog w = .ok (.func fn first cap) w := fun _ _ _ _ => rfl
  go_upto_block 0 with fail
  clear hwt hwt2
  go_cut [] from 23 to 146 (fun wx => ∃ (d : Cv) (A' : Option Addr) (n' m' : Nat), Hid (Fld w P Q c A na m d A' n' m' wx ∧ ¬ cmdOk d))
  case first =>
    rcases HT.out with rfl | rfl | rfl | rfl | rfl | rfl | rfl | rfl | rfl | rfl | rfl | rfl
    · have hw0 : IntKind.i64.wrap (16 + (n : Int)) = 16 + (n : Int) := IntWalk.i64_in _ (by omega)
      have y0 := F4.out.cq.w.cell 0
      have f0 := F4.out.cq.w.fr 0
      obtain ⟨o0, ho0⟩ : ∃ o, (cA c A na m)[0]? = some o := ⟨_, rfl⟩
      rw [ho0] at y0
      clear ho0
      have HKZ : Hid ((0 : Nat) ≤ 9223372036854775807) := Lib.hid (Nat.zero_le _)
      have p0 := Fld.put (d' := { c with k := 16 + (n : Int) }) (F4.out) HA.out 0 (.int .i64 (16 + (n : Int))) rfl rfl F4.out.cq.i.d.z (by have hz8 := F4.out.cq.i.z; constructor <;> first | exact hz8.k | exact hz8.call | exact hz8.saga | exact hz8.ea | exact hz8.eb | exact hz8.ec | exact hz8.dl | exact hz8.mv | exact hz8.g | exact hz8.ia | exact hz8.ib | exact hz8.ic | exact hz8.im | exact hz8.ig | exact hz8.res | exact hz8.key | exact hz8.f | exact hz8.t | exact hz8.data | exact in64_i (by show -9223372036854775808 ≤ (16 + (n : Int)); omega) (by show (16 + (n : Int)) ≤ 9223372036854775807; omega) | exact (by decide : (1 : Nat) ≤ 9223372036854775807) | exact Nat.zero_le _ | exact HKZ.out)
      have F6 := Lib.hid p0
      have HB : Hid (¬ cmdOk ({ c with k := 16 + (n : Int) })) := Lib.hid (bad_kind c n)
      clear p0 F4
      go_wp2_with fail
      go_meet
      case rel => exact ⟨_, _, _, _, Lib.hid ⟨F6.out, HB.out⟩⟩
    · have hw1 : IntKind.i64.wrap (2147483649 + (n : Int)) = 2147483649 + (n : Int) := IntWalk.i64_in _ (by omega)
      have hw1x : IntKind.i64.wrap (1 + (n : Int)) = 1 + (n : Int) := IntWalk.i64_in _ (by omega)
      have y1 := F4.out.cq.w.cell 1
      have f1 := F4.out.cq.w.fr 1
      obtain ⟨o1, ho1⟩ : ∃ o, (cA c A na m)[1]? = some o := ⟨_, rfl⟩
      rw [ho1] at y1
      clear ho1
      have HKZ : Hid ((0 : Nat) ≤ 9223372036854775807) := Lib.hid (Nat.zero_le _)
      go_upto_region 12 with fail
      have p0 := Fld.put (d' := { c with call := 2147483649 + (n : Int) }) (F4.out) HA.out 1 (.int .i64 (2147483649 + (n : Int))) rfl rfl F4.out.cq.i.d.z (by have hz8 := F4.out.cq.i.z; constructor <;> first | exact hz8.k | exact hz8.call | exact hz8.saga | exact hz8.ea | exact hz8.eb | exact hz8.ec | exact hz8.dl | exact hz8.mv | exact hz8.g | exact hz8.ia | exact hz8.ib | exact hz8.ic | exact hz8.im | exact hz8.ig | exact hz8.res | exact hz8.key | exact hz8.f | exact hz8.t | exact hz8.data | exact in64_i (by show -9223372036854775808 ≤ (2147483649 + (n : Int)); omega) (by show (2147483649 + (n : Int)) ≤ 9223372036854775807; omega) | exact (by decide : (1 : Nat) ≤ 9223372036854775807) | exact Nat.zero_le _ | exact HKZ.out)
      have F6 := Lib.hid p0
      clear p0 y1 f1
      generalize (w4.setCell ⟨Q, 1, none⟩ (.int .i64 (2147483649 + (n : Int)))) = w6 at F6 ⊢
      have yk : w6.cell? ⟨P, 0, none⟩ = some (.int .i64 c.k) := F6.out.cp.w.cell 0
      have ba := (Below.refl w6.heap.size w6).alloc (Nat.le_refl _) (.cells #[.int .i64 2, .int .i64 11, .int .i64 12, .int .i64 13, .int .i64 14] 3)
      have XB := Whole.new w6 3 #[.int .i64 2, .int .i64 11, .int .i64 12, .int .i64 13, .int .i64 14]
      have US := Lib.hid (uses_any c.k w6.heap.size P 5 [2, 11, 12, 13, 14] (w6.alloc (.cells #[.int .i64 2, .int .i64 11, .int .i64 12, .int .i64 13, .int .i64 14] 3)) rfl (by decide) (fun i v hi => by
        rw [XB.cell]
        match i, hi with
        | 0, hi => cases hi; rfl
        | 1, hi => cases hi; rfl
        | 2, hi => cases hi; rfl
        | 3, hi => cases hi; rfl
        | 4, hi => cases hi; rfl
        | i + 5, hi => exact absurd hi (by simp)) (bcell yk ba))
      have F7 := Lib.hid (F6.out.keep ba)
      obtain ⟨q, hq⟩ : ∃ q, q = decide (c.k ∈ ([2, 11, 12, 13, 14] : List Int)) := ⟨_, rfl⟩
      rw [← hq] at US
      have HQ : Hid ((q = true → (c.k = 2 ∨ c.k = 11 ∨ c.k = 12 ∨ c.k = 13 ∨ c.k = 14)) ∧ (q = false → ¬ (c.k = 2 ∨ c.k = 11 ∨ c.k = 12 ∨ c.k = 13 ∨ c.k = 14))) := Lib.hid (by rw [hq]; constructor <;> intro h <;> simpa using h)
      clear hq ba XB
      cases q with
      | true =>
        have HB : Hid (¬ cmdOk ({ c with call := 2147483649 + (n : Int) })) := Lib.hid (bad_u_call c n (HQ.out.1 rfl))
        go_wp2_with (go_at_call 37; refine US.out.mono ?_; rintro e w7 ⟨rfl, rfl⟩)
        go_meet
        case rel => exact ⟨_, _, _, _, Lib.hid ⟨F7.out, HB.out⟩⟩
      | false =>
        obtain ⟨c6, hc6⟩ : ∃ c6 : Cv, c6 = ({ c with call := 2147483649 + (n : Int) }) := ⟨_, rfl⟩
        have F8 := Lib.hid (show Fld w P Q c A na m c6 A na m (w6.alloc (.cells #[.int .i64 2, .int .i64 11, .int .i64 12, .int .i64 13, .int .i64 14] 3)) from by rw [hc6]; exact F7.out)
        have y1 := F8.out.cq.w.cell 1
        have f1 := F8.out.cq.w.fr 1
        obtain ⟨o1, ho1⟩ : ∃ o, (cA c6 A na m)[1]? = some o := ⟨_, rfl⟩
        rw [ho1] at y1
        clear ho1
        have r0 := Fld.put (d' := { c6 with call := 1 + (n : Int) }) (F8.out) HA.out 1 (.int .i64 (1 + (n : Int))) rfl rfl F8.out.cq.i.d.z (by have hz8 := F8.out.cq.i.z; constructor <;> first | exact hz8.k | exact hz8.call | exact hz8.saga | exact hz8.ea | exact hz8.eb | exact hz8.ec | exact hz8.dl | exact hz8.mv | exact hz8.g | exact hz8.ia | exact hz8.ib | exact hz8.ic | exact hz8.im | exact hz8.ig | exact hz8.res | exact hz8.key | exact hz8.f | exact hz8.t | exact hz8.data | exact in64_i (by show -9223372036854775808 ≤ (1 + (n : Int)); omega) (by show (1 + (n : Int)) ≤ 9223372036854775807; omega) | exact (by decide : (1 : Nat) ≤ 9223372036854775807) | exact Nat.zero_le _ | exact HKZ.out)
        have HB : Hid (¬ cmdOk ({ c6 with call := 1 + (n : Int) })) := Lib.hid (by rw [hc6]; exact bad_m_call c n (HQ.out.2 rfl))
        have F9 := Lib.hid r0
        clear hc6 r0
        go_wp2_with (go_at_call 37; refine US.out.mono ?_; rintro e w7 ⟨rfl, rfl⟩)
        go_meet
        case rel => exact ⟨_, _, _, _, Lib.hid ⟨F9.out, HB.out⟩⟩
    · have hw2 : IntKind.i64.wrap (10000 + (n : Int)) = 10000 + (n : Int) := IntWalk.i64_in _ (by omega)
      have hw2x : IntKind.i64.wrap (1 + (n : Int)) = 1 + (n : Int) := IntWalk.i64_in _ (by omega)
      have y2 := F4.out.cq.w.cell 2
      have f2 := F4.out.cq.w.fr 2
      obtain ⟨o2, ho2⟩ : ∃ o, (cA c A na m)[2]? = some o := ⟨_, rfl⟩
      rw [ho2] at y2
      clear ho2
      have HKZ : Hid ((0 : Nat) ≤ 9223372036854775807) := Lib.hid (Nat.zero_le _)
      go_upto_region 16 with fail
      have p0 := Fld.put (d' := { c with saga := 10000 + (n : Int) }) (F4.out) HA.out 2 (.int .i64 (10000 + (n : Int))) rfl rfl F4.out.cq.i.d.z (by have hz8 := F4.out.cq.i.z; constructor <;> first | exact hz8.k | exact hz8.call | exact hz8.saga | exact hz8.ea | exact hz8.eb | exact hz8.ec | exact hz8.dl | exact hz8.mv | exact hz8.g | exact hz8.ia | exact hz8.ib | exact hz8.ic | exact hz8.im | exact hz8.ig | exact hz8.res | exact hz8.key | exact hz8.f | exact hz8.t | exact hz8.data | exact in64_i (by show -9223372036854775808 ≤ (10000 + (n : Int)); omega) (by show (10000 + (n : Int)) ≤ 9223372036854775807; omega) | exact (by decide : (1 : Nat) ≤ 9223372036854775807) | exact Nat.zero_le _ | exact HKZ.out)
      have F6 := Lib.hid p0
      clear p0 y2 f2
      generalize (w4.setCell ⟨Q, 2, none⟩ (.int .i64 (10000 + (n : Int)))) = w6 at F6 ⊢
      have yk : w6.cell? ⟨P, 0, none⟩ = some (.int .i64 c.k) := F6.out.cp.w.cell 0
      have ba := (Below.refl w6.heap.size w6).alloc (Nat.le_refl _) (.cells #[.int .i64 11, .int .i64 12, .int .i64 13] 3)
      have XB := Whole.new w6 3 #[.int .i64 11, .int .i64 12, .int .i64 13]
      have US := Lib.hid (uses_any c.k w6.heap.size P 3 [11, 12, 13] (w6.alloc (.cells #[.int .i64 11, .int .i64 12, .int .i64 13] 3)) rfl (by decide) (fun i v hi => by
        rw [XB.cell]
        match i, hi with
        | 0, hi => cases hi; rfl
        | 1, hi => cases hi; rfl
        | 2, hi => cases hi; rfl
        | i + 3, hi => exact absurd hi (by simp)) (bcell yk ba))
      have F7 := Lib.hid (F6.out.keep ba)
      obtain ⟨q, hq⟩ : ∃ q, q = decide (c.k ∈ ([11, 12, 13] : List Int)) := ⟨_, rfl⟩
      rw [← hq] at US
      have HQ : Hid ((q = true → (c.k = 11 ∨ c.k = 12 ∨ c.k = 13)) ∧ (q = false → ¬ (c.k = 11 ∨ c.k = 12 ∨ c.k = 13))) := Lib.hid (by rw [hq]; constructor <;> intro h <;> simpa using h)
      clear hq ba XB
      cases q with
      | true =>
        have HB : Hid (¬ cmdOk ({ c with saga := 10000 + (n : Int) })) := Lib.hid (bad_u_saga c n (HQ.out.1 rfl))
        go_wp2_with (go_at_call 37; refine US.out.mono ?_; rintro e w7 ⟨rfl, rfl⟩)
        go_meet
        case rel => exact ⟨_, _, _, _, Lib.hid ⟨F7.out, HB.out⟩⟩
      | false =>
        obtain ⟨c6, hc6⟩ : ∃ c6 : Cv, c6 = ({ c with saga := 10000 + (n : Int) }) := ⟨_, rfl⟩
        have F8 := Lib.hid (show Fld w P Q c A na m c6 A na m (w6.alloc (.cells #[.int .i64 11, .int .i64 12, .int .i64 13] 3)) from by rw [hc6]; exact F7.out)
        have y2 := F8.out.cq.w.cell 2
        have f2 := F8.out.cq.w.fr 2
        obtain ⟨o2, ho2⟩ : ∃ o, (cA c6 A na m)[2]? = some o := ⟨_, rfl⟩
        rw [ho2] at y2
        clear ho2
        have r0 := Fld.put (d' := { c6 with saga := 1 + (n : Int) }) (F8.out) HA.out 2 (.int .i64 (1 + (n : Int))) rfl rfl F8.out.cq.i.d.z (by have hz8 := F8.out.cq.i.z; constructor <;> first | exact hz8.k | exact hz8.call | exact hz8.saga | exact hz8.ea | exact hz8.eb | exact hz8.ec | exact hz8.dl | exact hz8.mv | exact hz8.g | exact hz8.ia | exact hz8.ib | exact hz8.ic | exact hz8.im | exact hz8.ig | exact hz8.res | exact hz8.key | exact hz8.f | exact hz8.t | exact hz8.data | exact in64_i (by show -9223372036854775808 ≤ (1 + (n : Int)); omega) (by show (1 + (n : Int)) ≤ 9223372036854775807; omega) | exact (by decide : (1 : Nat) ≤ 9223372036854775807) | exact Nat.zero_le _ | exact HKZ.out)
        have HB : Hid (¬ cmdOk ({ c6 with saga := 1 + (n : Int) })) := Lib.hid (by rw [hc6]; exact bad_m_saga c n (HQ.out.2 rfl))
        have F9 := Lib.hid r0
        clear hc6 r0
        go_wp2_with (go_at_call 37; refine US.out.mono ?_; rintro e w7 ⟨rfl, rfl⟩)
        go_meet
        case rel => exact ⟨_, _, _, _, Lib.hid ⟨F9.out, HB.out⟩⟩
    · have hw5 : IntKind.i64.wrap (4 + (n : Int)) = 4 + (n : Int) := IntWalk.i64_in _ (by omega)
      have y5 := F4.out.cq.w.cell 5
      have f5 := F4.out.cq.w.fr 5
      obtain ⟨o5, ho5⟩ : ∃ o, (cA c A na m)[5]? = some o := ⟨_, rfl⟩
      rw [ho5] at y5
      clear ho5
      have HKZ : Hid ((0 : Nat) ≤ 9223372036854775807) := Lib.hid (Nat.zero_le _)
      go_upto_region 20 with fail
      have p0 := Fld.put (d' := { c with ec := 4 + (n : Int) }) (F4.out) HA.out 5 (.int .i64 (4 + (n : Int))) rfl rfl F4.out.cq.i.d.z (by have hz8 := F4.out.cq.i.z; constructor <;> first | exact hz8.k | exact hz8.call | exact hz8.saga | exact hz8.ea | exact hz8.eb | exact hz8.ec | exact hz8.dl | exact hz8.mv | exact hz8.g | exact hz8.ia | exact hz8.ib | exact hz8.ic | exact hz8.im | exact hz8.ig | exact hz8.res | exact hz8.key | exact hz8.f | exact hz8.t | exact hz8.data | exact in64_i (by show -9223372036854775808 ≤ (4 + (n : Int)); omega) (by show (4 + (n : Int)) ≤ 9223372036854775807; omega) | exact (by decide : (1 : Nat) ≤ 9223372036854775807) | exact Nat.zero_le _ | exact HKZ.out)
      have F6 := Lib.hid p0
      clear p0 y5 f5
      generalize (w4.setCell ⟨Q, 5, none⟩ (.int .i64 (4 + (n : Int)))) = w6 at F6 ⊢
      have yk : w6.cell? ⟨P, 0, none⟩ = some (.int .i64 c.k) := F6.out.cp.w.cell 0
      have ba := (Below.refl w6.heap.size w6).alloc (Nat.le_refl _) (.cells #[.int .i64 1] 3)
      have XB := Whole.new w6 3 #[.int .i64 1]
      have US := Lib.hid (uses_any c.k w6.heap.size P 1 [1] (w6.alloc (.cells #[.int .i64 1] 3)) rfl (by decide) (fun i v hi => by
        rw [XB.cell]
        match i, hi with
        | 0, hi => cases hi; rfl
        | i + 1, hi => exact absurd hi (by simp)) (bcell yk ba))
      have F7 := Lib.hid (F6.out.keep ba)
      obtain ⟨q, hq⟩ : ∃ q, q = decide (c.k ∈ ([1] : List Int)) := ⟨_, rfl⟩
      rw [← hq] at US
      have HQ : Hid ((q = true → (c.k = 1)) ∧ (q = false → ¬ (c.k = 1))) := Lib.hid (by rw [hq]; constructor <;> intro h <;> simpa using h)
      clear hq ba XB
      cases q with
      | true =>
        have HB : Hid (¬ cmdOk ({ c with ec := 4 + (n : Int) })) := Lib.hid (bad_u_eff c n (HQ.out.1 rfl))
        go_wp2_with (go_at_call 37; refine US.out.mono ?_; rintro e w7 ⟨rfl, rfl⟩)
        go_meet
        case rel => exact ⟨_, _, _, _, Lib.hid ⟨F7.out, HB.out⟩⟩
      | false =>
        obtain ⟨c6, hc6⟩ : ∃ c6 : Cv, c6 = ({ c with ec := 4 + (n : Int) }) := ⟨_, rfl⟩
        have F8 := Lib.hid (show Fld w P Q c A na m c6 A na m (w6.alloc (.cells #[.int .i64 1] 3)) from by rw [hc6]; exact F7.out)
        have y3 := F8.out.cq.w.cell 3
        have f3 := F8.out.cq.w.fr 3
        obtain ⟨o3, ho3⟩ : ∃ o, (cA c6 A na m)[3]? = some o := ⟨_, rfl⟩
        rw [ho3] at y3
        have y4 := F8.out.cq.w.cell 4
        have f4 := F8.out.cq.w.fr 4
        obtain ⟨o4, ho4⟩ : ∃ o, (cA c6 A na m)[4]? = some o := ⟨_, rfl⟩
        rw [ho4] at y4
        have y5 := F8.out.cq.w.cell 5
        have f5 := F8.out.cq.w.fr 5
        obtain ⟨o5, ho5⟩ : ∃ o, (cA c6 A na m)[5]? = some o := ⟨_, rfl⟩
        rw [ho5] at y5
        clear ho3 ho4 ho5
        have r0 := Fld.put (d' := { c6 with ea := 1 }) (F8.out) HA.out 3 (.int .i64 1) rfl rfl F8.out.cq.i.d.z (by have hz8 := F8.out.cq.i.z; constructor <;> first | exact hz8.k | exact hz8.call | exact hz8.saga | exact hz8.ea | exact hz8.eb | exact hz8.ec | exact hz8.dl | exact hz8.mv | exact hz8.g | exact hz8.ia | exact hz8.ib | exact hz8.ic | exact hz8.im | exact hz8.ig | exact hz8.res | exact hz8.key | exact hz8.f | exact hz8.t | exact hz8.data | exact in64_i (by show -9223372036854775808 ≤ 1; omega) (by show 1 ≤ 9223372036854775807; omega) | exact (by decide : (1 : Nat) ≤ 9223372036854775807) | exact Nat.zero_le _ | exact HKZ.out)
        have r1 := Fld.put (d' := { ({ c6 with ea := 1 }) with eb := 0 }) (r0) HA.out 4 (.int .i64 0) rfl rfl r0.cq.i.d.z (by have hz8 := r0.cq.i.z; constructor <;> first | exact hz8.k | exact hz8.call | exact hz8.saga | exact hz8.ea | exact hz8.eb | exact hz8.ec | exact hz8.dl | exact hz8.mv | exact hz8.g | exact hz8.ia | exact hz8.ib | exact hz8.ic | exact hz8.im | exact hz8.ig | exact hz8.res | exact hz8.key | exact hz8.f | exact hz8.t | exact hz8.data | exact in64_i (by show -9223372036854775808 ≤ 0; omega) (by show 0 ≤ 9223372036854775807; omega) | exact (by decide : (1 : Nat) ≤ 9223372036854775807) | exact Nat.zero_le _ | exact HKZ.out)
        have r2 := Fld.put (d' := { ({ ({ c6 with ea := 1 }) with eb := 0 }) with ec := 1 }) (r1) HA.out 5 (.int .i64 1) rfl rfl r1.cq.i.d.z (by have hz8 := r1.cq.i.z; constructor <;> first | exact hz8.k | exact hz8.call | exact hz8.saga | exact hz8.ea | exact hz8.eb | exact hz8.ec | exact hz8.dl | exact hz8.mv | exact hz8.g | exact hz8.ia | exact hz8.ib | exact hz8.ic | exact hz8.im | exact hz8.ig | exact hz8.res | exact hz8.key | exact hz8.f | exact hz8.t | exact hz8.data | exact in64_i (by show -9223372036854775808 ≤ 1; omega) (by show 1 ≤ 9223372036854775807; omega) | exact (by decide : (1 : Nat) ≤ 9223372036854775807) | exact Nat.zero_le _ | exact HKZ.out)
        have HB : Hid (¬ cmdOk ({ ({ ({ c6 with ea := 1 }) with eb := 0 }) with ec := 1 })) := Lib.hid (by rw [hc6]; exact bad_m_eff c (HQ.out.2 rfl))
        have F9 := Lib.hid r2
        clear hc6 r0 r1 r2
        go_wp2_with (go_at_call 37; refine US.out.mono ?_; rintro e w7 ⟨rfl, rfl⟩)
        go_meet
        case rel => exact ⟨_, _, _, _, Lib.hid ⟨F9.out, HB.out⟩⟩
    · have y6 := F4.out.cq.w.cell 6
      have f6 := F4.out.cq.w.fr 6
      obtain ⟨o6, ho6⟩ : ∃ o, (cA c A na m)[6]? = some o := ⟨_, rfl⟩
      rw [ho6] at y6
      clear ho6
      have x2 : w4.cell? ⟨w.heap.size, 2, none⟩ = some (.int .u8 (x.key : Int)) := NM.out.cell 2
      obtain ⟨K, eK, zK, hadd⟩ := add_ba (nmBA x.key) ⟨#[45]⟩ (by have := nm16 x.key; show (nmBA x.key).size + 1 ≤ _; omega)
      have HKN : Hid (¬ isName K.data.toList = true) := Lib.hid (fun h => by
        have hm : (45 : UInt8) ∈ K.data.toList := by rw [eK.out]; exact List.mem_append_right _ (List.mem_singleton.2 rfl)
        exact absurd (isName_mem h hm) (by decide))
      have HKZ : Hid (K.size ≤ 9223372036854775807) := Lib.hid (by have := nm16 x.key; rw [zK]; show (nmBA x.key).size + 1 ≤ _; omega)
      have NK := Lib.hid (made_name x.key HZ.out.key w4)
      generalize nmBA x.key = kk at hadd NK
      clear zK eK
      go_upto_region 24 with (go_at_call 38; refine NK.out.mono ?_; rintro e w5 ⟨rfl, hb⟩; have F5 := Lib.hid (F4.out.keep hb); clear y6 f6; have y6 := F5.out.cq.w.cell 6; have f6 := F5.out.cq.w.fr 6; obtain ⟨o6, ho6⟩ : ∃ o, (cA c A na m)[6]? = some o := ⟨_, rfl⟩; rw [ho6] at y6; clear ho6 hb NK)
      have p0 := Fld.put (d' := { c with key := K }) (F5.out) HA.out 6 (.string K) rfl rfl F5.out.cq.i.d.z (by have hz8 := F5.out.cq.i.z; constructor <;> first | exact hz8.k | exact hz8.call | exact hz8.saga | exact hz8.ea | exact hz8.eb | exact hz8.ec | exact hz8.dl | exact hz8.mv | exact hz8.g | exact hz8.ia | exact hz8.ib | exact hz8.ic | exact hz8.im | exact hz8.ig | exact hz8.res | exact hz8.key | exact hz8.f | exact hz8.t | exact hz8.data | exact in64_i (by show -9223372036854775808 ≤ (0 : Int); omega) (by show (0 : Int) ≤ 9223372036854775807; omega) | exact (by decide : (1 : Nat) ≤ 9223372036854775807) | exact Nat.zero_le _ | exact HKZ.out)
      clear y6 f6 x2
      have F6 := Lib.hid p0
      generalize (w5.setCell ⟨Q, 6, none⟩ (.string K)) = w6 at F6 ⊢
      have yk : w6.cell? ⟨P, 0, none⟩ = some (.int .i64 c.k) := F6.out.cp.w.cell 0
      have ba := (Below.refl w6.heap.size w6).alloc (Nat.le_refl _) (.cells #[.int .i64 1, .int .i64 2] 3)
      have XB := Whole.new w6 3 #[.int .i64 1, .int .i64 2]
      have US := Lib.hid (uses_any c.k w6.heap.size P 2 [1, 2] (w6.alloc (.cells #[.int .i64 1, .int .i64 2] 3)) rfl (by decide) (fun i v hi => by
        rw [XB.cell]
        match i, hi with
        | 0, hi => cases hi; rfl
        | 1, hi => cases hi; rfl
        | i + 2, hi => exact absurd hi (by simp)) (bcell yk ba))
      have F7 := Lib.hid (F6.out.keep ba)
      obtain ⟨q, hq⟩ : ∃ q, q = decide (c.k ∈ ([1, 2] : List Int)) := ⟨_, rfl⟩
      rw [← hq] at US
      have HQ : Hid ((q = true → (c.k = 1 ∨ c.k = 2)) ∧ (q = false → ¬ (c.k = 1 ∨ c.k = 2))) := Lib.hid (by rw [hq]; constructor <;> intro h <;> simpa using h)
      clear hq ba XB
      cases q with
      | true =>
        have HB : Hid (¬ cmdOk ({ c with key := K })) := Lib.hid (bad_u_key c K HKN.out (HQ.out.1 rfl))
        go_wp2_with (go_at_call 37; refine US.out.mono ?_; rintro e w7 ⟨rfl, rfl⟩)
        go_meet
        case rel => exact ⟨_, _, _, _, Lib.hid ⟨F7.out, HB.out⟩⟩
      | false =>
        obtain ⟨c6, hc6⟩ : ∃ c6 : Cv, c6 = ({ c with key := K }) := ⟨_, rfl⟩
        have F8 := Lib.hid (show Fld w P Q c A na m c6 A na m (w6.alloc (.cells #[.int .i64 1, .int .i64 2] 3)) from by rw [hc6]; exact F7.out)
        have y6 := F8.out.cq.w.cell 6
        have f6 := F8.out.cq.w.fr 6
        obtain ⟨o6, ho6⟩ : ∃ o, (cA c6 A na m)[6]? = some o := ⟨_, rfl⟩
        rw [ho6] at y6
        clear ho6
        have r0 := Fld.put (d' := { c6 with key := ⟨#[97]⟩ }) (F8.out) HA.out 6 (.string ⟨#[97]⟩) rfl rfl F8.out.cq.i.d.z (by have hz8 := F8.out.cq.i.z; constructor <;> first | exact hz8.k | exact hz8.call | exact hz8.saga | exact hz8.ea | exact hz8.eb | exact hz8.ec | exact hz8.dl | exact hz8.mv | exact hz8.g | exact hz8.ia | exact hz8.ib | exact hz8.ic | exact hz8.im | exact hz8.ig | exact hz8.res | exact hz8.key | exact hz8.f | exact hz8.t | exact hz8.data | exact in64_i (by show -9223372036854775808 ≤ (0 : Int); omega) (by show (0 : Int) ≤ 9223372036854775807; omega) | exact (by decide : (1 : Nat) ≤ 9223372036854775807) | exact Nat.zero_le _ | exact HKZ.out)
        have HB : Hid (¬ cmdOk ({ c6 with key := ⟨#[97]⟩ })) := Lib.hid (by rw [hc6]; exact bad_m_key c (HQ.out.2 rfl))
        have F9 := Lib.hid r0
        clear hc6 r0
        go_wp2_with (go_at_call 37; refine US.out.mono ?_; rintro e w7 ⟨rfl, rfl⟩)
        go_meet
        case rel => exact ⟨_, _, _, _, Lib.hid ⟨F9.out, HB.out⟩⟩
    · have hw7x : IntKind.i64.wrap (1 + (n : Int)) = 1 + (n : Int) := IntWalk.i64_in _ (by omega)
      have y7 := F4.out.cq.w.cell 7
      have f7 := F4.out.cq.w.fr 7
      obtain ⟨o7, ho7⟩ : ∃ o, (cA c A na m)[7]? = some o := ⟨_, rfl⟩
      rw [ho7] at y7
      clear ho7
      have HKZ : Hid ((0 : Nat) ≤ 9223372036854775807) := Lib.hid (Nat.zero_le _)
      go_upto_region 28 with fail
      have p0 := Fld.put (d' := { c with dl := 0 }) (F4.out) HA.out 7 (.int .i64 0) rfl rfl F4.out.cq.i.d.z (by have hz8 := F4.out.cq.i.z; constructor <;> first | exact hz8.k | exact hz8.call | exact hz8.saga | exact hz8.ea | exact hz8.eb | exact hz8.ec | exact hz8.dl | exact hz8.mv | exact hz8.g | exact hz8.ia | exact hz8.ib | exact hz8.ic | exact hz8.im | exact hz8.ig | exact hz8.res | exact hz8.key | exact hz8.f | exact hz8.t | exact hz8.data | exact in64_i (by show -9223372036854775808 ≤ 0; omega) (by show 0 ≤ 9223372036854775807; omega) | exact (by decide : (1 : Nat) ≤ 9223372036854775807) | exact Nat.zero_le _ | exact HKZ.out)
      have F6 := Lib.hid p0
      clear p0 y7 f7
      generalize (w4.setCell ⟨Q, 7, none⟩ (.int .i64 0)) = w6 at F6 ⊢
      have yk : w6.cell? ⟨P, 0, none⟩ = some (.int .i64 c.k) := F6.out.cp.w.cell 0
      by_cases hk : c.k = 1
      · have ek : (c.k != 1) = false := by rw [hk]; rfl
        have HB : Hid (¬ cmdOk ({ c with dl := 0 })) := Lib.hid (bad_u_dl c hk)
        clear hk
        go_wp2_with fail
        go_meet
        case rel => exact ⟨_, _, _, _, Lib.hid ⟨F6.out, HB.out⟩⟩
      · have ek : (c.k != 1) = true := by rw [bne_iff_ne]; exact hk
        obtain ⟨c6, hc6⟩ : ∃ c6 : Cv, c6 = ({ c with dl := 0 }) := ⟨_, rfl⟩
        have F8 := Lib.hid (show Fld w P Q c A na m c6 A na m w6 from by rw [hc6]; exact F6.out)
        have y7 := F8.out.cq.w.cell 7
        have f7 := F8.out.cq.w.fr 7
        obtain ⟨o7, ho7⟩ : ∃ o, (cA c6 A na m)[7]? = some o := ⟨_, rfl⟩
        rw [ho7] at y7
        clear ho7
        have r0 := Fld.put (d' := { c6 with dl := 1 + (n : Int) }) (F8.out) HA.out 7 (.int .i64 (1 + (n : Int))) rfl rfl F8.out.cq.i.d.z (by have hz8 := F8.out.cq.i.z; constructor <;> first | exact hz8.k | exact hz8.call | exact hz8.saga | exact hz8.ea | exact hz8.eb | exact hz8.ec | exact hz8.dl | exact hz8.mv | exact hz8.g | exact hz8.ia | exact hz8.ib | exact hz8.ic | exact hz8.im | exact hz8.ig | exact hz8.res | exact hz8.key | exact hz8.f | exact hz8.t | exact hz8.data | exact in64_i (by show -9223372036854775808 ≤ (1 + (n : Int)); omega) (by show (1 + (n : Int)) ≤ 9223372036854775807; omega) | exact (by decide : (1 : Nat) ≤ 9223372036854775807) | exact Nat.zero_le _ | exact HKZ.out)
        have HB : Hid (¬ cmdOk ({ c6 with dl := 1 + (n : Int) })) := Lib.hid (by rw [hc6]; exact bad_m_dl c n hk)
        have F9 := Lib.hid r0
        clear hc6 hk r0
        go_wp2_with fail
        go_meet
        case rel => exact ⟨_, _, _, _, Lib.hid ⟨F9.out, HB.out⟩⟩
    · have hw8 : IntKind.i64.wrap (65 + (n : Int)) = 65 + (n : Int) := IntWalk.i64_in _ (by omega)
      have hw8x : IntKind.i64.wrap (1 + (n : Int)) = 1 + (n : Int) := IntWalk.i64_in _ (by omega)
      have y8 := F4.out.cq.w.cell 8
      have f8 := F4.out.cq.w.fr 8
      obtain ⟨o8, ho8⟩ : ∃ o, (cA c A na m)[8]? = some o := ⟨_, rfl⟩
      rw [ho8] at y8
      clear ho8
      have HKZ : Hid ((0 : Nat) ≤ 9223372036854775807) := Lib.hid (Nat.zero_le _)
      go_upto_region 32 with fail
      have p0 := Fld.put (d' := { c with mv := 65 + (n : Int) }) (F4.out) HA.out 8 (.int .i64 (65 + (n : Int))) rfl rfl F4.out.cq.i.d.z (by have hz8 := F4.out.cq.i.z; constructor <;> first | exact hz8.k | exact hz8.call | exact hz8.saga | exact hz8.ea | exact hz8.eb | exact hz8.ec | exact hz8.dl | exact hz8.mv | exact hz8.g | exact hz8.ia | exact hz8.ib | exact hz8.ic | exact hz8.im | exact hz8.ig | exact hz8.res | exact hz8.key | exact hz8.f | exact hz8.t | exact hz8.data | exact in64_i (by show -9223372036854775808 ≤ (65 + (n : Int)); omega) (by show (65 + (n : Int)) ≤ 9223372036854775807; omega) | exact (by decide : (1 : Nat) ≤ 9223372036854775807) | exact Nat.zero_le _ | exact HKZ.out)
      have F6 := Lib.hid p0
      clear p0 y8 f8
      generalize (w4.setCell ⟨Q, 8, none⟩ (.int .i64 (65 + (n : Int)))) = w6 at F6 ⊢
      have yk : w6.cell? ⟨P, 0, none⟩ = some (.int .i64 c.k) := F6.out.cp.w.cell 0
      have ba := (Below.refl w6.heap.size w6).alloc (Nat.le_refl _) (.cells #[.int .i64 3, .int .i64 4] 3)
      have XB := Whole.new w6 3 #[.int .i64 3, .int .i64 4]
      have US := Lib.hid (uses_any c.k w6.heap.size P 2 [3, 4] (w6.alloc (.cells #[.int .i64 3, .int .i64 4] 3)) rfl (by decide) (fun i v hi => by
        rw [XB.cell]
        match i, hi with
        | 0, hi => cases hi; rfl
        | 1, hi => cases hi; rfl
        | i + 2, hi => exact absurd hi (by simp)) (bcell yk ba))
      have F7 := Lib.hid (F6.out.keep ba)
      obtain ⟨q, hq⟩ : ∃ q, q = decide (c.k ∈ ([3, 4] : List Int)) := ⟨_, rfl⟩
      rw [← hq] at US
      have HQ : Hid ((q = true → (c.k = 3 ∨ c.k = 4)) ∧ (q = false → ¬ (c.k = 3 ∨ c.k = 4))) := Lib.hid (by rw [hq]; constructor <;> intro h <;> simpa using h)
      clear hq ba XB
      cases q with
      | true =>
        have HB : Hid (¬ cmdOk ({ c with mv := 65 + (n : Int) })) := Lib.hid (bad_u_mv c n (HQ.out.1 rfl))
        go_wp2_with (go_at_call 37; refine US.out.mono ?_; rintro e w7 ⟨rfl, rfl⟩)
        go_meet
        case rel => exact ⟨_, _, _, _, Lib.hid ⟨F7.out, HB.out⟩⟩
      | false =>
        obtain ⟨c6, hc6⟩ : ∃ c6 : Cv, c6 = ({ c with mv := 65 + (n : Int) }) := ⟨_, rfl⟩
        have F8 := Lib.hid (show Fld w P Q c A na m c6 A na m (w6.alloc (.cells #[.int .i64 3, .int .i64 4] 3)) from by rw [hc6]; exact F7.out)
        have y8 := F8.out.cq.w.cell 8
        have f8 := F8.out.cq.w.fr 8
        obtain ⟨o8, ho8⟩ : ∃ o, (cA c6 A na m)[8]? = some o := ⟨_, rfl⟩
        rw [ho8] at y8
        clear ho8
        have r0 := Fld.put (d' := { c6 with mv := 1 + (n : Int) }) (F8.out) HA.out 8 (.int .i64 (1 + (n : Int))) rfl rfl F8.out.cq.i.d.z (by have hz8 := F8.out.cq.i.z; constructor <;> first | exact hz8.k | exact hz8.call | exact hz8.saga | exact hz8.ea | exact hz8.eb | exact hz8.ec | exact hz8.dl | exact hz8.mv | exact hz8.g | exact hz8.ia | exact hz8.ib | exact hz8.ic | exact hz8.im | exact hz8.ig | exact hz8.res | exact hz8.key | exact hz8.f | exact hz8.t | exact hz8.data | exact in64_i (by show -9223372036854775808 ≤ (1 + (n : Int)); omega) (by show (1 + (n : Int)) ≤ 9223372036854775807; omega) | exact (by decide : (1 : Nat) ≤ 9223372036854775807) | exact Nat.zero_le _ | exact HKZ.out)
        have HB : Hid (¬ cmdOk ({ c6 with mv := 1 + (n : Int) })) := Lib.hid (by rw [hc6]; exact bad_m_mv c n (HQ.out.2 rfl))
        have F9 := Lib.hid r0
        clear hc6 r0
        go_wp2_with (go_at_call 37; refine US.out.mono ?_; rintro e w7 ⟨rfl, rfl⟩)
        go_meet
        case rel => exact ⟨_, _, _, _, Lib.hid ⟨F9.out, HB.out⟩⟩
    · have y9 := F4.out.cq.w.cell 9
      have f9 := F4.out.cq.w.fr 9
      obtain ⟨o9, ho9⟩ : ∃ o, (cA c A na m)[9]? = some o := ⟨_, rfl⟩
      rw [ho9] at y9
      have y10 := F4.out.cq.w.cell 10
      have f10 := F4.out.cq.w.fr 10
      obtain ⟨o10, ho10⟩ : ∃ o, (cA c A na m)[10]? = some o := ⟨_, rfl⟩
      rw [ho10] at y10
      clear ho9 ho10
      have HKZ : Hid ((0 : Nat) ≤ 9223372036854775807) := Lib.hid (Nat.zero_le _)
      go_upto_region 36 with fail
      have p0 := Fld.put (d' := { c with f := ⟨#[98]⟩ }) (F4.out) HA.out 9 (.string ⟨#[98]⟩) rfl rfl F4.out.cq.i.d.z (by have hz8 := F4.out.cq.i.z; constructor <;> first | exact hz8.k | exact hz8.call | exact hz8.saga | exact hz8.ea | exact hz8.eb | exact hz8.ec | exact hz8.dl | exact hz8.mv | exact hz8.g | exact hz8.ia | exact hz8.ib | exact hz8.ic | exact hz8.im | exact hz8.ig | exact hz8.res | exact hz8.key | exact hz8.f | exact hz8.t | exact hz8.data | exact in64_i (by show -9223372036854775808 ≤ (0 : Int); omega) (by show (0 : Int) ≤ 9223372036854775807; omega) | exact (by decide : (1 : Nat) ≤ 9223372036854775807) | exact Nat.zero_le _ | exact HKZ.out)
      have p1 := Fld.put (d' := { ({ c with f := ⟨#[98]⟩ }) with t := ⟨#[97]⟩ }) (p0) HA.out 10 (.string ⟨#[97]⟩) rfl rfl p0.cq.i.d.z (by have hz8 := p0.cq.i.z; constructor <;> first | exact hz8.k | exact hz8.call | exact hz8.saga | exact hz8.ea | exact hz8.eb | exact hz8.ec | exact hz8.dl | exact hz8.mv | exact hz8.g | exact hz8.ia | exact hz8.ib | exact hz8.ic | exact hz8.im | exact hz8.ig | exact hz8.res | exact hz8.key | exact hz8.f | exact hz8.t | exact hz8.data | exact in64_i (by show -9223372036854775808 ≤ (0 : Int); omega) (by show (0 : Int) ≤ 9223372036854775807; omega) | exact (by decide : (1 : Nat) ≤ 9223372036854775807) | exact Nat.zero_le _ | exact HKZ.out)
      have F6 := Lib.hid p1
      clear p0 p1 y9 f9 y10 f10
      generalize ((w4.setCell ⟨Q, 9, none⟩ (.string ⟨#[98]⟩)).setCell ⟨Q, 10, none⟩ (.string ⟨#[97]⟩)) = w6 at F6 ⊢
      have yk : w6.cell? ⟨P, 0, none⟩ = some (.int .i64 c.k) := F6.out.cp.w.cell 0
      have ba := (Below.refl w6.heap.size w6).alloc (Nat.le_refl _) (.cells #[.int .i64 3, .int .i64 4, .int .i64 14] 3)
      have XB := Whole.new w6 3 #[.int .i64 3, .int .i64 4, .int .i64 14]
      have US := Lib.hid (uses_any c.k w6.heap.size P 3 [3, 4, 14] (w6.alloc (.cells #[.int .i64 3, .int .i64 4, .int .i64 14] 3)) rfl (by decide) (fun i v hi => by
        rw [XB.cell]
        match i, hi with
        | 0, hi => cases hi; rfl
        | 1, hi => cases hi; rfl
        | 2, hi => cases hi; rfl
        | i + 3, hi => exact absurd hi (by simp)) (bcell yk ba))
      have F7 := Lib.hid (F6.out.keep ba)
      obtain ⟨q, hq⟩ : ∃ q, q = decide (c.k ∈ ([3, 4, 14] : List Int)) := ⟨_, rfl⟩
      rw [← hq] at US
      have HQ : Hid ((q = true → (c.k = 3 ∨ c.k = 4 ∨ c.k = 14)) ∧ (q = false → ¬ (c.k = 3 ∨ c.k = 4 ∨ c.k = 14))) := Lib.hid (by rw [hq]; constructor <;> intro h <;> simpa using h)
      clear hq ba XB
      cases q with
      | true =>
        have HB : Hid (¬ cmdOk ({ ({ c with f := ⟨#[98]⟩ }) with t := ⟨#[97]⟩ })) := Lib.hid (bad_u_rng c (HQ.out.1 rfl))
        go_wp2_with (go_at_call 37; refine US.out.mono ?_; rintro e w7 ⟨rfl, rfl⟩)
        go_meet
        case rel => exact ⟨_, _, _, _, Lib.hid ⟨F7.out, HB.out⟩⟩
      | false =>
        obtain ⟨c6, hc6⟩ : ∃ c6 : Cv, c6 = ({ ({ c with f := ⟨#[98]⟩ }) with t := ⟨#[97]⟩ }) := ⟨_, rfl⟩
        have F8 := Lib.hid (show Fld w P Q c A na m c6 A na m (w6.alloc (.cells #[.int .i64 3, .int .i64 4, .int .i64 14] 3)) from by rw [hc6]; exact F7.out)
        have y9 := F8.out.cq.w.cell 9
        have f9 := F8.out.cq.w.fr 9
        obtain ⟨o9, ho9⟩ : ∃ o, (cA c6 A na m)[9]? = some o := ⟨_, rfl⟩
        rw [ho9] at y9
        have y10 := F8.out.cq.w.cell 10
        have f10 := F8.out.cq.w.fr 10
        obtain ⟨o10, ho10⟩ : ∃ o, (cA c6 A na m)[10]? = some o := ⟨_, rfl⟩
        rw [ho10] at y10
        clear ho9 ho10
        have r0 := Fld.put (d' := { c6 with f := ⟨#[97]⟩ }) (F8.out) HA.out 9 (.string ⟨#[97]⟩) rfl rfl F8.out.cq.i.d.z (by have hz8 := F8.out.cq.i.z; constructor <;> first | exact hz8.k | exact hz8.call | exact hz8.saga | exact hz8.ea | exact hz8.eb | exact hz8.ec | exact hz8.dl | exact hz8.mv | exact hz8.g | exact hz8.ia | exact hz8.ib | exact hz8.ic | exact hz8.im | exact hz8.ig | exact hz8.res | exact hz8.key | exact hz8.f | exact hz8.t | exact hz8.data | exact in64_i (by show -9223372036854775808 ≤ (0 : Int); omega) (by show (0 : Int) ≤ 9223372036854775807; omega) | exact (by decide : (1 : Nat) ≤ 9223372036854775807) | exact Nat.zero_le _ | exact HKZ.out)
        have r1 := Fld.put (d' := { ({ c6 with f := ⟨#[97]⟩ }) with t := ⟨#[]⟩ }) (r0) HA.out 10 (.string ⟨#[]⟩) rfl rfl r0.cq.i.d.z (by have hz8 := r0.cq.i.z; constructor <;> first | exact hz8.k | exact hz8.call | exact hz8.saga | exact hz8.ea | exact hz8.eb | exact hz8.ec | exact hz8.dl | exact hz8.mv | exact hz8.g | exact hz8.ia | exact hz8.ib | exact hz8.ic | exact hz8.im | exact hz8.ig | exact hz8.res | exact hz8.key | exact hz8.f | exact hz8.t | exact hz8.data | exact in64_i (by show -9223372036854775808 ≤ (0 : Int); omega) (by show (0 : Int) ≤ 9223372036854775807; omega) | exact (by decide : (1 : Nat) ≤ 9223372036854775807) | exact Nat.zero_le _ | exact HKZ.out)
        have HB : Hid (¬ cmdOk ({ ({ c6 with f := ⟨#[97]⟩ }) with t := ⟨#[]⟩ })) := Lib.hid (by rw [hc6]; exact bad_m_rng c (HQ.out.2 rfl))
        have F9 := Lib.hid r1
        clear hc6 r0 r1
        go_wp2_with (go_at_call 37; refine US.out.mono ?_; rintro e w7 ⟨rfl, rfl⟩)
        go_meet
        case rel => exact ⟨_, _, _, _, Lib.hid ⟨F9.out, HB.out⟩⟩
    · have hw11 : IntKind.i64.wrap (8 + (n : Int)) = 8 + (n : Int) := IntWalk.i64_in _ (by omega)
      have hw11x : IntKind.i64.wrap (1 + (n : Int)) = 1 + (n : Int) := IntWalk.i64_in _ (by omega)
      have y11 := F4.out.cq.w.cell 11
      have f11 := F4.out.cq.w.fr 11
      obtain ⟨o11, ho11⟩ : ∃ o, (cA c A na m)[11]? = some o := ⟨_, rfl⟩
      rw [ho11] at y11
      clear ho11
      have HKZ : Hid ((0 : Nat) ≤ 9223372036854775807) := Lib.hid (Nat.zero_le _)
      go_upto_region 40 with fail
      have p0 := Fld.put (d' := { c with g := 8 + (n : Int) }) (F4.out) HA.out 11 (.int .i64 (8 + (n : Int))) rfl rfl F4.out.cq.i.d.z (by have hz8 := F4.out.cq.i.z; constructor <;> first | exact hz8.k | exact hz8.call | exact hz8.saga | exact hz8.ea | exact hz8.eb | exact hz8.ec | exact hz8.dl | exact hz8.mv | exact hz8.g | exact hz8.ia | exact hz8.ib | exact hz8.ic | exact hz8.im | exact hz8.ig | exact hz8.res | exact hz8.key | exact hz8.f | exact hz8.t | exact hz8.data | exact in64_i (by show -9223372036854775808 ≤ (8 + (n : Int)); omega) (by show (8 + (n : Int)) ≤ 9223372036854775807; omega) | exact (by decide : (1 : Nat) ≤ 9223372036854775807) | exact Nat.zero_le _ | exact HKZ.out)
      have F6 := Lib.hid p0
      clear p0 y11 f11
      generalize (w4.setCell ⟨Q, 11, none⟩ (.int .i64 (8 + (n : Int)))) = w6 at F6 ⊢
      have yk : w6.cell? ⟨P, 0, none⟩ = some (.int .i64 c.k) := F6.out.cp.w.cell 0
      by_cases hk : c.k = 14
      · have ek : (c.k != 14) = false := by rw [hk]; rfl
        have HB : Hid (¬ cmdOk ({ c with g := 8 + (n : Int) })) := Lib.hid (bad_u_grp c n hk)
        clear hk
        go_wp2_with fail
        go_meet
        case rel => exact ⟨_, _, _, _, Lib.hid ⟨F6.out, HB.out⟩⟩
      · have ek : (c.k != 14) = true := by rw [bne_iff_ne]; exact hk
        obtain ⟨c6, hc6⟩ : ∃ c6 : Cv, c6 = ({ c with g := 8 + (n : Int) }) := ⟨_, rfl⟩
        have F8 := Lib.hid (show Fld w P Q c A na m c6 A na m w6 from by rw [hc6]; exact F6.out)
        have y11 := F8.out.cq.w.cell 11
        have f11 := F8.out.cq.w.fr 11
        obtain ⟨o11, ho11⟩ : ∃ o, (cA c6 A na m)[11]? = some o := ⟨_, rfl⟩
        rw [ho11] at y11
        clear ho11
        have r0 := Fld.put (d' := { c6 with g := 1 + (n : Int) }) (F8.out) HA.out 11 (.int .i64 (1 + (n : Int))) rfl rfl F8.out.cq.i.d.z (by have hz8 := F8.out.cq.i.z; constructor <;> first | exact hz8.k | exact hz8.call | exact hz8.saga | exact hz8.ea | exact hz8.eb | exact hz8.ec | exact hz8.dl | exact hz8.mv | exact hz8.g | exact hz8.ia | exact hz8.ib | exact hz8.ic | exact hz8.im | exact hz8.ig | exact hz8.res | exact hz8.key | exact hz8.f | exact hz8.t | exact hz8.data | exact in64_i (by show -9223372036854775808 ≤ (1 + (n : Int)); omega) (by show (1 + (n : Int)) ≤ 9223372036854775807; omega) | exact (by decide : (1 : Nat) ≤ 9223372036854775807) | exact Nat.zero_le _ | exact HKZ.out)
        have HB : Hid (¬ cmdOk ({ c6 with g := 1 + (n : Int) })) := Lib.hid (by rw [hc6]; exact bad_m_grp c n hk)
        have F9 := Lib.hid r0
        clear hc6 hk r0
        go_wp2_with fail
        go_meet
        case rel => exact ⟨_, _, _, _, Lib.hid ⟨F9.out, HB.out⟩⟩
    · have y12 := F4.out.cq.w.cell 12
      have f12 := F4.out.cq.w.fr 12
      obtain ⟨o12, ho12⟩ : ∃ o, (cA c A na m)[12]? = some o := ⟨_, rfl⟩
      rw [ho12] at y12
      clear ho12
      have HKZ : Hid ((0 : Nat) ≤ 9223372036854775807) := Lib.hid (Nat.zero_le _)
      go_upto_region 44 with fail
      have p0 := Fld.put (d' := { c with d := { (c : Cv).d with n := ⟨#[45]⟩ } }) (F4.out) HA.out 12 (.string ⟨#[45]⟩) rfl rfl ⟨(by decide : (1 : Nat) ≤ 9223372036854775807), F4.out.cq.i.d.z.r, F4.out.cq.i.d.z.dl, F4.out.cq.i.d.z.s⟩ (by have hz8 := F4.out.cq.i.z; constructor <;> first | exact hz8.k | exact hz8.call | exact hz8.saga | exact hz8.ea | exact hz8.eb | exact hz8.ec | exact hz8.dl | exact hz8.mv | exact hz8.g | exact hz8.ia | exact hz8.ib | exact hz8.ic | exact hz8.im | exact hz8.ig | exact hz8.res | exact hz8.key | exact hz8.f | exact hz8.t | exact hz8.data | exact in64_i (by show -9223372036854775808 ≤ (0 : Int); omega) (by show (0 : Int) ≤ 9223372036854775807; omega) | exact (by decide : (1 : Nat) ≤ 9223372036854775807) | exact Nat.zero_le _ | exact HKZ.out)
      have F6 := Lib.hid p0
      clear p0 y12 f12
      generalize (w4.setCell ⟨Q, 12, none⟩ (.string ⟨#[45]⟩)) = w6 at F6 ⊢
      have yk : w6.cell? ⟨P, 0, none⟩ = some (.int .i64 c.k) := F6.out.cp.w.cell 0
      by_cases hk : c.k = 11
      · have ek : (c.k != 11) = false := by rw [hk]; rfl
        have HB : Hid (¬ cmdOk ({ c with d := { (c : Cv).d with n := ⟨#[45]⟩ } })) := Lib.hid (bad_u_defn c hk)
        clear hk
        go_wp2_with fail
        go_meet
        case rel => exact ⟨_, _, _, _, Lib.hid ⟨F6.out, HB.out⟩⟩
      · have ek : (c.k != 11) = true := by rw [bne_iff_ne]; exact hk
        obtain ⟨c6, hc6⟩ : ∃ c6 : Cv, c6 = ({ c with d := { (c : Cv).d with n := ⟨#[45]⟩ } }) := ⟨_, rfl⟩
        have F8 := Lib.hid (show Fld w P Q c A na m c6 A na m w6 from by rw [hc6]; exact F6.out)
        have hw1x : IntKind.i64.wrap (1 + (n : Int)) = 1 + (n : Int) := IntWalk.i64_in _ (by omega)
        have y12 := F8.out.cq.w.cell 12
        have f12 := F8.out.cq.w.fr 12
        obtain ⟨o12, ho12⟩ : ∃ o, (cA c6 A na m)[12]? = some o := ⟨_, rfl⟩
        rw [ho12] at y12
        have y13 := F8.out.cq.w.cell 13
        have f13 := F8.out.cq.w.fr 13
        obtain ⟨o13, ho13⟩ : ∃ o, (cA c6 A na m)[13]? = some o := ⟨_, rfl⟩
        rw [ho13] at y13
        have y14 := F8.out.cq.w.cell 14
        have f14 := F8.out.cq.w.fr 14
        obtain ⟨o14, ho14⟩ : ∃ o, (cA c6 A na m)[14]? = some o := ⟨_, rfl⟩
        rw [ho14] at y14
        have y15 := F8.out.cq.w.cell 15
        have f15 := F8.out.cq.w.fr 15
        obtain ⟨o15, ho15⟩ : ∃ o, (cA c6 A na m)[15]? = some o := ⟨_, rfl⟩
        rw [ho15] at y15
        clear ho12 ho13 ho14 ho15
        have HB : Hid (¬ cmdOk { c6 with d := ⟨⟨#[]⟩, 0, 1 + (n : Int), []⟩ }) := Lib.hid (by rw [hc6]; exact bad_m_defn c n hk)
        have F9 := Lib.hid (F8.out.wipe HA.out (1 + (n : Int)) ⟨by omega, by omega⟩)
        clear hc6 hk
        go_wp2_with fail
        go_meet
        case rel => exact ⟨_, _, _, _, Lib.hid ⟨F9.out, HB.out⟩⟩
    · have hw21 : IntKind.i64.wrap (8 + (n : Int)) = 8 + (n : Int) := IntWalk.i64_in _ (by omega)
      have y21 := F4.out.cq.w.cell 21
      have f21 := F4.out.cq.w.fr 21
      obtain ⟨o21, ho21⟩ : ∃ o, (cA c A na m)[21]? = some o := ⟨_, rfl⟩
      rw [ho21] at y21
      clear ho21
      have HKZ : Hid ((0 : Nat) ≤ 9223372036854775807) := Lib.hid (Nat.zero_le _)
      go_upto_region 48 with fail
      have p0 := Fld.put (d' := { c with it := { (c : Cv).it with g := 8 + (n : Int) } }) (F4.out) HA.out 21 (.int .i64 (8 + (n : Int))) rfl rfl F4.out.cq.i.d.z (by have hz8 := F4.out.cq.i.z; constructor <;> first | exact hz8.k | exact hz8.call | exact hz8.saga | exact hz8.ea | exact hz8.eb | exact hz8.ec | exact hz8.dl | exact hz8.mv | exact hz8.g | exact hz8.ia | exact hz8.ib | exact hz8.ic | exact hz8.im | exact hz8.ig | exact hz8.res | exact hz8.key | exact hz8.f | exact hz8.t | exact hz8.data | exact in64_i (by show -9223372036854775808 ≤ (8 + (n : Int)); omega) (by show (8 + (n : Int)) ≤ 9223372036854775807; omega) | exact (by decide : (1 : Nat) ≤ 9223372036854775807) | exact Nat.zero_le _ | exact HKZ.out)
      have F6 := Lib.hid p0
      clear p0 y21 f21
      generalize (w4.setCell ⟨Q, 21, none⟩ (.int .i64 (8 + (n : Int)))) = w6 at F6 ⊢
      have yk : w6.cell? ⟨P, 0, none⟩ = some (.int .i64 c.k) := F6.out.cp.w.cell 0
      by_cases hk : c.k = 15
      · have ek : (c.k != 15) = false := by rw [hk]; rfl
        have HB : Hid (¬ cmdOk ({ c with it := { (c : Cv).it with g := 8 + (n : Int) } })) := Lib.hid (bad_u_item c n hk)
        clear hk
        go_wp2_with fail
        go_meet
        case rel => exact ⟨_, _, _, _, Lib.hid ⟨F6.out, HB.out⟩⟩
      · have ek : (c.k != 15) = true := by rw [bne_iff_ne]; exact hk
        obtain ⟨c6, hc6⟩ : ∃ c6 : Cv, c6 = ({ c with it := { (c : Cv).it with g := 8 + (n : Int) } }) := ⟨_, rfl⟩
        have F8 := Lib.hid (show Fld w P Q c A na m c6 A na m w6 from by rw [hc6]; exact F6.out)
        have y16 := F8.out.cq.w.cell 16
        have f16 := F8.out.cq.w.fr 16
        obtain ⟨o16, ho16⟩ : ∃ o, (cA c6 A na m)[16]? = some o := ⟨_, rfl⟩
        rw [ho16] at y16
        have y17 := F8.out.cq.w.cell 17
        have f17 := F8.out.cq.w.fr 17
        obtain ⟨o17, ho17⟩ : ∃ o, (cA c6 A na m)[17]? = some o := ⟨_, rfl⟩
        rw [ho17] at y17
        have y18 := F8.out.cq.w.cell 18
        have f18 := F8.out.cq.w.fr 18
        obtain ⟨o18, ho18⟩ : ∃ o, (cA c6 A na m)[18]? = some o := ⟨_, rfl⟩
        rw [ho18] at y18
        have y19 := F8.out.cq.w.cell 19
        have f19 := F8.out.cq.w.fr 19
        obtain ⟨o19, ho19⟩ : ∃ o, (cA c6 A na m)[19]? = some o := ⟨_, rfl⟩
        rw [ho19] at y19
        have y20 := F8.out.cq.w.cell 20
        have f20 := F8.out.cq.w.fr 20
        obtain ⟨o20, ho20⟩ : ∃ o, (cA c6 A na m)[20]? = some o := ⟨_, rfl⟩
        rw [ho20] at y20
        have y21 := F8.out.cq.w.cell 21
        have f21 := F8.out.cq.w.fr 21
        obtain ⟨o21, ho21⟩ : ∃ o, (cA c6 A na m)[21]? = some o := ⟨_, rfl⟩
        rw [ho21] at y21
        clear ho16 ho17 ho18 ho19 ho20 ho21
        have r0 := Fld.put (d' := { c6 with it := { (c6 : Cv).it with a := 0 } }) (F8.out) HA.out 16 (.int .i64 0) rfl rfl F8.out.cq.i.d.z (by have hz8 := F8.out.cq.i.z; constructor <;> first | exact hz8.k | exact hz8.call | exact hz8.saga | exact hz8.ea | exact hz8.eb | exact hz8.ec | exact hz8.dl | exact hz8.mv | exact hz8.g | exact hz8.ia | exact hz8.ib | exact hz8.ic | exact hz8.im | exact hz8.ig | exact hz8.res | exact hz8.key | exact hz8.f | exact hz8.t | exact hz8.data | exact in64_i (by show -9223372036854775808 ≤ 0; omega) (by show 0 ≤ 9223372036854775807; omega) | exact (by decide : (1 : Nat) ≤ 9223372036854775807) | exact Nat.zero_le _ | exact HKZ.out)
        have r1 := Fld.put (d' := { ({ c6 with it := { (c6 : Cv).it with a := 0 } }) with it := { (({ c6 with it := { (c6 : Cv).it with a := 0 } }) : Cv).it with b := 0 } }) (r0) HA.out 17 (.int .i64 0) rfl rfl r0.cq.i.d.z (by have hz8 := r0.cq.i.z; constructor <;> first | exact hz8.k | exact hz8.call | exact hz8.saga | exact hz8.ea | exact hz8.eb | exact hz8.ec | exact hz8.dl | exact hz8.mv | exact hz8.g | exact hz8.ia | exact hz8.ib | exact hz8.ic | exact hz8.im | exact hz8.ig | exact hz8.res | exact hz8.key | exact hz8.f | exact hz8.t | exact hz8.data | exact in64_i (by show -9223372036854775808 ≤ 0; omega) (by show 0 ≤ 9223372036854775807; omega) | exact (by decide : (1 : Nat) ≤ 9223372036854775807) | exact Nat.zero_le _ | exact HKZ.out)
        have r2 := Fld.put (d' := { ({ ({ c6 with it := { (c6 : Cv).it with a := 0 } }) with it := { (({ c6 with it := { (c6 : Cv).it with a := 0 } }) : Cv).it with b := 0 } }) with it := { (({ ({ c6 with it := { (c6 : Cv).it with a := 0 } }) with it := { (({ c6 with it := { (c6 : Cv).it with a := 0 } }) : Cv).it with b := 0 } }) : Cv).it with c := 0 } }) (r1) HA.out 18 (.int .i64 0) rfl rfl r1.cq.i.d.z (by have hz8 := r1.cq.i.z; constructor <;> first | exact hz8.k | exact hz8.call | exact hz8.saga | exact hz8.ea | exact hz8.eb | exact hz8.ec | exact hz8.dl | exact hz8.mv | exact hz8.g | exact hz8.ia | exact hz8.ib | exact hz8.ic | exact hz8.im | exact hz8.ig | exact hz8.res | exact hz8.key | exact hz8.f | exact hz8.t | exact hz8.data | exact in64_i (by show -9223372036854775808 ≤ 0; omega) (by show 0 ≤ 9223372036854775807; omega) | exact (by decide : (1 : Nat) ≤ 9223372036854775807) | exact Nat.zero_le _ | exact HKZ.out)
        have r3 := Fld.put (d' := { ({ ({ ({ c6 with it := { (c6 : Cv).it with a := 0 } }) with it := { (({ c6 with it := { (c6 : Cv).it with a := 0 } }) : Cv).it with b := 0 } }) with it := { (({ ({ c6 with it := { (c6 : Cv).it with a := 0 } }) with it := { (({ c6 with it := { (c6 : Cv).it with a := 0 } }) : Cv).it with b := 0 } }) : Cv).it with c := 0 } }) with it := { (({ ({ ({ c6 with it := { (c6 : Cv).it with a := 0 } }) with it := { (({ c6 with it := { (c6 : Cv).it with a := 0 } }) : Cv).it with b := 0 } }) with it := { (({ ({ c6 with it := { (c6 : Cv).it with a := 0 } }) with it := { (({ c6 with it := { (c6 : Cv).it with a := 0 } }) : Cv).it with b := 0 } }) : Cv).it with c := 0 } }) : Cv).it with m := 1 } }) (r2) HA.out 19 (.int .i64 1) rfl rfl r2.cq.i.d.z (by have hz8 := r2.cq.i.z; constructor <;> first | exact hz8.k | exact hz8.call | exact hz8.saga | exact hz8.ea | exact hz8.eb | exact hz8.ec | exact hz8.dl | exact hz8.mv | exact hz8.g | exact hz8.ia | exact hz8.ib | exact hz8.ic | exact hz8.im | exact hz8.ig | exact hz8.res | exact hz8.key | exact hz8.f | exact hz8.t | exact hz8.data | exact in64_i (by show -9223372036854775808 ≤ 1; omega) (by show 1 ≤ 9223372036854775807; omega) | exact (by decide : (1 : Nat) ≤ 9223372036854775807) | exact Nat.zero_le _ | exact HKZ.out)
        have r4 := Fld.put (d' := { ({ ({ ({ ({ c6 with it := { (c6 : Cv).it with a := 0 } }) with it := { (({ c6 with it := { (c6 : Cv).it with a := 0 } }) : Cv).it with b := 0 } }) with it := { (({ ({ c6 with it := { (c6 : Cv).it with a := 0 } }) with it := { (({ c6 with it := { (c6 : Cv).it with a := 0 } }) : Cv).it with b := 0 } }) : Cv).it with c := 0 } }) with it := { (({ ({ ({ c6 with it := { (c6 : Cv).it with a := 0 } }) with it := { (({ c6 with it := { (c6 : Cv).it with a := 0 } }) : Cv).it with b := 0 } }) with it := { (({ ({ c6 with it := { (c6 : Cv).it with a := 0 } }) with it := { (({ c6 with it := { (c6 : Cv).it with a := 0 } }) : Cv).it with b := 0 } }) : Cv).it with c := 0 } }) : Cv).it with m := 1 } }) with it := { (({ ({ ({ ({ c6 with it := { (c6 : Cv).it with a := 0 } }) with it := { (({ c6 with it := { (c6 : Cv).it with a := 0 } }) : Cv).it with b := 0 } }) with it := { (({ ({ c6 with it := { (c6 : Cv).it with a := 0 } }) with it := { (({ c6 with it := { (c6 : Cv).it with a := 0 } }) : Cv).it with b := 0 } }) : Cv).it with c := 0 } }) with it := { (({ ({ ({ c6 with it := { (c6 : Cv).it with a := 0 } }) with it := { (({ c6 with it := { (c6 : Cv).it with a := 0 } }) : Cv).it with b := 0 } }) with it := { (({ ({ c6 with it := { (c6 : Cv).it with a := 0 } }) with it := { (({ c6 with it := { (c6 : Cv).it with a := 0 } }) : Cv).it with b := 0 } }) : Cv).it with c := 0 } }) : Cv).it with m := 1 } }) : Cv).it with i := false } }) (r3) HA.out 20 (.bool false) rfl rfl r3.cq.i.d.z (by have hz8 := r3.cq.i.z; constructor <;> first | exact hz8.k | exact hz8.call | exact hz8.saga | exact hz8.ea | exact hz8.eb | exact hz8.ec | exact hz8.dl | exact hz8.mv | exact hz8.g | exact hz8.ia | exact hz8.ib | exact hz8.ic | exact hz8.im | exact hz8.ig | exact hz8.res | exact hz8.key | exact hz8.f | exact hz8.t | exact hz8.data | exact in64_i (by show -9223372036854775808 ≤ (0 : Int); omega) (by show (0 : Int) ≤ 9223372036854775807; omega) | exact (by decide : (1 : Nat) ≤ 9223372036854775807) | exact Nat.zero_le _ | exact HKZ.out)
        have r5 := Fld.put (d' := { ({ ({ ({ ({ ({ c6 with it := { (c6 : Cv).it with a := 0 } }) with it := { (({ c6 with it := { (c6 : Cv).it with a := 0 } }) : Cv).it with b := 0 } }) with it := { (({ ({ c6 with it := { (c6 : Cv).it with a := 0 } }) with it := { (({ c6 with it := { (c6 : Cv).it with a := 0 } }) : Cv).it with b := 0 } }) : Cv).it with c := 0 } }) with it := { (({ ({ ({ c6 with it := { (c6 : Cv).it with a := 0 } }) with it := { (({ c6 with it := { (c6 : Cv).it with a := 0 } }) : Cv).it with b := 0 } }) with it := { (({ ({ c6 with it := { (c6 : Cv).it with a := 0 } }) with it := { (({ c6 with it := { (c6 : Cv).it with a := 0 } }) : Cv).it with b := 0 } }) : Cv).it with c := 0 } }) : Cv).it with m := 1 } }) with it := { (({ ({ ({ ({ c6 with it := { (c6 : Cv).it with a := 0 } }) with it := { (({ c6 with it := { (c6 : Cv).it with a := 0 } }) : Cv).it with b := 0 } }) with it := { (({ ({ c6 with it := { (c6 : Cv).it with a := 0 } }) with it := { (({ c6 with it := { (c6 : Cv).it with a := 0 } }) : Cv).it with b := 0 } }) : Cv).it with c := 0 } }) with it := { (({ ({ ({ c6 with it := { (c6 : Cv).it with a := 0 } }) with it := { (({ c6 with it := { (c6 : Cv).it with a := 0 } }) : Cv).it with b := 0 } }) with it := { (({ ({ c6 with it := { (c6 : Cv).it with a := 0 } }) with it := { (({ c6 with it := { (c6 : Cv).it with a := 0 } }) : Cv).it with b := 0 } }) : Cv).it with c := 0 } }) : Cv).it with m := 1 } }) : Cv).it with i := false } }) with it := { (({ ({ ({ ({ ({ c6 with it := { (c6 : Cv).it with a := 0 } }) with it := { (({ c6 with it := { (c6 : Cv).it with a := 0 } }) : Cv).it with b := 0 } }) with it := { (({ ({ c6 with it := { (c6 : Cv).it with a := 0 } }) with it := { (({ c6 with it := { (c6 : Cv).it with a := 0 } }) : Cv).it with b := 0 } }) : Cv).it with c := 0 } }) with it := { (({ ({ ({ c6 with it := { (c6 : Cv).it with a := 0 } }) with it := { (({ c6 with it := { (c6 : Cv).it with a := 0 } }) : Cv).it with b := 0 } }) with it := { (({ ({ c6 with it := { (c6 : Cv).it with a := 0 } }) with it := { (({ c6 with it := { (c6 : Cv).it with a := 0 } }) : Cv).it with b := 0 } }) : Cv).it with c := 0 } }) : Cv).it with m := 1 } }) with it := { (({ ({ ({ ({ c6 with it := { (c6 : Cv).it with a := 0 } }) with it := { (({ c6 with it := { (c6 : Cv).it with a := 0 } }) : Cv).it with b := 0 } }) with it := { (({ ({ c6 with it := { (c6 : Cv).it with a := 0 } }) with it := { (({ c6 with it := { (c6 : Cv).it with a := 0 } }) : Cv).it with b := 0 } }) : Cv).it with c := 0 } }) with it := { (({ ({ ({ c6 with it := { (c6 : Cv).it with a := 0 } }) with it := { (({ c6 with it := { (c6 : Cv).it with a := 0 } }) : Cv).it with b := 0 } }) with it := { (({ ({ c6 with it := { (c6 : Cv).it with a := 0 } }) with it := { (({ c6 with it := { (c6 : Cv).it with a := 0 } }) : Cv).it with b := 0 } }) : Cv).it with c := 0 } }) : Cv).it with m := 1 } }) : Cv).it with i := false } }) : Cv).it with g := 1 } }) (r4) HA.out 21 (.int .i64 1) rfl rfl r4.cq.i.d.z (by have hz8 := r4.cq.i.z; constructor <;> first | exact hz8.k | exact hz8.call | exact hz8.saga | exact hz8.ea | exact hz8.eb | exact hz8.ec | exact hz8.dl | exact hz8.mv | exact hz8.g | exact hz8.ia | exact hz8.ib | exact hz8.ic | exact hz8.im | exact hz8.ig | exact hz8.res | exact hz8.key | exact hz8.f | exact hz8.t | exact hz8.data | exact in64_i (by show -9223372036854775808 ≤ 1; omega) (by show 1 ≤ 9223372036854775807; omega) | exact (by decide : (1 : Nat) ≤ 9223372036854775807) | exact Nat.zero_le _ | exact HKZ.out)
        have HB : Hid (¬ cmdOk ({ ({ ({ ({ ({ ({ c6 with it := { (c6 : Cv).it with a := 0 } }) with it := { (({ c6 with it := { (c6 : Cv).it with a := 0 } }) : Cv).it with b := 0 } }) with it := { (({ ({ c6 with it := { (c6 : Cv).it with a := 0 } }) with it := { (({ c6 with it := { (c6 : Cv).it with a := 0 } }) : Cv).it with b := 0 } }) : Cv).it with c := 0 } }) with it := { (({ ({ ({ c6 with it := { (c6 : Cv).it with a := 0 } }) with it := { (({ c6 with it := { (c6 : Cv).it with a := 0 } }) : Cv).it with b := 0 } }) with it := { (({ ({ c6 with it := { (c6 : Cv).it with a := 0 } }) with it := { (({ c6 with it := { (c6 : Cv).it with a := 0 } }) : Cv).it with b := 0 } }) : Cv).it with c := 0 } }) : Cv).it with m := 1 } }) with it := { (({ ({ ({ ({ c6 with it := { (c6 : Cv).it with a := 0 } }) with it := { (({ c6 with it := { (c6 : Cv).it with a := 0 } }) : Cv).it with b := 0 } }) with it := { (({ ({ c6 with it := { (c6 : Cv).it with a := 0 } }) with it := { (({ c6 with it := { (c6 : Cv).it with a := 0 } }) : Cv).it with b := 0 } }) : Cv).it with c := 0 } }) with it := { (({ ({ ({ c6 with it := { (c6 : Cv).it with a := 0 } }) with it := { (({ c6 with it := { (c6 : Cv).it with a := 0 } }) : Cv).it with b := 0 } }) with it := { (({ ({ c6 with it := { (c6 : Cv).it with a := 0 } }) with it := { (({ c6 with it := { (c6 : Cv).it with a := 0 } }) : Cv).it with b := 0 } }) : Cv).it with c := 0 } }) : Cv).it with m := 1 } }) : Cv).it with i := false } }) with it := { (({ ({ ({ ({ ({ c6 with it := { (c6 : Cv).it with a := 0 } }) with it := { (({ c6 with it := { (c6 : Cv).it with a := 0 } }) : Cv).it with b := 0 } }) with it := { (({ ({ c6 with it := { (c6 : Cv).it with a := 0 } }) with it := { (({ c6 with it := { (c6 : Cv).it with a := 0 } }) : Cv).it with b := 0 } }) : Cv).it with c := 0 } }) with it := { (({ ({ ({ c6 with it := { (c6 : Cv).it with a := 0 } }) with it := { (({ c6 with it := { (c6 : Cv).it with a := 0 } }) : Cv).it with b := 0 } }) with it := { (({ ({ c6 with it := { (c6 : Cv).it with a := 0 } }) with it := { (({ c6 with it := { (c6 : Cv).it with a := 0 } }) : Cv).it with b := 0 } }) : Cv).it with c := 0 } }) : Cv).it with m := 1 } }) with it := { (({ ({ ({ ({ c6 with it := { (c6 : Cv).it with a := 0 } }) with it := { (({ c6 with it := { (c6 : Cv).it with a := 0 } }) : Cv).it with b := 0 } }) with it := { (({ ({ c6 with it := { (c6 : Cv).it with a := 0 } }) with it := { (({ c6 with it := { (c6 : Cv).it with a := 0 } }) : Cv).it with b := 0 } }) : Cv).it with c := 0 } }) with it := { (({ ({ ({ c6 with it := { (c6 : Cv).it with a := 0 } }) with it := { (({ c6 with it := { (c6 : Cv).it with a := 0 } }) : Cv).it with b := 0 } }) with it := { (({ ({ c6 with it := { (c6 : Cv).it with a := 0 } }) with it := { (({ c6 with it := { (c6 : Cv).it with a := 0 } }) : Cv).it with b := 0 } }) : Cv).it with c := 0 } }) : Cv).it with m := 1 } }) : Cv).it with i := false } }) : Cv).it with g := 1 } })) := Lib.hid (by rw [hc6]; exact bad_m_item c hk)
        have F9 := Lib.hid r5
        clear hc6 hk r0 r1 r2 r3 r4 r5
        go_wp2_with fail
        go_meet
        case rel => exact ⟨_, _, _, _, Lib.hid ⟨F9.out, HB.out⟩⟩
    · have hw22 : IntKind.i64.wrap (19 + (n : Int)) = 19 + (n : Int) := IntWalk.i64_in _ (by omega)
      have y22 := F4.out.cq.w.cell 22
      have f22 := F4.out.cq.w.fr 22
      obtain ⟨o22, ho22⟩ : ∃ o, (cA c A na m)[22]? = some o := ⟨_, rfl⟩
      rw [ho22] at y22
      clear ho22
      have HKZ : Hid ((0 : Nat) ≤ 9223372036854775807) := Lib.hid (Nat.zero_le _)
      go_upto_region 6 with fail
      have p0 := Fld.put (d' := { c with res := 19 + (n : Int) }) (F4.out) HA.out 22 (.int .i64 (19 + (n : Int))) rfl rfl F4.out.cq.i.d.z (by have hz8 := F4.out.cq.i.z; constructor <;> first | exact hz8.k | exact hz8.call | exact hz8.saga | exact hz8.ea | exact hz8.eb | exact hz8.ec | exact hz8.dl | exact hz8.mv | exact hz8.g | exact hz8.ia | exact hz8.ib | exact hz8.ic | exact hz8.im | exact hz8.ig | exact hz8.res | exact hz8.key | exact hz8.f | exact hz8.t | exact hz8.data | exact in64_i (by show -9223372036854775808 ≤ (19 + (n : Int)); omega) (by show (19 + (n : Int)) ≤ 9223372036854775807; omega) | exact (by decide : (1 : Nat) ≤ 9223372036854775807) | exact Nat.zero_le _ | exact HKZ.out)
      have F6 := Lib.hid p0
      clear p0 y22 f22
      generalize (w4.setCell ⟨Q, 22, none⟩ (.int .i64 (19 + (n : Int)))) = w6 at F6 ⊢
      have yk : w6.cell? ⟨P, 0, none⟩ = some (.int .i64 c.k) := F6.out.cp.w.cell 0
      by_cases hk : c.k = 15
      · have ek : (c.k != 15) = false := by rw [hk]; rfl
        have HB : Hid (¬ cmdOk ({ c with res := 19 + (n : Int) })) := Lib.hid (bad_u_res c n hk)
        clear hk
        go_wp2_with fail
        go_meet
        case rel => exact ⟨_, _, _, _, Lib.hid ⟨F6.out, HB.out⟩⟩
      · have ek : (c.k != 15) = true := by rw [bne_iff_ne]; exact hk
        obtain ⟨c6, hc6⟩ : ∃ c6 : Cv, c6 = ({ c with res := 19 + (n : Int) }) := ⟨_, rfl⟩
        have F8 := Lib.hid (show Fld w P Q c A na m c6 A na m w6 from by rw [hc6]; exact F6.out)
        have y22 := F8.out.cq.w.cell 22
        have f22 := F8.out.cq.w.fr 22
        obtain ⟨o22, ho22⟩ : ∃ o, (cA c6 A na m)[22]? = some o := ⟨_, rfl⟩
        rw [ho22] at y22
        clear ho22
        have r0 := Fld.put (d' := { c6 with res := 1 }) (F8.out) HA.out 22 (.int .i64 1) rfl rfl F8.out.cq.i.d.z (by have hz8 := F8.out.cq.i.z; constructor <;> first | exact hz8.k | exact hz8.call | exact hz8.saga | exact hz8.ea | exact hz8.eb | exact hz8.ec | exact hz8.dl | exact hz8.mv | exact hz8.g | exact hz8.ia | exact hz8.ib | exact hz8.ic | exact hz8.im | exact hz8.ig | exact hz8.res | exact hz8.key | exact hz8.f | exact hz8.t | exact hz8.data | exact in64_i (by show -9223372036854775808 ≤ 1; omega) (by show 1 ≤ 9223372036854775807; omega) | exact (by decide : (1 : Nat) ≤ 9223372036854775807) | exact Nat.zero_le _ | exact HKZ.out)
        have HB : Hid (¬ cmdOk ({ c6 with res := 1 })) := Lib.hid (by rw [hc6]; exact bad_m_res c hk)
        have F9 := Lib.hid r0
        clear hc6 hk r0
        go_wp2_with fail
        go_meet
        case rel => exact ⟨_, _, _, _, Lib.hid ⟨F9.out, HB.out⟩⟩
  case rest =>
  generalize wc = w10 at hcut ⊢
  obtain ⟨d, A', n', m', HF⟩ := hcut
  clear F4 NM HA HT hwn hmf HZ
  have IN := fun {W : World} (hb : Below w10.heap.size w10 W) => HF.out.1.cq.i.keep hb
  have ENC := Lib.hid ((cencode_any d A' n' m' w10 (HE.out.keep HF.out.1.bl) HF.out.1.cq.i).mono (R' := fun e w' => (∃ A mm, e = .returned (.tuple #[.slice A 0 mm, .int .i64 2])) ∧ Below w10.heap.size w10 w') (fun e w' ⟨⟨A, nn, mm, he, hs, _⟩, hb⟩ => by
    have hv := encBC_no HF.out.2
    rw [hv.2] at he
    rw [hv.1] at hs
    obtain rfl : 0 = nn := hs.1
    exact ⟨⟨A, mm, he⟩, hb⟩))
  clear IN
  go_upto_region 51 with (first
    | (refine wpList_load_row (by rfl) 36 (.tmp 8) (by rfl) _ (by rfl) 36 (cA d A' n' m') (0, 0) _ HF.out.1.cq.w Tryz.underlying36 (by rfl) (info24 d A' n' m') ?_)
    | (go_at_call 26; refine ENC.out.mono ?_; rintro e w11 ⟨⟨A11, m11, rfl⟩, hb⟩; have G11 := Lib.hid (HF.out.1.keep hb); clear hb ENC))
  have HBD := Lib.hid HF.out.2
  clear HF
  have TXT := Lib.hid ((ctext_any d A' n' m' w11 (HE.out.keep G11.out.bl) G11.out.cq.i).mono (R' := fun e w' => e = .returned (.tuple #[.string ⟨#[]⟩, .int .i64 2]) ∧ Below w11.heap.size w11 w') (fun e w' ⟨he, hb⟩ => by
    rw [txtC_no HBD.out, ckC_no HBD.out] at he
    exact ⟨he, hb⟩))
  go_upto_region 52 with (first
    | (refine wpList_load_row (by rfl) 36 (.tmp 8) (by rfl) _ (by rfl) 36 (cA d A' n' m') (0, 0) _ G11.out.cq.w Tryz.underlying36 (by rfl) (info24 d A' n' m') ?_)
    | (go_at_call 28; refine TXT.out.mono ?_; rintro e w12 ⟨rfl, hb⟩; have G12 := Lib.hid (G11.out.keep hb); clear hb TXT))
  clear G11
  have CK := ccheck_any d A' n' m' w12 (HE.out.keep G12.out.bl) G12.out.cq.i
  rw [ckC_no HBD.out] at CK
  have CK := Lib.hid CK
  have EQ := Lib.hid (fun (W : World) (h : Fld w P Q c A na m d A' n' m' W) => (equal_any c d A A' na n' m m' W h.cp.i h.cq.i).mono (R' := fun e w' => e = .returned (.bool false) ∧ Below W.heap.size W w') (fun e w' hh => by
    unfold BoolR at hh
    obtain ⟨⟨q, he, hq⟩, hw⟩ := hh
    rw [he, show q = false from Bool.eq_false_iff.2 (fun e => HBD.out (by rw [← hq.1 e]; exact HOK.out))]
    exact ⟨rfl, hw⟩))
  clear HBD HOK
  go_wp2_with (first
    | (refine wpList_load_rowG (by rfl) 36 (.tmp 8) (by rfl) _ (by rfl) 36 (cA d A' n' m') (0, 0) _ G12.out.cq.w Tryz.underlying36 (by rfl) (info24 d A' n' m') ?_)
    | (go_at_call 30; refine CK.out.mono ?_; rintro e w13 ⟨rfl, hb⟩; have G13 := Lib.hid (G12.out.keep hb); clear hb CK)
    | (refine wpList_load_rowG (by rfl) 36 (.tmp 7) (by rfl) _ (by rfl) 36 (cA c A na m) (0, 0) _ G13.out.cp.w Tryz.underlying36 (by rfl) (info24 c A na m) ?_)
    | (refine wpList_load_rowG (by rfl) 36 (.tmp 8) (by rfl) _ (by rfl) 36 (cA d A' n' m') (0, 0) _ G13.out.cq.w Tryz.underlying36 (by rfl) (info24 d A' n' m') ?_)
    | (go_at_call 34; refine (EQ.out w13 G13.out).mono ?_; rintro e w14 ⟨rfl, hb⟩; have B14 := Lib.hid (G13.out.bl.trans (hb.mono G13.out.bl.size)); have W1 := Lib.hid (WK.out w14 B14.out); clear hb)
    | (go_at_call 12; refine W1.out.mono ?_; rintro e w15 ⟨rfl, hb⟩; have B15 := Lib.hid (B14.out.trans (hb.mono B14.out.size)); clear hb))
  go_ret
  exact ⟨rfl, B15.out⟩
end Go.Proofs.YtgjnmfmbheejoaaGreatDoor
