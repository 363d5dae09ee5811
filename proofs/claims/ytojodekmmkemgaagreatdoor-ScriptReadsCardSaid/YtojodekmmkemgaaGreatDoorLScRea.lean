/- ScriptReads returns true at every input. Conditions: as the statement's own. -/
import Derived.Test.YtojodekmmkemgaaGreatDoorScRPl
import Derived.Test.YtojodekmmkemgaaGreatDoorScSam
import Derived.Test.YtojodekmmkemgaaGreatDoorScWk
namespace Go.Proofs.YtojodekmmkemgaaGreatDoor
open Go.RowKit Go.Shelf

theorem paAll_len : ∀ (ls : List (List UInt8)) (n : Nat) (acc : List Ov), acc.length ≤ 2000 → (paAll ls n acc).1.length ≤ 2000
  | [], _, _, h => h
  | l :: ls, n, acc, h => by
    rw [paAll]
    split
    · exact paAll_len ls _ _ h
    · split
      · exact Nat.zero_le _
      · split
        · exact paAll_len ls _ _ (by rw [List.length_append, List.length_singleton]; omega)
        · exact Nat.zero_le _
theorem paTop_len (s : List UInt8) : (paTop s).1.length ≤ 2000 := by
  unfold paTop
  split
  · exact Nat.zero_le _
  · exact paAll_len _ _ _ (Nat.zero_le _)
set_option maxRecDepth 100000 in
set_option maxHeartbeats 8000000 in
theorem scriptReads_any (s : ByteArray) (w : World) (hE : DfE w) (hz : s.size ≤ 9223372036854775807) :
    Calls Tryz.prog 5 #[.string s] w fun e w' => e = .returned (.bool true) ∧ Below w.heap.size w w' := by
  have HE := Lib.hid (fun (W : World) (hb : Below w.heap.size w W) => hE.keep hb)
  have WK := Lib.hid (fun (W : World) (hb : Below w.heap.size w W) => works_any W (hE.keep hb))
  by_cases hbig : 5000 < s.size
  · have hb3 : (5000 : Int) < (s.size : Int) := by omega
    have W1 := Lib.hid (WK.out w (Below.refl _ _))
    clear hbig WK hz hE
    go_enter Tryz.func5, Tryz.ntmps5
    go_wp2_with (go_at_call 20; refine W1.out.mono ?_; rintro e w10 ⟨rfl, hb⟩; have B10 := Lib.hid hb; clear hb)
    go_ret
    exact ⟨rfl, B10.out⟩
  have hb3 : ¬ ((5000 : Int) < (s.size : Int)) := by omega
  have P1 := Lib.hid (oparse_any s w hE (by omega))
  have P2 := Lib.hid (fun (W : World) => roparse_any s W (by omega))
  have P3 := Lib.hid (fun (W : World) (hb : Below w.heap.size w W) => pall_any s W (hE.keep hb) (by omega))
  have P4 := Lib.hid (fun (W : World) => rpall_any s W (by omega))
  unfold OParR at P1 P2
  unfold PAllR at P3 P4
  clear hbig hz hE
  go_enter Tryz.func5, Tryz.ntmps5
  go_upto_region 4 with (first
    | (go_at_call 28; refine P1.out.mono ?_; rintro e w2 ⟨o, er, A1, n1, m1, rfl, hr, hi, hb, -⟩; have HR := Lib.hid hr; have ba := (Below.refl w2.heap.size w2).alloc (Nat.le_refl _) (.cells (oA o A1 n1 m1) 34); have I3 := Lib.hid (And.intro (hb.trans (ba.mono hb.size)) (OpAt.new hi)); clear hr hi hb ba P1)
    | (refine wpList_store_row (by rfl) 34 (.tmp 3) (.tmp 20) (by rfl) _ (oA o A1 n1 m1) (by rfl) (by rfl) 34 _ (heap_alloc_new _ _) (info10 _ _ _ _) (by rfl) (all10 _ _ _ _) ?_; rw [World.setRow_alloc_new]))
  generalize w2.alloc (.cells (oA o A1 n1 m1) 34) = w3 at I3 ⊢
  generalize w2.heap.size = X at I3 ⊢
  go_upto_region 5 with (first
    | (go_at_call 29; refine (P2.out _).mono ?_; rintro e w4 ⟨o2, er2, A2, n2, m2, rfl, hr, hi, hb, -⟩; have HR2 := Lib.hid hr; have ba := (Below.refl w4.heap.size w4).alloc (Nat.le_refl _) (.cells (oA o2 A2 n2 m2) 34); have b2 := hb.trans (ba.mono hb.size); have I5 := Lib.hid (And.intro (I3.out.1.trans (b2.mono I3.out.1.size)) (And.intro (I3.out.2.keep b2) (OpAt.new hi))); clear hr hi hb ba b2 P2)
    | (refine wpList_store_row (by rfl) 34 (.tmp 5) (.tmp 25) (by rfl) _ (oA o2 A2 n2 m2) (by rfl) (by rfl) 34 _ (heap_alloc_new _ _) (info10 _ _ _ _) (by rfl) (all10 _ _ _ _) ?_; rw [World.setRow_alloc_new]))
  generalize w4.alloc (.cells (oA o2 A2 n2 m2) 34) = w5 at I5 ⊢
  generalize w4.heap.size = Y at I5 ⊢
  clear I3
  go_upto_region 6 with (go_at_call 13; refine (P3.out _ I5.out.1).mono ?_; rintro e w6 ⟨l1, B3, c3, a3, e3, rfl, hp, hs, -, hb⟩; have HP3 := Lib.hid hp; have I6 := Lib.hid (And.intro (I5.out.1.trans (hb.mono I5.out.1.size)) (And.intro (I5.out.2.1.keep hb) (And.intro (I5.out.2.2.keep hb) hs))); clear hp hs hb P3)
  clear I5
  go_upto_region 7 with (go_at_call 30; refine (P4.out _).mono ?_; rintro e w7 ⟨l2, B4, c4, a4, e4, rfl, hp, hs, -, hb⟩; have HP4 := Lib.hid hp; have I7 := Lib.hid (And.intro (I6.out.1.trans (hb.mono I6.out.1.size)) (And.intro (I6.out.2.1.keep hb) (And.intro (I6.out.2.2.1.keep hb) (And.intro (I6.out.2.2.2.keep hb) hs)))); clear hp hs hb P4)
  clear I6
  obtain ⟨rfl, rfl⟩ := HR.out.same HR2.out
  have hpp := HP3.out.symm.trans HP4.out
  obtain ⟨hl, hq⟩ := Prod.mk.inj hpp
  obtain ⟨rfl, rfl⟩ := Prod.mk.inj hq
  have hll : l1.length = l2.length := by have := congrArg List.length hl; simpa using this
  have HLE : Hid (l1.length ≤ 1000000) := Lib.hid (by
    have h := HP3.out
    have h2 := paTop_len s.data.toList
    rw [h, List.length_map] at h2
    exact Nat.le_trans h2 (by decide))
  obtain ⟨N, hN⟩ : ∃ N, N = l1.length := ⟨_, rfl⟩
  rw [← hll, ← hN]
  have HL := Lib.hid hl
  have HN := Lib.hid hN
  have SM := Lib.hid (fun (W : World) (hs : SlO W B3 l1) (hs2 : SlO W B4 l2) => same_any B3 B4 N c3 c4 l1 l2 W hs hs2 HN.out.symm HL.out (by have := HLE.out; have := HN.out; omega))
  have EQ := Lib.hid (fun (W : World) (h1 : OpIn W o A1 n1 m1) (h2 : OpIn W o A2 n2 m2) => rsame_b o A1 A2 n1 n2 m1 m2 W h1 h2)
  have g1 : (er == er) = true := beq_self_eq_true _
  have g2 : ((a3 : Int) == (a3 : Int)) = true := beq_self_eq_true _
  have g3 : (e3 == e3) = true := beq_self_eq_true _
  clear hpp hl hq hll hN HR HR2 HP3 HP4 HLE
  go_wp2_with (first
    | (refine wpList_load_row (by rfl) 34 (.tmp 3) (by rfl) _ (by rfl) 34 (oA o A1 n1 m1) (0, 0) _ I7.out.2.1.w Tryz.underlying34 (by rfl) (info10 o A1 n1 m1) ?_)
    | (refine wpList_load_row (by rfl) 34 (.tmp 5) (by rfl) _ (by rfl) 34 (oA o A2 n2 m2) (0, 0) _ I7.out.2.2.1.w Tryz.underlying34 (by rfl) (info10 o A2 n2 m2) ?_)
    | (go_at_call 27; refine (EQ.out _ I7.out.2.1.i I7.out.2.2.1.i).mono ?_; rintro e w8 ⟨rfl, hb⟩; have I8 := Lib.hid (And.intro (I7.out.1.trans (hb.mono I7.out.1.size)) (And.intro (I7.out.2.2.2.1.keep hb) (I7.out.2.2.2.2.keep hb))); clear hb EQ)
    | (go_at_call 14; refine (SM.out _ I8.out.2.1 I8.out.2.2).mono ?_; rintro e w9 ⟨rfl, hb⟩; have B9 := Lib.hid (I8.out.1.trans (hb.mono I8.out.1.size)); have W9 := Lib.hid (WK.out _ B9.out); clear hb SM)
    | (go_at_call 20; refine W9.out.mono ?_; rintro e w10 ⟨rfl, hb⟩; have BF := Lib.hid (B9.out.trans (hb.mono B9.out.size)); clear hb))
  go_ret
  exact ⟨rfl, BF.out⟩
end Go.Proofs.YtojodekmmkemgaaGreatDoor
