/- CmdsLong returns true at every input: the law's walk. Conditions: as the statement's own. -/
import Derived.Test.YtgjnmfmbheejoaaGreatDoorLCmLong
namespace Go.Proofs.YtgjnmfmbheejoaaGreatDoor
open Go.RowKit Go.Shelf

theorem rept_any (x : UInt8) (z : Nat) (hz : z ≤ 100000) (V : World) : ∃ d : ByteArray, d.size = z ∧ Calls Tryz.prog 39 #[.string ⟨#[x]⟩, .int .i64 (z : Int)] V fun e w' => e = .returned (.string d) ∧ Below V.heap.size V w' := by
  refine ⟨⟨(Lib.repeatL (⟨#[x]⟩ : ByteArray).data.toList z).toArray⟩, ?_, Tryz.strings_Repeat ⟨#[x]⟩ z V (by omega) (by show 1 * z ≤ _; omega)⟩
  rw [ba_size, Lib.repeatL_length]
  show z * 1 = z
  omega
set_option maxRecDepth 100000 in
set_option maxHeartbeats 8000000 in
theorem cmdsLong_any (more : Int) (w : World) (hE : DfE w) (h0 : 0 ≤ more) (h1 : more ≤ 255) :
    Calls Tryz.prog 10 #[.int .u8 more] w fun e w' => e = .returned (.bool true) ∧ Below w.heap.size w w' := by
  obtain ⟨k, hk⟩ : ∃ k : Int, more % 16 = k + 8 := ⟨more % 16 - 8, by omega⟩
  have hk0 : -8 ≤ k := by omega
  have hk1 : k ≤ 7 := by omega
  obtain ⟨z1, hz1⟩ : ∃ z : Nat, (z : Int) = 65529 + k := ⟨(65529 + k).toNat, by omega⟩
  obtain ⟨z2, hz2⟩ : ∃ z : Nat, (z : Int) = 65530 + k := ⟨(65530 + k).toNat, by omega⟩
  obtain ⟨z3, hz3⟩ : ∃ z : Nat, (z : Int) = 65531 + k := ⟨(65531 + k).toNat, by omega⟩
  have hwk : IntKind.i64.wrap k = k := IntWalk.i64_in _ (by omega)
  have hw1 : IntKind.i64.wrap (65529 + k) = (z1 : Int) := by rw [hz1]; exact IntWalk.i64_in _ (by omega)
  have hw2 : IntKind.i64.wrap (65530 + k) = (z2 : Int) := by rw [hz2]; exact IntWalk.i64_in _ (by omega)
  have hw3 : IntKind.i64.wrap (65531 + k) = (z3 : Int) := by rw [hz3]; exact IntWalk.i64_in _ (by omega)
  have hw4 : IntKind.i64.wrap (65536 + k) = 65536 + k := IntWalk.i64_in _ (by omega)
  have R1 := Lib.hid (fun V => rept_any 100 z1 (by omega) V)
  have R2 := Lib.hid (fun V => rept_any 100 z2 (by omega) V)
  have R3 := Lib.hid (fun V => rept_any 100 z3 (by omega) V)
  have HZ := Lib.hid (And.intro hz1 (And.intro hz2 hz3))
  have HE := Lib.hid hE
  obtain ⟨n, hn⟩ : ∃ n, n = lenK k := ⟨_, rfl⟩
  have hnn : (k ≤ 0 → (n : Int) = 65536 + k) ∧ (0 < k → n = 0) := by
    rw [hn]; unfold lenK
    exact ⟨fun h => by rw [if_neg (by omega)]; omega, fun h => by rw [if_pos h]⟩
  have HNN := Lib.hid hnn
  have HK := Lib.hid (And.intro hk0 hk1)
  have WT := Lib.hid (fun (s : Int) (hs0 : 0 ≤ s) (hs1 : s ≤ 100000) (X : Nat) (V : World) (hx : V.cell? ⟨X, 0, none⟩ = some (.int .i64 k)) => want_any k s X V hk0 hk1 hs0 hs1 hx)
  obtain ⟨q1, hq1⟩ : ∃ q, q = wantK k 65529 := ⟨_, rfl⟩
  obtain ⟨q2, hq2⟩ : ∃ q, q = wantK k 65530 := ⟨_, rfl⟩
  obtain ⟨q3, hq3⟩ : ∃ q, q = wantK k 65531 := ⟨_, rfl⟩
  have HQ := Lib.hid (And.intro hq1 (And.intro hq2 hq3))
  have EN1 := Lib.hid (fun (d : ByteArray) (hd : d.size = z1) (V : World) (hV : DfE V) => (cencode_any (inC d) none 0 0 V hV ⟨defAt_zero V, by constructor <;> first | exact (show (0 : Nat) ≤ _ from Nat.zero_le _) | (show d.size ≤ _; omega) | (dsimp only [inC, zeroD, zeroI]; exact ⟨by decide, by decide⟩)⟩).mono (R' := fun e w' => (∃ A m, e = .returned (.tuple #[.slice A n m, .int .i64 q1])) ∧ Below V.heap.size V w') (fun e w' ⟨⟨A, n', m, he, hs, _⟩, hb⟩ => by
    have hw := enc_want (c := inC d) (k := k) (s := 65529) hk0 ((inC_ok d).trans (by omega)) (by rw [inC_len (by omega) (by omega)]; omega) (by omega)
    rw [hw.1, ← hq1] at he
    have : n = n' := by rw [hn, ← hw.2]; exact hs.1
    subst this
    exact ⟨⟨A, m, he⟩, hb⟩))
  have EN2 := Lib.hid (fun (d : ByteArray) (hd : d.size = z2) (V : World) (hV : DfE V) => (cencode_any (resC d) none 0 0 V hV ⟨defAt_zero V, by constructor <;> first | exact (show (0 : Nat) ≤ _ from Nat.zero_le _) | (show d.size ≤ _; omega) | (dsimp only [resC, zeroD, zeroI]; exact ⟨by decide, by decide⟩)⟩).mono (R' := fun e w' => (∃ A m, e = .returned (.tuple #[.slice A n m, .int .i64 q2])) ∧ Below V.heap.size V w') (fun e w' ⟨⟨A, n', m, he, hs, _⟩, hb⟩ => by
    have hw := enc_want (c := resC d) (k := k) (s := 65530) hk0 ((resC_ok d).trans (by omega)) (by rw [resC_len (by omega) (by omega)]; omega) (by omega)
    rw [hw.1, ← hq2] at he
    have : n = n' := by rw [hn, ← hw.2]; exact hs.1
    subst this
    exact ⟨⟨A, m, he⟩, hb⟩))
  have RP3a := fun (d : ByteArray) (hd : d.size = z3) (V : World) => (reply_any ⟨0, 0, d⟩ V).mono (R' := fun e w' => (∃ A m, e = .returned (.tuple #[.slice A n m, .int .i64 q3])) ∧ Below V.heap.size V w') (fun e w' ⟨⟨A, n', m, he, hs, _⟩, hb⟩ => by
    have hw := rep_want (r := ⟨0, 0, d⟩) (k := k) (s := 65531) hk0 ⟨fun h => by have : d.size ≤ 65536 := h.2.2; omega, fun h => ⟨⟨by dsimp only; omega, by dsimp only; omega⟩, ⟨by dsimp only; omega, by dsimp only; omega⟩, by dsimp only; omega⟩⟩ (by rw [repL_len (by omega) (by omega)]; omega) (by omega)
    rw [hw.1, ← hq3] at he
    have : n = n' := by rw [hn, ← hw.2]; exact hs.1
    subst this
    exact ⟨⟨A, m, he⟩, hb⟩)
  unfold rA at RP3a
  dsimp only at RP3a
  have RP3 := Lib.hid RP3a
  clear RP3a
  have WK := Lib.hid (fun (W : World) (hb : Below w.heap.size w W) => works_any W (hE.keep hb))
  clear hE hz1 hz2 hz3 hn hnn hq1 hq2 hq3 hk0 hk1
  have I1 := Lib.hid (And.intro ((Below.refl w.heap.size w).alloc (Nat.le_refl _) (.cells #[.int .i64 k] 3)) (Whole.new w 3 #[.int .i64 k]))
  go_enter Tryz.func10, Tryz.ntmps10
  go_upto_region 2 with fail
  generalize w.alloc (.cells #[.int .i64 k] 3) = w1 at I1 ⊢
  have x0 : w1.cell? ⟨w.heap.size, 0, none⟩ = some (.int .i64 k) := I1.out.2.cell 0
  go_upto_region 3 with (first
    | (go_at_call 39; obtain ⟨d1, hd1, hc⟩ := R1.out w1; refine hc.mono ?_; clear hc; rintro e w2 ⟨rfl, hb⟩; have I2 := Lib.hid (And.intro (I1.out.1.trans (hb.mono I1.out.1.size)) (I1.out.2.keep hb)); have HD1 := Lib.hid hd1; clear hb hd1)
    | (refine wpList_store_row rfl 36 (.tmp 4) (.tmp 23) rfl _ (cA (inC d1) none 0 0) rfl rfl 36 _ (heap_alloc_new _ _) (info24 _ _ _ _) rfl (all24 _ _ _ _) ?_; rw [World.setRow_alloc_new]))
  have I3 : Hid (Below w.heap.size w (w2.alloc (.cells (cA (inC d1) none 0 0) 36)) ∧ Whole (w2.alloc (.cells (cA (inC d1) none 0 0) 36)) w.heap.size 3 #[.int .i64 k] ∧ Whole (w2.alloc (.cells (cA (inC d1) none 0 0) 36)) w2.heap.size 36 (cA (inC d1) none 0 0)) := by
    have ba := (Below.refl w2.heap.size w2).alloc (Nat.le_refl _) (.cells (cA (inC d1) none 0 0) 36)
    exact Lib.hid ⟨I2.out.1.trans (ba.mono I2.out.1.size), I2.out.2.keep ba, Whole.new w2 _ _⟩
  clear I1 I2 x0 R1 hw1
  generalize w2.alloc (.cells (cA (inC d1) none 0 0) 36) = w3 at I3 ⊢
  generalize w2.heap.size = B1 at I3 ⊢
  have x0 : w3.cell? ⟨w.heap.size, 0, none⟩ = some (.int .i64 k) := I3.out.2.1.cell 0
  go_upto_region 4 with (first
    | (go_at_call 39; obtain ⟨d2, hd2, hc⟩ := R2.out w3; refine hc.mono ?_; clear hc; rintro e w4 ⟨rfl, hb⟩; have I4 := Lib.hid (And.intro (I3.out.1.trans (hb.mono I3.out.1.size)) (And.intro (I3.out.2.1.keep hb) (I3.out.2.2.keep hb))); have HD2 := Lib.hid hd2; clear hb hd2)
    | (refine wpList_store_row rfl 36 (.tmp 5) (.tmp 29) rfl _ (cA (resC d2) none 0 0) rfl rfl 36 _ (heap_alloc_new _ _) (info24 _ _ _ _) rfl (all24 _ _ _ _) ?_; rw [World.setRow_alloc_new]))
  have I5 : Hid (Below w.heap.size w (w4.alloc (.cells (cA (resC d2) none 0 0) 36)) ∧ Whole (w4.alloc (.cells (cA (resC d2) none 0 0) 36)) w.heap.size 3 #[.int .i64 k] ∧ Whole (w4.alloc (.cells (cA (resC d2) none 0 0) 36)) B1 36 (cA (inC d1) none 0 0) ∧ Whole (w4.alloc (.cells (cA (resC d2) none 0 0) 36)) w4.heap.size 36 (cA (resC d2) none 0 0)) := by
    have ba := (Below.refl w4.heap.size w4).alloc (Nat.le_refl _) (.cells (cA (resC d2) none 0 0) 36)
    exact Lib.hid ⟨I4.out.1.trans (ba.mono I4.out.1.size), I4.out.2.1.keep ba, I4.out.2.2.keep ba, Whole.new w4 _ _⟩
  clear I3 I4 x0 R2 hw2
  generalize w4.alloc (.cells (cA (resC d2) none 0 0) 36) = w5 at I5 ⊢
  generalize w4.heap.size = B2 at I5 ⊢
  have x0 : w5.cell? ⟨w.heap.size, 0, none⟩ = some (.int .i64 k) := I5.out.2.1.cell 0
  go_upto_region 6 with (go_at_call 39; obtain ⟨d3, hd3, hc⟩ := R3.out w5; refine hc.mono ?_; clear hc; rintro e w6 ⟨rfl, hb⟩; have I6 := Lib.hid (And.intro (I5.out.1.trans (hb.mono I5.out.1.size)) (And.intro (I5.out.2.1.keep hb) (And.intro (I5.out.2.2.1.keep hb) (I5.out.2.2.2.keep hb)))); have HD3 := Lib.hid hd3; clear hb hd3)
  have I7 : Hid (Below w.heap.size w (w6.alloc (.cells #[.int .i64 0, .int .i64 0, .string d3] 40)) ∧ Whole (w6.alloc (.cells #[.int .i64 0, .int .i64 0, .string d3] 40)) w.heap.size 3 #[.int .i64 k] ∧ Whole (w6.alloc (.cells #[.int .i64 0, .int .i64 0, .string d3] 40)) B1 36 (cA (inC d1) none 0 0) ∧ Whole (w6.alloc (.cells #[.int .i64 0, .int .i64 0, .string d3] 40)) B2 36 (cA (resC d2) none 0 0) ∧ Whole (w6.alloc (.cells #[.int .i64 0, .int .i64 0, .string d3] 40)) w6.heap.size 40 #[.int .i64 0, .int .i64 0, .string d3]) := by
    have ba := (Below.refl w6.heap.size w6).alloc (Nat.le_refl _) (.cells #[.int .i64 0, .int .i64 0, .string d3] 40)
    exact Lib.hid ⟨I6.out.1.trans (ba.mono I6.out.1.size), I6.out.2.1.keep ba, I6.out.2.2.1.keep ba, I6.out.2.2.2.keep ba, Whole.new w6 _ _⟩
  clear I5 I6 x0 R3 hw3
  generalize w6.alloc (.cells #[.int .i64 0, .int .i64 0, .string d3] 40) = w7 at I7 ⊢
  generalize w6.heap.size = B3 at I7 ⊢
  have HKP : Hid (∀ V V', (Below w.heap.size w V ∧ Whole V w.heap.size 3 #[.int .i64 k] ∧ Whole V B1 36 (cA (inC d1) none 0 0) ∧ Whole V B2 36 (cA (resC d2) none 0 0) ∧ Whole V B3 40 #[.int .i64 0, .int .i64 0, .string d3]) → Below V.heap.size V V' → (Below w.heap.size w V' ∧ Whole V' w.heap.size 3 #[.int .i64 k] ∧ Whole V' B1 36 (cA (inC d1) none 0 0) ∧ Whole V' B2 36 (cA (resC d2) none 0 0) ∧ Whole V' B3 40 #[.int .i64 0, .int .i64 0, .string d3])) :=
    Lib.hid (fun V V' h hb => ⟨h.1.trans (hb.mono h.1.size), h.2.1.keep hb, h.2.2.1.keep hb, h.2.2.2.1.keep hb, h.2.2.2.2.keep hb⟩)
  have EN1 := Lib.hid (EN1.out d1 HD1.out w7 (HE.out.keep I7.out.1))
  go_upto_region 7 with (first
    | (refine wpList_load_row rfl 36 (.tmp 4) rfl _ rfl 36 (cA (inC d1) none 0 0) (0, 0) _ I7.out.2.2.1 Tryz.underlying36 rfl (info24 _ _ _ _) ?_)
    | (go_at_call 26; refine EN1.out.mono ?_; rintro e w8 ⟨⟨A8, m8, rfl⟩, hb⟩; have I8 := Lib.hid (HKP.out w7 w8 I7.out hb); clear hb EN1 I7))
  have EN2 := Lib.hid (EN2.out d2 HD2.out w8 (HE.out.keep I8.out.1))
  go_upto_region 8 with (first
    | (refine wpList_load_row rfl 36 (.tmp 5) rfl _ rfl 36 (cA (resC d2) none 0 0) (0, 0) _ I8.out.2.2.2.1 Tryz.underlying36 rfl (info24 _ _ _ _) ?_)
    | (go_at_call 26; refine EN2.out.mono ?_; rintro e w9 ⟨⟨A9, m9, rfl⟩, hb⟩; have I9 := Lib.hid (HKP.out w8 w9 I8.out hb); clear hb EN2 I8))
  have RP3 := Lib.hid (RP3.out d3 HD3.out w9)
  obtain ⟨y0, y1, y2⟩ := whole4r I9.out.2.2.2.2
  go_upto_region 9 with (go_at_call 20; refine RP3.out.mono ?_; rintro e wa ⟨⟨Aa, ma, rfl⟩, hb⟩; have Ia := Lib.hid (HKP.out w9 wa I9.out hb); clear hb RP3 I9)
  clear y0 y1 y2
  have V1 := Lib.hid (show Calls Tryz.prog 40 #[.int .i64 65529, .pointer (some ⟨w.heap.size, 0, none⟩)] wa fun e w' => e = .returned (.int .i64 q1) ∧ wa = w' from by rw [HQ.out.1]; exact WT.out 65529 (by decide) (by decide) _ wa (Ia.out.2.1.cell 0))
  have V2 := Lib.hid (show Calls Tryz.prog 40 #[.int .i64 65530, .pointer (some ⟨w.heap.size, 0, none⟩)] wa fun e w' => e = .returned (.int .i64 q2) ∧ wa = w' from by rw [HQ.out.2.1]; exact WT.out 65530 (by decide) (by decide) _ wa (Ia.out.2.1.cell 0))
  have V3 := Lib.hid (show Calls Tryz.prog 40 #[.int .i64 65531, .pointer (some ⟨w.heap.size, 0, none⟩)] wa fun e w' => e = .returned (.int .i64 q3) ∧ wa = w' from by rw [HQ.out.2.2]; exact WT.out 65531 (by decide) (by decide) _ wa (Ia.out.2.1.cell 0))
  go_upto_region 11 with (go_at_call 40; first | (refine V1.out.mono ?_; rintro e v ⟨rfl, rfl⟩; clear V1) | (refine V2.out.mono ?_; rintro e v ⟨rfl, rfl⟩; clear V2) | (refine V3.out.mono ?_; rintro e v ⟨rfl, rfl⟩; clear V3))
  have Ib : Hid (Below w.heap.size w (wa.alloc (.cells #[.slice A8 n m8, .slice A9 n m9, .slice Aa n ma] 22)) ∧ Whole (wa.alloc (.cells #[.slice A8 n m8, .slice A9 n m9, .slice Aa n ma] 22)) w.heap.size 3 #[.int .i64 k] ∧ Whole (wa.alloc (.cells #[.slice A8 n m8, .slice A9 n m9, .slice Aa n ma] 22)) wa.heap.size 22 #[.slice A8 n m8, .slice A9 n m9, .slice Aa n ma]) := by
    have ba := (Below.refl wa.heap.size wa).alloc (Nat.le_refl _) (.cells #[.slice A8 n m8, .slice A9 n m9, .slice Aa n ma] 22)
    exact Lib.hid ⟨Ia.out.1.trans (ba.mono Ia.out.1.size), Ia.out.2.1.keep ba, Whole.new wa _ _⟩
  go_upto_region 12 with fail
  generalize wa.alloc (.cells #[.slice A8 n m8, .slice A9 n m9, .slice Aa n ma] 22) = wb at Ib ⊢
  generalize wa.heap.size = G at Ib ⊢
  have HF : Hid (∀ j, j < 3 → ∃ A m, wb.cell? ⟨G, j, none⟩ = some (.slice A n m)) := Lib.hid (fun j hj => by
    match j, hj with
    | 0, _ => exact ⟨_, _, Ib.out.2.2.cell 0⟩
    | 1, _ => exact ⟨_, _, Ib.out.2.2.cell 1⟩
    | 2, _ => exact ⟨_, _, Ib.out.2.2.cell 2⟩)
  have x0 : wb.cell? ⟨w.heap.size, 0, none⟩ = some (.int .i64 k) := Ib.out.2.1.cell 0
  have W1 := Lib.hid (WK.out wb Ib.out.1)
  clear Ia HQ WT HE HKP HD1 HD2 HD3 WK HZ
  go_loopw [71] (fun i wr => ∃ j : Nat, j ≤ 3 ∧ i = .int .i64 j ∧ wr = wb) (fun i _ => 3 - (intOf i).toNat)
  case atStart => exact ⟨0, by omega, rfl, rfl⟩
  case round =>
    obtain ⟨j, hj, rfl, rfl⟩ := hrel
    by_cases hj3 : j < 3
    · obtain ⟨A, m, z0⟩ := HF.out j hj3
      have hj0 : (0 : Int) ≤ (j : Int) := by omega
      have hj3' : (j : Int) < 3 := by omega
      have hwj : IntKind.i64.wrap ((j : Int) + 1) = (j : Int) + 1 := IntWalk.i64_in _ (by omega)
      by_cases hkp : 0 < k
      · obtain rfl := HNN.out.2 hkp
        have hkq : ¬ k ≤ 0 := by omega
        go_wp2_with fail
        go_roundw
        case rel => exact ⟨j + 1, by omega, by go_num, trivial⟩
        case measure => simp [intOf]; omega
      · have hkq : k ≤ 0 := by omega
        have hw5 : IntKind.i64.wrap (65536 + k) = (n : Int) := hw4.trans (HNN.out.1 hkq).symm
        clear hw4
        go_wp2_with fail
        go_roundw
        case rel => exact ⟨j + 1, by omega, by go_num, trivial⟩
        case measure => simp [intOf]; omega
    · obtain rfl : j = 3 := by omega
      rw [show ((3 : Nat) : Int) = 3 from rfl]
      go_wp2_with (go_at_call 12; refine W1.out.mono ?_; rintro e w6 ⟨rfl, hb6⟩)
      go_ret
      exact ⟨rfl, Ib.out.1.trans (hb6.mono Ib.out.1.size)⟩
end Go.Proofs.YtgjnmfmbheejoaaGreatDoor
