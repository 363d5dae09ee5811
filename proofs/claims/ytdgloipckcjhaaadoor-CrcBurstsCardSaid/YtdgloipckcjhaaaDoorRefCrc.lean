/- What the reference's step, take, More, Sum, Check, times and Join of checksums return; memory stays. Condition: the bytes lie in memory. -/
import Derived.Test.YtdgloipckcjhaaaDoorJoin
namespace Go.Proofs.YtdgloipckcjhaaaDoor
open Go.RowKit

set_option maxHeartbeats 400000 in
theorem refStep_any (r : Nat) (w : World) (hr : r < 4294967296) :
    Calls Tryd.prog 31 #[.int .u32 (r : Int)] w fun e w' => e = .returned (.int .u32 (Crc.step r : Nat)) ∧ w = w' := by
  have hx := u32_xor_nat (r / 2) 3988292384 (by omega) (by decide)
  rw [show ((r / 2 : Nat) : Int) = (r : Int) / 2 from rfl, show ((3988292384 : Nat) : Int) = 3988292384 from rfl] at hx
  rcases Nat.mod_two_eq_zero_or_one r with e | e
  · have hS : Crc.step r = r / 2 := by unfold Crc.step; rw [if_neg (by omega)]
    have h0 : ((r : Int) % 2 == 1) = false := by simp only [beq_eq_false_iff_ne]; omega
    have HS := Lib.hid hS
    clear hS e hx
    go_enter Tryd.func31, Tryd.ntmps31
    go_wp2
    go_ret
    exact ⟨by rw [HS.out]; rfl, rfl⟩
  · have hS : Crc.step r = r / 2 ^^^ 3988292384 := by unfold Crc.step; rw [if_pos e]
    have h0 : ((r : Int) % 2 == 1) = true := by simp only [beq_iff_eq]; omega
    have HS := Lib.hid hS
    clear hS e
    go_enter Tryd.func31, Tryd.ntmps31
    go_wp2
    go_ret
    exact ⟨by rw [HS.out]; rfl, rfl⟩

set_option maxHeartbeats 400000 in
theorem refTake_any (r c : Nat) (w : World) (hr : r < 4294967296) (hc : c < 256) :
    Calls Tryd.prog 38 #[.int .u32 (r : Int), .int .u8 (c : Int)] w fun e w' => e = .returned (.int .u32 (Crc.stepn 8 (r ^^^ c) : Nat)) ∧ w = w' := by
  have hx := xor_byte hr hc
  have hl := xor_u32_u8 hr hc
  generalize r ^^^ c = x at *
  go_enter Tryd.func38, Tryd.ntmps38
  go_wp2
  clear hx
  go_loop [0, 5] (fun r i => ∃ k : Nat, k ≤ 8 ∧ i = .int .i64 k ∧ r = .int .u32 ((Crc.stepn k x : Nat) : Int)) (fun _ i => 8 - (intOf i).toNat)
  case atStart => exact ⟨0, Nat.zero_le _, rfl, rfl⟩
  case round =>
    obtain ⟨k, hk, rfl, rfl⟩ := hrel
    by_cases hlt : k < 8
    · have hs := Crc.stepn_lt k hl
      have HS := Lib.hid (Crc.stepn_succ k x)
      generalize Crc.stepn k x = y at *
      go_wp2_with (go_at_call 31; refine (refStep_any _ _ hs).mono ?_; rintro e w' ⟨rfl, rfl⟩)
      go_round
      case rel => exact ⟨k + 1, by omega, by go_num, by rw [HS.out]⟩
      case measure => simp [intOf]; omega
    · obtain rfl : k = 8 := by omega
      go_wp2
      go_ret
      exact ⟨rfl, rfl⟩

set_option maxHeartbeats 400000 in
theorem refMore_some (s : Nat) (a : Addr) (cap : Nat) (l : List Nat) (w : World) (hs : s < 4294967296) (hlc : l.length ≤ cap) (hcm : cap ≤ 9223372036854775807) (hc : ∀ i, i < l.length → w.cell? (a.add i) = some (.int .u8 (l.getD i 0 : Nat)))
    (hb : ∀ c ∈ l, c < 256) :
    Calls Tryd.prog 25 #[.int .u32 (s : Int), .slice (some a) l.length cap] w fun e w' => e = .returned (.int .u32 (Crc.more s l : Nat)) ∧ w = w' := by
  have hsg := u32_signed
  have hn := not_eq hs
  obtain ⟨M, hM⟩ : ∃ M, M = 4294967295 ^^^ s := ⟨_, rfl⟩
  have hMl : M < 4294967296 := by rw [hM]; exact max_xor hs
  rw [← hM] at hn
  have HM := Lib.hid hM
  have HB := Lib.hid hb
  have HC := Lib.hid hc
  clear hM hb hc hs
  go_enter Tryd.func25, Tryd.ntmps25
  go_wp2
  clear hn
  go_loop [5, 6] (fun r i => ∃ k : Nat, k ≤ l.length ∧ i = .int .i64 k ∧ r = .int .u32 ((Crc.many M (l.take k) : Nat) : Int)) (fun _ i => l.length - (intOf i).toNat)
  case atStart => exact ⟨0, Nat.zero_le _, rfl, rfl⟩
  case round =>
    obtain ⟨k, hk, rfl, rfl⟩ := hrel
    have hr := many_take_lt hMl HB.out k
    by_cases hlt : k < l.length
    · have hcell := HC.out k hlt
      have hby := getD_lt HB.out k
      have HS := Lib.hid (many_snoc M hlt)
      generalize Crc.many M (l.take k) = r at *
      generalize l.getD k 0 = c at *
      go_wp2_with (go_at_call 38; refine (refTake_any _ _ _ hr hby).mono ?_; rintro e w' ⟨rfl, rfl⟩)
      go_round
      case rel => exact ⟨k + 1, by omega, by go_num, by rw [HS.out]⟩
      case measure => simp [intOf]; omega
    · have hfin : l.take k = l := List.take_of_length_le (by omega)
      rw [hfin] at hr
      have hn2 := not_eq hr
      have HF := Lib.hid hfin
      rw [hfin]
      clear hfin
      have hd : decide ((k : Int) < (l.length : Int)) = false := by simpa using hlt
      go_wp2
      go_ret
      exact ⟨by unfold Crc.more; rw [← HM.out]; rfl, rfl⟩

set_option maxHeartbeats 400000 in
theorem refMore_nil (s : Nat) (cap : Nat) (w : World) (hs : s < 4294967296) :
    Calls Tryd.prog 25 #[.int .u32 (s : Int), .slice none 0 cap] w fun e w' => e = .returned (.int .u32 (Crc.more s [] : Nat)) ∧ w = w' := by
  have hsg := u32_signed
  have hn := not_eq hs
  have hn2 := not_eq (max_xor hs)
  generalize hM : 4294967295 ^^^ s = M at hn hn2
  have HM := Lib.hid hM
  clear hM hs
  go_enter Tryd.func25, Tryd.ntmps25
  go_wp2
  go_loop [5, 6] (fun r i => i = .int .i64 0 ∧ r = .int .u32 (M : Int)) (fun _ _ => 0)
  case atStart => exact ⟨rfl, rfl⟩
  case round =>
    obtain ⟨rfl, rfl⟩ := hrel
    go_wp2
    go_ret
    exact ⟨by unfold Crc.more; rw [HM.out]; rfl, rfl⟩

theorem refMore_any (s : Nat) (v : Value) (l : List Nat) (w : World) (hs : s < 4294967296) (hv : BytesAt w v l) :
    Calls Tryd.prog 25 #[.int .u32 (s : Int), v] w fun e w' => e = .returned (.int .u32 (Crc.more s l : Nat)) ∧ w = w' := by
  rcases hv.form with ⟨cap, rfl, rfl⟩ | ⟨a, cap, rfl, h1, h2, h3⟩
  · exact refMore_nil s cap w hs
  · exact refMore_some s a cap l w hs h1 h2 h3 hv.byte

set_option maxHeartbeats 400000 in
theorem refSum_any (v : Value) (l : List Nat) (w : World) (hv : BytesAt w v l) :
    Calls Tryd.prog 24 #[v] w fun e w' => e = .returned (.int .u32 (Crc.sum l : Nat)) ∧ w = w' := by
  have H := Lib.hid (refMore_any 0 v l w (by decide) hv)
  clear hv
  go_enter Tryd.func24, Tryd.ntmps24
  go_wp2_with (go_at_call 25; refine H.out.mono ?_; rintro e w' ⟨rfl, rfl⟩)
  go_ret
  exact ⟨rfl, rfl⟩

set_option maxHeartbeats 400000 in
theorem refCheck_any (v : Value) (l : List Nat) (s : Nat) (w : World) (hv : BytesAt w v l) :
    Calls Tryd.prog 27 #[v, .int .u32 (s : Int)] w fun e w' => e = .returned (.bool (decide (Crc.sum l = s))) ∧ w = w' := by
  have H := Lib.hid (refSum_any v l w hv)
  clear hv
  generalize Crc.sum l = x at H
  have hE := u32_beq x s
  generalize decide (x = s) = b at *
  go_enter Tryd.func27, Tryd.ntmps27
  go_wp2_with (go_at_call 24; refine H.out.mono ?_; rintro e w' ⟨rfl, rfl⟩)
  go_ret
  exact ⟨by simp, rfl⟩

theorem timesR_lt (a b : Nat) (ha : a < 4294967296) : ∀ j, Crc.timesR a b j < 4294967296 := by
  intro j
  induction j with
  | zero => exact (by decide : 0 < 4294967296)
  | succ j ih =>
    refine Nat.xor_lt_two_pow (n := 32) ih ?_
    split
    · exact Crc.stepn_lt j ha
    · decide

set_option maxHeartbeats 400000 in
theorem times_any (a b : Nat) (w : World) (ha : a < 4294967296) (hb : b < 4294967296) :
    Calls Tryd.prog 32 #[.int .u32 (a : Int), .int .u32 (b : Int)] w fun e w' => e = .returned (.int .u32 (Crc.timesR a b 32 : Nat)) ∧ w = w' := by
  go_enter Tryd.func32, Tryd.ntmps32
  go_wp2
  go_loop [0, 5, 6] (fun r o i => ∃ j : Nat, j ≤ 32 ∧ i = .int .i64 (31 - (j : Int)) ∧ r = .int .u32 ((Crc.stepn j a : Nat) : Int) ∧ o = .int .u32 ((Crc.timesR a b j : Nat) : Int)) (fun _ _ i => (intOf i + 1).toNat)
  case atStart => exact ⟨0, Nat.zero_le _, rfl, rfl, rfl⟩
  case round =>
    obtain ⟨j, hj, rfl, rfl, rfl⟩ := hrel
    by_cases hlt : j < 32
    · obtain ⟨q, hq⟩ : ∃ q : Nat, 31 - j = q := ⟨_, rfl⟩
      have hq31 : q ≤ 31 := by omega
      have hqm : min q 32 = q := by omega
      have hs := Crc.stepn_lt j ha
      have ho := timesR_lt a b ha j
      have hx := u32_xor_nat _ _ ho hs
      have hbit := bit_eq hb q
      have HS := Lib.hid (Crc.stepn_succ j a)
      have hT : Crc.timesR a b (j + 1) = Crc.timesR a b j ^^^ (if b / 2 ^ q % 2 = 1 then Crc.stepn j a else 0) := by rw [← hq]; rfl
      rw [show (31 - (j : Int)) = (q : Int) by omega]
      rcases Nat.mod_two_eq_zero_or_one (b / 2 ^ q) with e | e
      · rw [if_neg (by omega), Nat.xor_zero] at hT
        have HT := Lib.hid hT
        rw [e] at hbit
        have HQ := Lib.hid hq
        clear hT e hx hq
        generalize Crc.stepn j a = y at *
        generalize Crc.timesR a b j = z at *
        go_wp2_with (go_at_call 31; refine (refStep_any _ _ hs).mono ?_; rintro e w' ⟨rfl, rfl⟩)
        go_round
        case rel => exact ⟨j + 1, by omega, by have := HQ.out; congr 1; omega, by rw [HS.out], by rw [HT.out]⟩
        case measure => simp [intOf]
      · rw [if_pos e] at hT
        have HT := Lib.hid hT
        rw [e] at hbit
        have HQ := Lib.hid hq
        clear hT e hq
        generalize Crc.stepn j a = y at *
        generalize Crc.timesR a b j = z at *
        go_wp2_with (go_at_call 31; refine (refStep_any _ _ hs).mono ?_; rintro e w' ⟨rfl, rfl⟩)
        go_round
        case rel => exact ⟨j + 1, by omega, by have := HQ.out; congr 1; omega, by rw [HS.out], by rw [HT.out]⟩
        case measure => simp [intOf]
    · obtain rfl : j = 32 := by omega
      go_wp2
      go_ret
      exact ⟨rfl, rfl⟩

theorem times_steps (a b k : Nat) (w : World) (ha : a < 4294967296) (hb : b = Crc.stepn k 2147483648) :
    Calls Tryd.prog 32 #[.int .u32 (a : Int), .int .u32 (b : Int)] w fun e w' => e = .returned (.int .u32 (Crc.stepn k a : Nat)) ∧ w = w' := by
  have hbl : b < 4294967296 := by rw [hb]; exact Crc.stepn_lt k (by decide)
  have h := times_any a b w ha hbl
  rw [hb, Crc.times_stepn k a ha, ← hb] at h
  exact h

set_option maxHeartbeats 1000000 in
theorem refJoin_ok (a b n : Nat) (w : World) (ha : a < 4294967296) (hb : b < 4294967296) (hn : n ≤ 2147483648) :
    Calls Tryd.prog 14 #[.int .u32 (a : Int), .int .u32 (b : Int), .int .i64 (n : Int)] w fun e w' => e = .returned (.tuple #[.int .u32 (Crc.join a b n : Nat), .int .i64 0]) ∧ w = w' := by
  have d1 : decide ((n : Int) < 0) = false := by simp
  have d2 : decide (2147483648 < (n : Int)) = false := by simp; omega
  go_enter Tryd.func14, Tryd.ntmps14
  go_wp2
  go_loop [9, 10] (fun e i => ∃ k x : Nat, k ≤ 8 ∧ i = .int .i64 k ∧ e = .int .u32 x ∧ Hid (x = Crc.stepn k 2147483648)) (fun _ i => 8 - (intOf i).toNat)
  case atStart => exact ⟨0, 2147483648, Nat.zero_le _, rfl, rfl, Lib.hid rfl⟩
  case round =>
    obtain ⟨k, x, hk, rfl, rfl, hx⟩ := hrel
    have hxl : x < 4294967296 := by rw [hx.out]; exact Crc.stepn_lt k (by decide)
    by_cases hlt : k < 8
    · go_wp2_with (go_at_call 31; refine (refStep_any _ _ hxl).mono ?_; rintro e w' ⟨rfl, rfl⟩)
      go_round
      case rel => exact ⟨k + 1, Crc.step x, by omega, by go_num, rfl, Lib.hid (by rw [Crc.stepn_succ, hx.out])⟩
      case measure => simp [intOf]; omega
    · obtain rfl : k = 8 := by omega
      rw [show ((8 : Nat) : Int) = 8 from rfl]
      have hx8 : Hid (x = Crc.stepn (8 * 2 ^ 0) 2147483648) := Lib.hid hx.out
      clear hx hlt hk
      go_wp2
      go_loop [2, 8, 9] (fun nv av ev => ∃ t cur al ei : Nat, nv = .int .i64 cur ∧ cur ≤ 2147483648 ∧ av = .int .u32 al ∧ ev = .int .u32 ei ∧ al < 4294967296 ∧ ei < 4294967296 ∧ Hid (cur = n / 2 ^ t) ∧ Hid (al = Crc.stepn (8 * (n % 2 ^ t)) 2147483648) ∧ Hid (ei = Crc.stepn (8 * 2 ^ t) 2147483648)) (fun nv _ _ => (intOf nv).toNat)
      case atStart => exact ⟨0, n, 2147483648, x, rfl, hn, rfl, rfl, by decide, hxl, Lib.hid (by simp), Lib.hid (by rw [Nat.pow_zero, Nat.mod_one]; rfl), hx8⟩
      case round =>
        clear hx8
        obtain ⟨t, cur, al, ei, rfl, hle, rfl, rfl, hal, hei, hcur, hA, hE⟩ := hrel
        by_cases hc : 0 < cur
        · have HD : Hid (cur / 2 = n / 2 ^ (t + 1)) := Lib.hid (by rw [hcur.out, Nat.div_div_eq_div_mul, ← Nat.pow_succ])
          have hei2 := Crc.stepn_lt (8 * 2 ^ t) hei
          have HE2 : Hid (Crc.stepn (8 * 2 ^ t) ei = Crc.stepn (8 * 2 ^ (t + 1)) 2147483648) := Lib.hid (by rw [hE.out, ← Crc.stepn_add, Nat.pow_succ, ← Nat.mul_assoc, Nat.mul_two])
          rcases Nat.mod_two_eq_zero_or_one cur with e | e
          · have h0 : ((cur : Int) % 2 == 1) = false := by simp only [beq_eq_false_iff_ne]; omega
            have HA2 : Hid (al = Crc.stepn (8 * (n % 2 ^ (t + 1))) 2147483648) := Lib.hid (by rw [Nat.mod_pow_succ, ← hcur.out, e, Nat.mul_zero, Nat.add_zero, ← hA.out])
            clear e
            go_wp2_with (go_at_call 32; refine (times_steps _ _ _ _ hei hE.out).mono ?_; rintro e w2 ⟨rfl, rfl⟩)
            go_round
            case rel => exact ⟨t + 1, cur / 2, al, _, by go_num, by omega, rfl, rfl, hal, hei2, HD, HA2, HE2⟩
            case measure => simp [intOf]; omega
          · have h0 : ((cur : Int) % 2 == 1) = true := by simp only [beq_iff_eq]; omega
            have hal2 := Crc.stepn_lt (8 * 2 ^ t) hal
            have HA2 : Hid (Crc.stepn (8 * 2 ^ t) al = Crc.stepn (8 * (n % 2 ^ (t + 1))) 2147483648) := Lib.hid (by
              rw [Nat.mod_pow_succ, ← hcur.out, e, Nat.mul_one, Nat.mul_add, Nat.add_comm, Crc.stepn_add, ← hA.out])
            clear e
            go_wp2_with fail
            refine (times_steps _ _ _ _ hal hE.out).mono ?_
            rintro e w2 ⟨rfl, rfl⟩
            go_wp2_with fail
            refine (times_steps _ _ _ _ hei hE.out).mono ?_
            rintro e w2 ⟨rfl, rfl⟩
            go_wp2
            go_round
            case rel => exact ⟨t + 1, cur / 2, _, _, by go_num, by omega, rfl, rfl, hal2, hei2, HD, HA2, HE2⟩
            case measure => simp [intOf]; omega
        · obtain rfl : cur = 0 := by omega
          have hfin : al = Crc.stepn (8 * n) 2147483648 := by
            have h0 : n < 2 ^ t := by
              refine Nat.lt_of_not_le fun h => ?_
              have := Nat.div_pos h (Nat.two_pow_pos t)
              have h1 := hcur.out
              omega
            rw [hA.out, Nat.mod_eq_of_lt h0]
          have hx := u32_xor_nat _ _ (Crc.stepn_lt (8 * n) ha) hb
          have HF := Lib.hid hfin
          clear hfin
          go_wp2_with (go_at_call 32; refine (times_steps _ _ _ _ ha HF.out).mono ?_; rintro e w2 ⟨rfl, rfl⟩)
          go_ret2
          exact ⟨rfl, rfl⟩

set_option maxHeartbeats 400000 in
theorem refJoin_no (a b : Nat) (n : Int) (w : World) (hn : n < 0 ∨ 2147483648 < n) :
    Calls Tryd.prog 14 #[.int .u32 (a : Int), .int .u32 (b : Int), .int .i64 n] w fun e w' => e = .returned (.tuple #[.int .u32 0, .int .i64 2]) ∧ w = w' := by
  rcases hn with hn | hn
  · go_enter Tryd.func14, Tryd.ntmps14
    go_wp2
    go_ret2
    exact ⟨rfl, rfl⟩
  · have h0 : ¬ n < 0 := by omega
    go_enter Tryd.func14, Tryd.ntmps14
    go_wp2
    go_ret2
    exact ⟨rfl, rfl⟩

theorem refJoin_any (a b : Nat) (n : Int) (w : World) (ha : a < 4294967296) (hb : b < 4294967296) :
    Calls Tryd.prog 14 #[.int .u32 (a : Int), .int .u32 (b : Int), .int .i64 n] w fun e w' => e = .returned (joinV a b n) ∧ w = w' := by
  unfold joinV
  by_cases h : n < 0 ∨ 2147483648 < n
  · rw [if_pos h]; exact refJoin_no a b n w h
  · rw [if_neg h]
    obtain ⟨k, rfl⟩ : ∃ k : Nat, n = k := ⟨n.toNat, by omega⟩
    exact refJoin_ok a b k w ha hb (by omega)
end Go.Proofs.YtdgloipckcjhaaaDoor
