/- CrcJoins, CrcOrder and CrcRefuses return true; memory that lay stays. Condition: the listed tables. -/
import Derived.Test.YtdgloipckcjhaaaDoorWorks2
namespace Go.Proofs.YtdgloipckcjhaaaDoor
open Go.RowKit

theorem joinV_form (a b : Nat) (n : Int) : ∃ (x : Nat) (e : Int), joinV a b n = .tuple #[.int .u32 (x : Int), .int .i64 e] := by
  unfold joinV
  split
  · exact ⟨0, 2, rfl⟩
  · exact ⟨_, 0, rfl⟩

set_option maxHeartbeats 1000000 in
theorem joins_walk (a b : Nat) (n : Int) (w : World) (ha : a < 4294967296) (hb : b < 4294967296) (hT : Tabs w) :
    Calls Tryd.prog 3 #[.int .u32 (a : Int), .int .u32 (b : Int), .int .i64 n] w fun e w' => e = .returned (.bool true) ∧ Below w.heap.size w w' := by
  have h1 := fun W => join_any a b n W ha hb
  have h2 := fun W => refJoin_any a b n W ha hb
  obtain ⟨x, e, hj⟩ := joinV_form a b n
  rw [hj] at h1 h2
  have H1 := Lib.hid h1
  have H2 := Lib.hid h2
  have HT := Lib.hid hT
  clear h1 h2 hj hT
  go_enter Tryd.func3, Tryd.ntmps3
  go_wp2_with (first
    | (go_at_call 13; refine (H1.out _).mono ?_; rintro e w1 ⟨rfl, hb1⟩)
    | (go_at_call 14; refine (H2.out _).mono ?_; rintro e w2 ⟨rfl, rfl⟩)
    | (go_at_call 15; refine (works_any _ (HT.out.below hb1)).mono ?_; rintro e w3 ⟨rfl, hb3⟩))
  go_ret
  exact ⟨rfl, hb1.trans (hb3.mono hb1.size)⟩

theorem join_eq (a b n : Nat) (w : World) (ha : a < 4294967296) (hb : b < 4294967296) (hn : n ≤ 2147483648) {x : Nat} (hx : Crc.join a b n = x) :
    Calls Tryd.prog 13 #[.int .u32 (a : Int), .int .u32 (b : Int), .int .i64 (n : Int)] w fun e w' => e = .returned (.tuple #[.int .u32 (x : Int), .int .i64 0]) ∧ Below w.heap.size w w' := by
  rw [← hx]; exact join_ok a b n w ha hb hn
theorem join_lt {a b n : Nat} (ha : a < 4294967296) (hb : b < 4294967296) : Crc.join a b n < 4294967296 := Nat.xor_lt_two_pow (n := 32) (Crc.stepn_lt _ ha) hb

set_option maxHeartbeats 2000000 in
theorem order_walk (a b c n m : Nat) (w : World) (ha : a < 4294967296) (hb : b < 4294967296) (hc : c < 4294967296) (hT : Tabs w) :
    Calls Tryd.prog 7 #[.int .u32 (a : Int), .int .u32 (b : Int), .int .u32 (c : Int), .int .u32 (n : Int), .int .u32 (m : Int)] w fun e w' => e = .returned (.bool true) ∧ Below w.heap.size w w' := by
  obtain ⟨k, hk⟩ : ∃ k : Nat, (n : Int) % 1073741825 = k := ⟨n % 1073741825, rfl⟩
  obtain ⟨l, hl⟩ : ∃ l : Nat, (m : Int) % 1073741825 = l := ⟨m % 1073741825, rfl⟩
  have hk1 : k ≤ 1073741824 := by omega
  have hl1 : l ≤ 1073741824 := by omega
  have hassoc := Crc.join_join a b c k l
  obtain ⟨x, hx⟩ : ∃ x, Crc.join a b k = x := ⟨_, rfl⟩
  obtain ⟨z, hz⟩ : ∃ z, Crc.join b c l = z := ⟨_, rfl⟩
  obtain ⟨y, hy⟩ : ∃ y, Crc.join x c l = y := ⟨_, rfl⟩
  have hu : Crc.join a z (k + l) = y := by rw [← hz, ← hassoc, hx, hy]
  have hxl : x < 4294967296 := by rw [← hx]; exact join_lt ha hb
  have hzl : z < 4294967296 := by rw [← hz]; exact join_lt hb hc
  have H1 := Lib.hid (fun W => join_eq a b k W ha hb (by omega) hx)
  have H2 := Lib.hid (fun W => join_eq x c l W hxl hc (by omega) hy)
  have H3 := Lib.hid (fun W => join_eq b c l W hb hc (by omega) hz)
  have H4 := Lib.hid (fun W => join_eq a z (k + l) W ha hzl (by omega) hu)
  have HT := Lib.hid hT
  clear hassoc hx hz hy hu hT
  go_enter Tryd.func7, Tryd.ntmps7
  go_wp2_with fail
  refine (H1.out _).mono ?_
  rintro e w1 ⟨rfl, hb1⟩
  go_wp2_with fail
  refine (H2.out _).mono ?_
  rintro e w2 ⟨rfl, hb2⟩
  go_wp2_with fail
  refine (H3.out _).mono ?_
  rintro e w3 ⟨rfl, hb3⟩
  go_wp2_with fail
  refine (H4.out _).mono ?_
  rintro e w4 ⟨rfl, hb4⟩
  have B := hb1.trans ((hb2.mono hb1.size).trans ((hb3.mono (Nat.le_trans hb1.size hb2.size)).trans (hb4.mono (Nat.le_trans hb1.size (Nat.le_trans hb2.size hb3.size)))))
  go_wp2_with (go_at_call 15; refine (works_any _ (HT.out.below B)).mono ?_; rintro e w5 ⟨rfl, hb5⟩)
  go_ret
  exact ⟨rfl, B.trans (hb5.mono B.size)⟩

set_option maxHeartbeats 2000000 in
theorem refuses_walk (a b : Nat) (n : Int) (w : World) (ha : a < 4294967296) (hb : b < 4294967296) (hT : Tabs w) :
    Calls Tryd.prog 8 #[.int .u32 (a : Int), .int .u32 (b : Int), .int .i64 n] w fun e w' => e = .returned (.bool true) ∧ Below w.heap.size w w' := by
  have hx := u32_xor_nat a b ha hb
  have h1 : ∀ W, Calls Tryd.prog 13 #[.int .u32 (a : Int), .int .u32 (b : Int), .int .i64 0] W fun e w' => e = .returned (.tuple #[.int .u32 ((a ^^^ b : Nat) : Int), .int .i64 0]) ∧ Below W.heap.size W w' :=
    fun W => join_eq a b 0 W ha hb (by omega) (Crc.join_zero a b)
  have H1 := Lib.hid h1
  have HT := Lib.hid hT
  clear h1 hT
  by_cases hn : n < 0 ∨ 2147483648 < n
  · have H2 : Hid (∀ W, Calls Tryd.prog 13 #[.int .u32 0, .int .u32 (b : Int), .int .i64 n] W fun e w' => e = .returned (.tuple #[.int .u32 0, .int .i64 2]) ∧ Below W.heap.size W w') := Lib.hid (fun W => join_no 0 b n W hn)
    have hd : (decide (n < 0) || decide (2147483648 < n)) = true := by simpa using hn
    go_enter Tryd.func8, Tryd.ntmps8
    go_wp2_with fail
    refine (H1.out _).mono ?_
    rintro e w1 ⟨rfl, hb1⟩
    go_wp2_with fail
    refine (H2.out _).mono ?_
    rintro e w2 ⟨rfl, hb2⟩
    have B := hb1.trans (hb2.mono hb1.size)
    rcases hn with hn | hn
    · go_wp2_with (go_at_call 15; refine (works_any _ (HT.out.below B)).mono ?_; rintro e w5 ⟨rfl, hb5⟩)
      go_ret
      exact ⟨rfl, B.trans (hb5.mono B.size)⟩
    · have h0 : ¬ n < 0 := by omega
      go_wp2_with (go_at_call 15; refine (works_any _ (HT.out.below B)).mono ?_; rintro e w5 ⟨rfl, hb5⟩)
      go_ret
      exact ⟨rfl, B.trans (hb5.mono B.size)⟩
  · obtain ⟨k, rfl⟩ : ∃ k : Nat, n = k := ⟨n.toNat, by omega⟩
    have H2 : Hid (∀ W, Calls Tryd.prog 13 #[.int .u32 0, .int .u32 (b : Int), .int .i64 (k : Int)] W fun e w' => e = .returned (.tuple #[.int .u32 (b : Int), .int .i64 0]) ∧ Below W.heap.size W w') :=
      Lib.hid (fun W => join_eq 0 b k W (by decide) hb (by omega) (Crc.join_none b k))
    have h0 : ¬ ((k : Int) < 0) := by omega
    have h2 : (k : Int) ≤ 2147483648 := by omega
    clear hn
    go_enter Tryd.func8, Tryd.ntmps8
    go_wp2_with fail
    refine (H1.out _).mono ?_
    rintro e w1 ⟨rfl, hb1⟩
    go_wp2_with fail
    refine (H2.out _).mono ?_
    rintro e w2 ⟨rfl, hb2⟩
    have B := hb1.trans (hb2.mono hb1.size)
    go_wp2_with (go_at_call 15; refine (works_any _ (HT.out.below B)).mono ?_; rintro e w5 ⟨rfl, hb5⟩)
    go_ret
    exact ⟨rfl, B.trans (hb5.mono B.size)⟩
end Go.Proofs.YtdgloipckcjhaaaDoor
