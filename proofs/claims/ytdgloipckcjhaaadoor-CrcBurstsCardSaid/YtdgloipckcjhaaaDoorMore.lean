/- What crc.More, Sum, Check and the reference's return; memory stays. Conditions: the bytes lie in memory; the listed table, where it is read. -/
import Derived.Test.YtdgloipckcjhaaaDoorEight
import Derived.LoopTactic
namespace Go.Proofs.YtdgloipckcjhaaaDoor
open Go.RowKit

/-- A slice of bytes that reads as these numbers. -/
structure BytesAt (w : World) (v : Value) (l : List Nat) : Prop where
  form : (∃ cap, v = .slice none 0 cap ∧ l = []) ∨ ∃ a cap, v = .slice (some a) l.length cap ∧ l.length ≤ cap ∧ cap ≤ 9223372036854775807 ∧ ∀ i, i < l.length → w.cell? (a.add i) = some (.int .u8 (l.getD i 0 : Nat))
  byte : ∀ c ∈ l, c < 256

theorem u32_eq {a b : Nat} (h : a = b) : Ending.returned (.int .u32 (a : Int)) = .returned (.int .u32 (b : Int)) := by rw [h]
theorem getD_lt {l : List Nat} (h : ∀ c ∈ l, c < 256) (i : Nat) : l.getD i 0 < 256 := by
  rw [List.getD_eq_getElem?_getD]
  by_cases hi : i < l.length
  · rw [List.getElem?_eq_getElem hi]; exact h _ (List.getElem_mem _)
  · rw [List.getElem?_eq_none (by omega)]; decide
theorem take_succ_getD {l : List Nat} {k : Nat} (h : k < l.length) : l.take (k + 1) = l.take k ++ [l.getD k 0] := by
  rw [List.take_succ_eq_append_getElem h, List.getD_eq_getElem?_getD, List.getElem?_eq_getElem h]
  rfl
theorem many_snoc (r : Nat) {l : List Nat} {k : Nat} (h : k < l.length) : Crc.many r (l.take (k + 1)) = Crc.stepn 8 (Crc.many r (l.take k) ^^^ l.getD k 0) := by
  rw [take_succ_getD h, Crc.many_append]
  rfl
theorem many_take_lt {r : Nat} (hr : r < 4294967296) {l : List Nat} (h : ∀ c ∈ l, c < 256) (k : Nat) : Crc.many r (l.take k) < 4294967296 :=
  Crc.many_lt hr fun c hc => h c (List.mem_of_mem_take hc)
theorem xor_u32_u8 {x y : Nat} (hx : x < 4294967296) (hy : y < 256) : x ^^^ y < 4294967296 :=
  Nat.xor_lt_two_pow (n := 32) hx (Nat.lt_of_lt_of_le hy (by decide))

/-- The walk's own words for ^x. -/
theorem u32_signed : IntKind.u32.signed = false := rfl
theorem not_eq {s : Nat} (hs : s < 4294967296) : bits .xor .u32 IntKind.u32.max (s : Int) = ((4294967295 ^^^ s : Nat) : Int) := by
  rw [show IntKind.u32.max = ((4294967295 : Nat) : Int) from by decide]
  exact u32_xor_nat _ _ (by decide) hs
theorem xor_byte {x y : Nat} (hx : x < 4294967296) (hy : y < 256) : bits .xor .u32 (x : Int) (y : Int) = ((x ^^^ y : Nat) : Int) := u32_xor_nat _ _ hx (by omega)
theorem max_xor {s : Nat} (hs : s < 4294967296) : 4294967295 ^^^ s < 4294967296 := Nat.xor_lt_two_pow (n := 32) (by decide) hs

set_option maxHeartbeats 400000 in
theorem more_some (s : Nat) (a : Addr) (cap : Nat) (l : List Nat) (w : World) (hs : s < 4294967296) (hlc : l.length ≤ cap) (hcm : cap ≤ 9223372036854775807) (hc : ∀ i, i < l.length → w.cell? (a.add i) = some (.int .u8 (l.getD i 0 : Nat)))
    (hb : ∀ c ∈ l, c < 256) (h : Crcs w) :
    Calls Tryd.prog 23 #[.int .u32 (s : Int), .slice (some a) l.length cap] w fun e w' => e = .returned (.int .u32 (Crc.more s l : Nat)) ∧ w = w' := by
  have hsg := u32_signed
  have hn := not_eq hs
  obtain ⟨M, hM⟩ : ∃ M, M = 4294967295 ^^^ s := ⟨_, rfl⟩
  have hMl : M < 4294967296 := by rw [hM]; exact max_xor hs
  rw [← hM] at hn
  have HM := Lib.hid hM
  have HB := Lib.hid hb
  have HC := Lib.hid hc
  have HX := Lib.hid h
  clear hM hb hc h hs
  go_enter Tryd.func23, Tryd.ntmps23
  go_wp2
  clear hn
  go_loop [5, 12] (fun r i => ∃ k : Nat, k ≤ l.length ∧ i = .int .i64 k ∧ r = .int .u32 ((Crc.many M (l.take k) : Nat) : Int)) (fun _ i => l.length - (intOf i).toNat)
  case atStart => exact ⟨0, Nat.zero_le _, rfl, rfl⟩
  case round =>
    obtain ⟨k, hk, rfl, rfl⟩ := hrel
    have hr := many_take_lt hMl HB.out k
    by_cases hlt : k < l.length
    · have hcell := HC.out k hlt
      have hby := getD_lt HB.out k
      have hx := xor_byte hr hby
      have HS := Lib.hid (many_snoc M hlt)
      have hxl := xor_u32_u8 hr hby
      generalize Crc.many M (l.take k) = r at *
      generalize l.getD k 0 = c at *
      generalize r ^^^ c = x at *
      go_wp2_with (go_at_call 37; refine (eight_any _ _ hxl HX.out).mono ?_; rintro e w' ⟨rfl, rfl⟩)
      go_round
      case rel => exact ⟨k + 1, by omega, by go_num, by rw [HS.out]⟩
      case measure => simp [intOf]; omega
    · have hfin : l.take k = l := List.take_of_length_le (by omega)
      rw [hfin] at hr
      have hn2 := not_eq hr
      have HF := Lib.hid hfin
      rw [hfin]
      clear hfin
      have hd : decide ((k : Int) < (l.length : Int)) = false := by simpa using hlt
      go_wp2
      go_ret
      exact ⟨by unfold Crc.more; rw [← HM.out]; rfl, rfl⟩

set_option maxHeartbeats 400000 in
theorem more_nil (s : Nat) (cap : Nat) (w : World) (hs : s < 4294967296) :
    Calls Tryd.prog 23 #[.int .u32 (s : Int), .slice none 0 cap] w fun e w' => e = .returned (.int .u32 (Crc.more s [] : Nat)) ∧ w = w' := by
  have hsg := u32_signed
  have hn := not_eq hs
  have hn2 := not_eq (max_xor hs)
  generalize hM : 4294967295 ^^^ s = M at hn hn2
  have HM := Lib.hid hM
  clear hM hs
  go_enter Tryd.func23, Tryd.ntmps23
  go_wp2
  go_loop [5, 12] (fun r i => i = .int .i64 0 ∧ r = .int .u32 (M : Int)) (fun _ _ => 0)
  case atStart => exact ⟨rfl, rfl⟩
  case round =>
    obtain ⟨rfl, rfl⟩ := hrel
    go_wp2
    go_ret
    exact ⟨by unfold Crc.more; rw [HM.out]; rfl, rfl⟩

theorem more_any (s : Nat) (v : Value) (l : List Nat) (w : World) (hs : s < 4294967296) (hv : BytesAt w v l) (h : Crcs w) :
    Calls Tryd.prog 23 #[.int .u32 (s : Int), v] w fun e w' => e = .returned (.int .u32 (Crc.more s l : Nat)) ∧ w = w' := by
  rcases hv.form with ⟨cap, rfl, rfl⟩ | ⟨a, cap, rfl, h1, h2, h3⟩
  · exact more_nil s cap w hs
  · exact more_some s a cap l w hs h1 h2 h3 hv.byte h

set_option maxHeartbeats 400000 in
theorem sum_any (v : Value) (l : List Nat) (w : World) (hv : BytesAt w v l) (h : Crcs w) :
    Calls Tryd.prog 22 #[v] w fun e w' => e = .returned (.int .u32 (Crc.sum l : Nat)) ∧ w = w' := by
  have H := Lib.hid (more_any 0 v l w (by decide) hv h)
  clear hv h
  go_enter Tryd.func22, Tryd.ntmps22
  go_wp2_with (go_at_call 23; refine H.out.mono ?_; rintro e w' ⟨rfl, rfl⟩)
  go_ret
  exact ⟨rfl, rfl⟩

theorem u32_beq (a b : Nat) : ((a : Int) == (b : Int)) = decide (a = b) := by
  by_cases h : a = b
  · subst h; simp
  · rw [decide_eq_false h]
    simp only [beq_eq_false_iff_ne]
    omega

set_option maxHeartbeats 400000 in
theorem check_any (v : Value) (l : List Nat) (s : Nat) (w : World) (hv : BytesAt w v l) (h : Crcs w) :
    Calls Tryd.prog 26 #[v, .int .u32 (s : Int)] w fun e w' => e = .returned (.bool (decide (Crc.sum l = s))) ∧ w = w' := by
  have H := Lib.hid (sum_any v l w hv h)
  clear hv h
  generalize Crc.sum l = x at H
  have hE := u32_beq x s
  generalize decide (x = s) = b at *
  go_enter Tryd.func26, Tryd.ntmps26
  go_wp2_with (go_at_call 22; refine H.out.mono ?_; rintro e w' ⟨rfl, rfl⟩)
  go_ret
  exact ⟨by simp, rfl⟩
end Go.Proofs.YtdgloipckcjhaaaDoor
