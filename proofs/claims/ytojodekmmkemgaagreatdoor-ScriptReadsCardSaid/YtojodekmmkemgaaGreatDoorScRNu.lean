/- The reference's cut of a word and its numbers. Condition: a text is no longer than a million bytes. -/
import Derived.Test.YtojodekmmkemgaaGreatDoorScChk
import Derived.BigQuiet
namespace Go.Proofs.YtojodekmmkemgaaGreatDoor
open Go.RowKit Go.Shelf

theorem xtr_list (s : ByteArray) (b i : Nat) : (s.extract b i).data.toList = (s.data.toList.drop b).take (i - b) := by
  rw [ByteArray.data_extract, Array.toList_extract, List.extract_eq_take_drop]
theorem not_take {l : List UInt8} {i : Nat} {x : UInt8} (h : (32 : UInt8) ∉ l.take i) (hx : l[i]? = some x) (hc : x ≠ 32) : (32 : UInt8) ∉ l.take (i + 1) := by
  rw [List.take_add_one, hx]
  simp only [List.mem_append, Option.mem_toList, not_or]
  exact ⟨h, by simpa using fun e => hc e⟩
theorem rcut_at {l : List UInt8} {i : Nat} (h : (32 : UInt8) ∉ l.take i) (hx : l[i]? = some 32) : firstW l = l.take i ∧ afterW l = l.drop (i + 1) := by
  obtain ⟨hlt, he⟩ := List.getElem?_eq_some_iff.1 hx
  have e : l = l.take i ++ sepL (some (l.drop (i + 1))) := by
    conv => lhs; rw [← List.take_append_drop i l]
    rw [List.drop_eq_getElem_cons hlt, he]
    rfl
  obtain ⟨h1, h2⟩ := cutW_sep h (some (l.drop (i + 1)))
  rw [← e] at h1 h2
  exact ⟨h1, by unfold afterW; rw [h2]; rfl⟩
theorem rcut_none {l : List UInt8} (h : (32 : UInt8) ∉ l) : firstW l = l ∧ afterW l = [] := by
  obtain ⟨h1, h2⟩ := cutW_sep h none
  rw [show l ++ sepL none = l by simp [sepL]] at h1 h2
  exact ⟨h1, by unfold afterW; rw [h2]; rfl⟩
set_option maxRecDepth 100000 in
set_option maxHeartbeats 4000000 in
theorem rcut_any (s : ByteArray) (w : World) (hs : s.size ≤ 1000000) :
    Calls Tryz.prog 68 #[.string s] w fun e w' => (∃ a b : ByteArray, e = .returned (.tuple #[.string a, .string b]) ∧ a.data.toList = firstW s.data.toList ∧ b.data.toList = afterW s.data.toList) ∧ Below w.heap.size w w' := by
  have mixed : Tryz.prog.follows Departure.mixedOrders = true := by kernel_rfl
  obtain ⟨l, hl⟩ : ∃ l, l = s.data.toList := ⟨_, rfl⟩
  have hsl : s.size = l.length := by rw [hl, Lib.size_eq]
  have HL := Lib.hid hl
  have HSL := Lib.hid hsl
  rw [← hl]
  clear hl hsl
  go_enter Tryz.func68, Tryz.ntmps68
  go_wp2_with fail
  go_loopw [4] (fun iv wr => ∃ i : Nat, iv = .int .i64 i ∧ i ≤ s.size ∧ wr = w ∧ Hid ((32 : UInt8) ∉ l.take i)) (fun iv _ => s.size - (intOf iv).toNat)
  case atStart => exact ⟨0, rfl, by omega, rfl, Lib.hid (by simp)⟩
  case round =>
    obtain ⟨i, rfl, hi, rfl, HI⟩ := hrel
    have hi0 : (0 : Int) ≤ (i : Int) := by omega
    have hwi : IntKind.i64.wrap ((i : Int) + 1) = (i : Int) + 1 := IntWalk.i64_in _ (by omega)
    by_cases his : i < s.size
    · have his' : (i : Int) < (s.size : Int) := by omega
      obtain ⟨x, hx⟩ : ∃ x : UInt8, s[i]'his = x := ⟨_, rfl⟩
      have HX := Lib.hid (show l[i]? = some x by rw [← hx, HL.out]; exact Lib.data_getElem? s i his)
      by_cases hc : x = 32
      · subst hc
        have h32 : ((((32 : UInt8).toNat : Nat) : Int) == 32) = true := by decide
        obtain ⟨t1, ht1⟩ : ∃ t, s.extract 0 i = t := ⟨_, rfl⟩
        obtain ⟨t2, ht2⟩ : ∃ t, s.extract (i + 1) s.size = t := ⟨_, rfl⟩
        have HT : Hid (t1.data.toList = firstW l ∧ t2.data.toList = afterW l) := Lib.hid (by
          obtain ⟨h1, h2⟩ := rcut_at HI.out HX.out
          rw [← ht1, ← ht2, xtr_list, xtr_list, ← HL.out, h1, h2]
          refine ⟨by rw [List.drop_zero, Nat.sub_zero], ?_⟩
          rw [List.take_of_length_le (by rw [List.length_drop, HSL.out]; omega)])
        have hle1 : (i : Int) ≤ (s.size : Int) := by omega
        have hle2 : (i : Int) + 1 ≤ (s.size : Int) := by omega
        have hi1 : (0 : Int) ≤ (i : Int) + 1 := by omega
        have hnn : ((i : Int) + 1).toNat = i + 1 := by omega
        clear HI HX
        go_upto_region 5 with fail
        go_quiet (fail)
        go_wp2_with fail
        go_ret2
        exact ⟨⟨_, _, rfl, HT.out.1, HT.out.2⟩, b_drewN (Below.refl _ _) _⟩
      · have h32 : ((x.toNat : Int) == 32) = false := by rw [beq_eq_false_iff_ne]; intro e; exact hc (UInt8.toNat_inj.1 (show x.toNat = 32 by omega))
        have HN := Lib.hid (not_take HI.out HX.out hc)
        clear hc HI
        go_wp2_with fail
        go_roundw
        case rel => exact ⟨i + 1, by go_num, by omega, by first | rfl | trivial, HN⟩
        case measure => simp [intOf] <;> omega
    · obtain rfl : i = s.size := by omega
      have hnl : ¬ ((s.size : Int) < (s.size : Int)) := by omega
      have HT : Hid (s.data.toList = firstW l ∧ ([] : List UInt8) = afterW l) := Lib.hid (by
        obtain ⟨h1, h2⟩ := rcut_none (l := l) (by have := HI.out; rwa [HSL.out, List.take_length] at this)
        exact ⟨by rw [h1, HL.out], h2.symm⟩)
      clear HI
      go_wp2_with fail
      go_ret2
      exact ⟨⟨_, ⟨#[]⟩, rfl, HT.out.1, HT.out.2⟩, Below.refl _ _⟩
theorem numD_yes {l : List UInt8} (h1 : l.all isDig = true) (h2 : l.length ≤ 7) : numD l = dv l := by unfold numD; rw [if_pos ⟨h1, h2⟩]
theorem numD_far {l : List UInt8} (h : ¬ l.length ≤ 7) : numD l = 0 := by unfold numD; rw [if_neg (fun e => h e.2)]
theorem numD_dig {l : List UInt8} {i : Nat} {x : UInt8} (hx : l[i]? = some x) (h : ¬ isDig x = true) : numD l = 0 := by
  unfold numD
  rw [if_neg]
  rintro ⟨e, _⟩
  exact h (List.all_eq_true.1 e x (List.mem_of_getElem? hx))
theorem dv_le7 {l : List UInt8} (h1 : l.all isDig = true) (h2 : l.length ≤ 7) : dv l ≤ 9999999 := by
  have hlt := dv_lt l 0 h1
  have hp : 10 ^ l.length ≤ 10 ^ 7 := Nat.pow_le_pow_right (by omega) h2
  unfold dv
  omega
set_option maxRecDepth 100000 in
set_option maxHeartbeats 4000000 in
theorem rnum_any (s : ByteArray) (w : World) (hs : s.size ≤ 1000000) :
    Calls Tryz.prog 69 #[.string s] w fun e w' => e = .returned (.int .i64 ((numD s.data.toList : Nat) : Int)) ∧ w' = w := by
  obtain ⟨l, hl⟩ : ∃ l, l = s.data.toList := ⟨_, rfl⟩
  have HL := Lib.hid hl
  have HSL : Hid (s.size = l.length) := Lib.hid (by rw [hl, Lib.size_eq])
  rw [← hl]
  obtain ⟨r, hr⟩ : ∃ r, r = numD l := ⟨_, rfl⟩
  have HR := Lib.hid hr
  rw [← hr]
  clear hl hr
  go_enter Tryz.func69, Tryz.ntmps69
  go_wp2_with fail
  go_loopw [3, 4] (fun nv iv wr => ∃ a i : Nat, nv = .int .i64 a ∧ iv = .int .i64 i ∧ i ≤ s.size ∧ a ≤ 9999999 ∧ wr = w ∧ Hid (a = dv (l.take i) ∧ (l.take i).all isDig = true ∧ (i = 0 ∨ s.size ≤ 7))) (fun _ iv _ => s.size - (intOf iv).toNat)
  case atStart => exact ⟨0, 0, rfl, rfl, by omega, by omega, rfl, Lib.hid ⟨by rw [List.take_zero]; rfl, by simp, Or.inl rfl⟩⟩
  case round =>
    obtain ⟨a, i, rfl, rfl, hi, ha, rfl, HI⟩ := hrel
    have hi0 : (0 : Int) ≤ (i : Int) := by omega
    by_cases his : i < s.size
    · have his' : (i : Int) < (s.size : Int) := by omega
      obtain ⟨x, hx⟩ : ∃ x : UInt8, s[i]'his = x := ⟨_, rfl⟩
      have HX := Lib.hid (show l[i]? = some x by rw [← hx, HL.out]; exact Lib.data_getElem? s i his)
      have hwi : IntKind.i64.wrap ((i : Int) + 1) = (i : Int) + 1 := IntWalk.i64_in _ (by omega)
      by_cases hd : (48 ≤ x.toNat ∧ x.toNat ≤ 57) ∧ s.size ≤ 7
      · obtain ⟨⟨hd1, hd2⟩, h7⟩ := hd
        have hd1' : ¬ ((x.toNat : Int) < 48) := by omega
        have hd2' : ¬ ((57 : Int) < (x.toNat : Int)) := by omega
        have h7' : ¬ ((7 : Int) < (s.size : Int)) := by omega
        obtain ⟨dg, hdg⟩ : ∃ dg : Nat, dg = x.toNat - 48 := ⟨_, rfl⟩
        have h8 : IntKind.u8.wrap ((x.toNat : Int) - 48) = (dg : Int) := by rw [IntKind.wrap_u8]; omega
        have h9 : IntKind.i64.wrap (dg : Int) = (dg : Int) := IntWalk.i64_in _ (by omega)
        have h10 : IntKind.i64.wrap ((a : Int) * 10) = (a : Int) * 10 := IntWalk.i64_in _ (by omega)
        have h11 : IntKind.i64.wrap ((a : Int) * 10 + (dg : Int)) = (a : Int) * 10 + (dg : Int) := IntWalk.i64_in _ (by omega)
        have hall : (l.take (i + 1)).all isDig = true := by
          rw [List.take_add_one, HX.out, List.all_append, HI.out.2.1]
          simp [isDig]
          omega
        have hval : a * 10 + dg = dv (l.take (i + 1)) := by
          rw [List.take_add_one, HX.out]
          show _ = dv (l.take i ++ [x])
          rw [dv_snoc, ← HI.out.1, hdg]
        have hle : a * 10 + dg ≤ 9999999 := by
          rw [hval]
          exact dv_le7 hall (by rw [List.length_take]; have := HSL.out; omega)
        have HN := Lib.hid (And.intro hval (And.intro hall (show i + 1 = 0 ∨ s.size ≤ 7 from Or.inr h7)))
        clear hdg hall hval HI HX hd1 hd2 h7
        go_wp2_with fail
        go_roundw
        case rel => exact ⟨a * 10 + dg, i + 1, by go_num, by go_num, by omega, hle, by first | rfl | trivial, HN⟩
        case measure => simp [intOf] <;> omega
      · have hdd : (x.toNat : Int) < 48 ∨ (¬ ((x.toNat : Int) < 48) ∧ (57 : Int) < (x.toNat : Int)) ∨ (¬ ((x.toNat : Int) < 48) ∧ ¬ ((57 : Int) < (x.toNat : Int)) ∧ (7 : Int) < (s.size : Int)) := by omega
        have HN : Hid (r = 0) := Lib.hid (by
          rw [HR.out]
          by_cases h7 : s.size ≤ 7
          · exact numD_dig HX.out (by unfold isDig; simp; omega)
          · exact numD_far (by rw [← HSL.out]; exact h7))
        clear hd HI HX
        rcases hdd with h1 | ⟨h1, h2⟩ | ⟨h1, h2, h3⟩
        all_goals
          go_wp2_with fail
          go_ret
          exact ⟨by rw [HN.out]; rfl, rfl⟩
    · obtain rfl : i = s.size := by omega
      have hnl : ¬ ((s.size : Int) < (s.size : Int)) := by omega
      have HN : Hid (r = a) := Lib.hid (by
        have h := HI.out
        rw [HSL.out, List.take_length] at h
        rw [HR.out, h.1]
        rcases h.2.2 with h0 | h7
        · exact numD_yes h.2.1 (by omega)
        · exact numD_yes h.2.1 h7)
      clear HI
      go_wp2_with fail
      go_ret
      exact ⟨by rw [HN.out]; rfl, rfl⟩
end Go.Proofs.YtojodekmmkemgaaGreatDoor
