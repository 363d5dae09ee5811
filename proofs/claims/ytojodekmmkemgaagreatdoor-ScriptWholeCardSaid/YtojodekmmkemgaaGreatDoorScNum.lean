/- The reader's numbers. Conditions: the line is short; the program's own variables lie as its start lays them. -/
import Derived.Test.YtojodekmmkemgaaGreatDoorScRd
namespace Go.Proofs.YtojodekmmkemgaaGreatDoor
open Go.RowKit Go.Shelf

def digL : List UInt8 := [48, 49, 50, 51, 52, 53, 54, 55, 56, 57]
theorem digL_has (c : UInt8) : digL.contains c = isDig c := by
  have h : ∀ n < 256, digL.contains (UInt8.ofNat n) = isDig (UInt8.ofNat n) := by decide +kernel
  have := h c.toNat c.toNat_lt
  rw [UInt8.ofNat_toNat] at this
  exact this
theorem trim_dig (l : List UInt8) : Lib.trimS l digL = [] ↔ l.all isDig = true := by
  rw [← List.isEmpty_iff, trimS_empty]
  have e : (fun c => digL.contains c) = isDig := funext digL_has
  rw [e]
theorem trimD_any (s : ByteArray) (w : World) (hs : s.size ≤ 1000000) :
    Calls Tryz.prog 127 #[.string s, .string ⟨#[48, 49, 50, 51, 52, 53, 54, 55, 56, 57]⟩] w fun e w' => e = .returned (.string ⟨(Lib.trimS s.data.toList digL).toArray⟩) ∧ Below w.heap.size w w' :=
  Any.strings_Trim_laid Tryz.lays160 (by kernel_rfl) s _ w (by omega) (by decide) (ascii_of_all (by decide))
theorem idx_hd (b : UInt8) (r : List UInt8) (n : Int) (hn : (b.toNat : Int) = n) : ∀ W : World, (Instr.index 9 (.string ⟨(b :: r).toArray⟩) (.int .i64 0)).run Tryz.prog W = .ok (.int .u8 n) W := fun W => by
  have hl : 0 < (⟨(b :: r).toArray⟩ : ByteArray).size := by rw [Lib.size_mk]; simp
  rw [run_index_string _ _ _ _ _ Tryz.underlying9, dif_pos ⟨by omega, by omega⟩]
  rw [← hn]
  rfl
theorem atoi_num {l : List UInt8} (h : numT l) (w : World) :
    Calls Tryz.prog 131 #[.string ⟨l.toArray⟩] w fun e w' => e = .returned (.tuple #[.int .i64 (dv l : Int), .nilIface]) ∧ Below w.heap.size w w' := by
  obtain ⟨h1, h2⟩ := numT_dgs h
  have h3 : Lib.atoiAll l = .ok (dv l : Int) := by
    have := atoiAll_dgs (a := (dv l : Int)) (by omega) (by omega)
    rw [h1] at this
    exact this
  have hl : l.length ≤ 19 := by rw [← h1]; exact dgs_le (by omega)
  refine (Tryz.strconv_Atoi_ok ⟨l.toArray⟩ (by rw [Lib.size_mk]; omega) (dv l : Int) h3 w).mono ?_
  rintro e w' ⟨rfl, h2⟩
  refine ⟨rfl, ?_⟩
  rcases h2 with rfl | ⟨t, rfl⟩
  · exact Below.refl _ _
  · exact below_bytes w t
set_option maxRecDepth 100000 in
set_option maxHeartbeats 4000000 in
theorem num_yes (l : List UInt8) (R : Nat) (w : World) (hsh : w.ShapedOpen Tryz.prog) (hl : l.length ≤ 1000000) (h : RdO w R (some l)) (hn : numT (firstW l)) :
    Calls Tryz.prog 102 #[.pointer (some ⟨R, 0, none⟩)] w fun e w' => e = .returned (.int .i64 (dv (firstW l) : Int)) ∧ RdO w' R (restW l) ∧ GR R w w' := by
  have PT := part_yes l R w hsh hl h
  have AT := Lib.hid (fun W => atoi_num hn W)
  generalize restW l = o at PT ⊢
  generalize firstW l = f at PT hn AT ⊢
  clear hsh hl h
  have PT := Lib.hid PT
  rcases hn with rfl | ⟨h1, h2, h3, h4⟩
  · obtain ⟨v, hv⟩ : ∃ v : Int, v = (dv [48] : Int) := ⟨_, rfl⟩
    rw [← hv] at AT ⊢
    clear hv
    go_enter Tryz.func102, Tryz.ntmps102
    go_wp2_with (first
      | (go_at_call 100; refine PT.out.mono ?_; rintro e w2 ⟨rfl, hr, hg⟩; have I2 := Lib.hid (And.intro hr hg); clear hr hg PT)
      | (go_at_call 101; refine (need_yes _).mono ?_; rintro e wa ⟨rfl, rfl⟩)
      | (go_at_call 131; refine (AT.out _).mono ?_; rintro e w3 ⟨rfl, hb⟩; have I3 := Lib.hid (And.intro (I2.out.1.keep hb) (gr_trans I2.out.2 (gr_below hb))); clear hb))
    go_ret
    exact ⟨rfl, I3.out.1, I3.out.2⟩
  · obtain ⟨c, r, rfl⟩ : ∃ c r, f = c :: r := by cases f with | nil => exact absurd rfl h1 | cons c r => exact ⟨c, r, rfl⟩
    have hc : c ≠ 48 := fun e => h2 (by rw [e]; rfl)
    have hci : ((c.toNat : Int) != 48) = true := by
      rw [bne_iff_ne]
      exact fun e => hc (UInt8.toNat_inj.1 (by have : (48 : UInt8).toNat = 48 := rfl; omega))
    have hix := idx_hd c r (c.toNat : Int) rfl
    have he0 : ((⟨(c :: r).toArray⟩ : ByteArray).toList == ([48] : List UInt8)) = false := by
      rw [ByteArray.toList_eq, beq_eq_false_iff_ne]
      exact fun e => hc (List.cons.inj e).1
    have he1 : ((⟨(c :: r).toArray⟩ : ByteArray).toList == ([] : List UInt8)) = false := by
      rw [ByteArray.toList_eq, beq_eq_false_iff_ne]
      exact fun e => by cases e
    have hsz : ((⟨(c :: r).toArray⟩ : ByteArray).size : Int) ≤ 7 := by rw [Lib.size_mk]; omega
    have TR := fun W => trimD_any ⟨(c :: r).toArray⟩ W (by omega)
    have ht : Lib.trimS (⟨(c :: r).toArray⟩ : ByteArray).data.toList digL = [] := (trim_dig _).2 h4
    rw [ht] at TR
    have TR := Lib.hid TR
    obtain ⟨v, hv⟩ : ∃ v : Int, v = (dv (c :: r) : Int) := ⟨_, rfl⟩
    rw [← hv] at AT ⊢
    generalize (⟨(c :: r).toArray⟩ : ByteArray) = s at PT AT TR hix he0 he1 hsz
    clear h1 h2 h3 h4 ht hv hc
    go_enter Tryz.func102, Tryz.ntmps102
    go_wp2_with (first
      | (go_at_call 100; refine PT.out.mono ?_; rintro e w2 ⟨rfl, hr, hg⟩; have I2 := Lib.hid (And.intro hr hg); clear hr hg PT)
      | (go_at_call 101; refine (need_yes _).mono ?_; rintro e wa ⟨rfl, rfl⟩)
      | (go_at_call 127; refine (TR.out _).mono ?_; rintro e w3 ⟨rfl, hb⟩; have I3 := Lib.hid (And.intro (I2.out.1.keep hb) (gr_trans I2.out.2 (gr_below hb))); clear hb)
      | (go_at_call 131; refine (AT.out _).mono ?_; rintro e w4 ⟨rfl, hb⟩; have I4 := Lib.hid (And.intro (I3.out.1.keep hb) (gr_trans I3.out.2 (gr_below hb))); clear hb))
    go_ret
    exact ⟨rfl, I4.out.1, I4.out.2⟩
theorem num_no1 (R : Nat) (w : World) (h : RdO w R none) :
    Calls Tryz.prog 102 #[.pointer (some ⟨R, 0, none⟩)] w fun e w' => e = .panicked [pvM] ∧ w = w' := by
  have PT := Lib.hid (part_no R w h)
  clear h
  go_enter Tryz.func102, Tryz.ntmps102
  go_wp2_with (go_at_call 100; refine PT.out.mono ?_; rintro e w2 ⟨rfl, rfl⟩)
  exact ⟨rfl, rfl, rfl⟩
set_option maxRecDepth 100000 in
set_option maxHeartbeats 4000000 in
theorem num_no2 (l : List UInt8) (R : Nat) (w : World) (hsh : w.ShapedOpen Tryz.prog) (hl : l.length ≤ 1000000) (h : RdO w R (some l)) (hn : ¬ numT (firstW l)) :
    Calls Tryz.prog 102 #[.pointer (some ⟨R, 0, none⟩)] w fun e w' => e = .panicked [pvM] ∧ GR R w w' := by
  have PT := part_yes l R w hsh hl h
  have hfl : (firstW l).length ≤ 1000000 := by
    have := cutW_back l
    have := congrArg List.length this
    rw [List.length_append] at this
    omega
  generalize restW l = o at PT ⊢
  generalize firstW l = f at PT hn hfl ⊢
  clear hsh hl h
  have PT := Lib.hid PT
  cases f with
  | nil =>
    clear hn hfl
    go_enter Tryz.func102, Tryz.ntmps102
    go_wp2_with (first
      | (go_at_call 100; refine PT.out.mono ?_; rintro e w2 ⟨rfl, hr, hg⟩; have I2 := Lib.hid hg; clear hr hg PT)
      | (go_at_call 101; refine (need_no _).mono ?_; rintro e wa ⟨rfl, rfl⟩))
    exact ⟨rfl, rfl, I2.out⟩
  | cons c r =>
    have he0 : ((⟨(c :: r).toArray⟩ : ByteArray).toList == ([48] : List UInt8)) = false := by
      rw [ByteArray.toList_eq, beq_eq_false_iff_ne]
      exact fun e => hn (Or.inl e)
    have he1 : ((⟨(c :: r).toArray⟩ : ByteArray).toList == ([] : List UInt8)) = false := by
      rw [ByteArray.toList_eq, beq_eq_false_iff_ne]
      exact fun e => by cases e
    have hix := idx_hd c r (c.toNat : Int) rfl
    by_cases hc : c = 48
    · have hci : ((c.toNat : Int) != 48) = false := by rw [hc]; rfl
      generalize (⟨(c :: r).toArray⟩ : ByteArray) = s at PT hix he0 he1
      clear hc hn hfl
      go_enter Tryz.func102, Tryz.ntmps102
      go_wp2_with (first
        | (go_at_call 100; refine PT.out.mono ?_; rintro e w2 ⟨rfl, hr, hg⟩; have I2 := Lib.hid hg; clear hr hg PT)
        | (go_at_call 101; refine (need_no _).mono ?_; rintro e wa ⟨rfl, rfl⟩))
      exact ⟨rfl, rfl, I2.out⟩
    have hci : ((c.toNat : Int) != 48) = true := by
      rw [bne_iff_ne]
      exact fun e => hc (UInt8.toNat_inj.1 (by have : (48 : UInt8).toNat = 48 := rfl; omega))
    by_cases hz : (c :: r).length ≤ 7
    case neg =>
      have hsz : ¬ ((⟨(c :: r).toArray⟩ : ByteArray).size : Int) ≤ 7 := by rw [Lib.size_mk]; omega
      generalize (⟨(c :: r).toArray⟩ : ByteArray) = s at PT hix he0 he1 hsz
      clear hc hn hfl hz
      go_enter Tryz.func102, Tryz.ntmps102
      go_wp2_with (first
        | (go_at_call 100; refine PT.out.mono ?_; rintro e w2 ⟨rfl, hr, hg⟩; have I2 := Lib.hid hg; clear hr hg PT)
        | (go_at_call 101; refine (need_no _).mono ?_; rintro e wa ⟨rfl, rfl⟩))
      exact ⟨rfl, rfl, I2.out⟩
    have hsz : ((⟨(c :: r).toArray⟩ : ByteArray).size : Int) ≤ 7 := by rw [Lib.size_mk]; omega
    have TR := fun W => trimD_any ⟨(c :: r).toArray⟩ W (by rw [Lib.size_mk]; exact hfl)
    have ht : Lib.trimS (⟨(c :: r).toArray⟩ : ByteArray).data.toList digL ≠ [] := fun e => hn (Or.inr ⟨by simp, fun e => hc (Option.some.inj e), hz, (trim_dig _).1 e⟩)
    have het : ((⟨(Lib.trimS (⟨(c :: r).toArray⟩ : ByteArray).data.toList digL).toArray⟩ : ByteArray).toList == ([] : List UInt8)) = false := by
      rw [ByteArray.toList_eq, beq_eq_false_iff_ne]
      exact ht
    have TR := Lib.hid TR
    generalize (⟨(Lib.trimS (⟨(c :: r).toArray⟩ : ByteArray).data.toList digL).toArray⟩ : ByteArray) = tt at TR het
    generalize (⟨(c :: r).toArray⟩ : ByteArray) = s at PT TR hix he0 he1 hsz
    clear hc hn hfl hz ht
    go_enter Tryz.func102, Tryz.ntmps102
    go_wp2_with (first
      | (go_at_call 100; refine PT.out.mono ?_; rintro e w2 ⟨rfl, hr, hg⟩; have I2 := Lib.hid hg; clear hr hg PT)
      | (go_at_call 101; refine (need_no _).mono ?_; rintro e wa ⟨rfl, rfl⟩)
      | (go_at_call 127; refine (TR.out _).mono ?_; rintro e w3 ⟨rfl, hb⟩; have I3 := Lib.hid (gr_trans I2.out (gr_below hb)); clear hb))
    exact ⟨rfl, rfl, I3.out⟩
end Go.Proofs.YtojodekmmkemgaaGreatDoor
