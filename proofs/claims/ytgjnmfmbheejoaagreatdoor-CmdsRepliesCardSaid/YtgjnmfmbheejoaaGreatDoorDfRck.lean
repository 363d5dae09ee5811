/- Whether a definition is allowed, by the reference. Condition: the texts are no longer than an int can say. -/
import Derived.Test.YtgjnmfmbheejoaaGreatDoorDfChk
import Derived.Deep.QuietTactic
import Derived.BigQuiet
namespace Go.Proofs.YtgjnmfmbheejoaaGreatDoor
open Go.RowKit Go.Shelf

theorem b_drewN {B : Nat} {a w : World} (h : Below B a w) (n : Nat) : Below B a (w.drewN n) := ⟨h.os, h.tape, h.output, h.size, h.block⟩
set_option maxRecDepth 100000 in
set_option maxHeartbeats 8000000 in
theorem refDefCheck_any (d : Dv) (A : Option Addr) (n c : Nat) (w : World) (h : DefAt w A n c d) :
    Calls Tryz.prog 132 #[dV d A n c] w fun e w' => e = .returned (.int .i64 (ckD d)) ∧ Below w.heap.size w w' := by
  have mixed : Tryz.prog.follows Departure.mixedOrders = true := by kernel_rfl
  have HZ := Lib.hid h.z
  have H := Lib.hid h
  have hN := fun W => refName_any d.n W h.z.n
  have b1 := (Below.refl w.heap.size w).alloc (Nat.le_refl _) (.cells #[.string d.n, .int .i64 d.r, .int .i64 d.dl, .slice A n c] 31)
  have hbig := h.big
  generalize hq : ckD d = q
  have hlen := h.len
  unfold dV
  clear h
  by_cases h0 : isName d.n.data.toList = true
  case neg =>
    have h0' : isName d.n.data.toList = false := by simpa using h0
    rw [h0'] at hN
    have HQ : Hid (q = 15) := Lib.hid (by rw [← hq]; exact ckD_hd (fun h => h0 h.1))
    have HB := Lib.hid b1
    clear hq hlen H HZ b1 hbig
    go_enter Tryz.func132, Tryz.ntmps132
    go_wp2_with (go_at_call 137; refine (hN _).mono ?_; rintro e w1 ⟨rfl, rfl⟩)
    go_ret
    exact ⟨by rw [HQ.out]; rfl, HB.out⟩
  rw [h0] at hN
  by_cases h1 : d.r < 0
  case pos =>
    have HQ : Hid (q = 15) := Lib.hid (by rw [← hq]; exact ckD_hd (fun h => by have := h.2.1.1; omega))
    have HB := Lib.hid b1
    clear hq hlen H HZ b1 hbig
    go_enter Tryz.func132, Tryz.ntmps132
    go_wp2_with (go_at_call 137; refine (hN _).mono ?_; rintro e w1 ⟨rfl, rfl⟩)
    go_ret
    exact ⟨by rw [HQ.out]; rfl, HB.out⟩
  by_cases h2 : 20 < d.r
  case pos =>
    have HQ : Hid (q = 15) := Lib.hid (by rw [← hq]; exact ckD_hd (fun h => by have := h.2.1.2; omega))
    have HB := Lib.hid b1
    clear hq hlen H HZ b1 hbig
    go_enter Tryz.func132, Tryz.ntmps132
    go_wp2_with (go_at_call 137; refine (hN _).mono ?_; rintro e w1 ⟨rfl, rfl⟩)
    go_ret
    exact ⟨by rw [HQ.out]; rfl, HB.out⟩
  by_cases h3 : d.dl < 0
  case pos =>
    have HQ : Hid (q = 15) := Lib.hid (by rw [← hq]; exact ckD_hd (fun h => by have := h.2.2.1.1; omega))
    have HB := Lib.hid b1
    clear hq hlen H HZ b1 hbig
    go_enter Tryz.func132, Tryz.ntmps132
    go_wp2_with (go_at_call 137; refine (hN _).mono ?_; rintro e w1 ⟨rfl, rfl⟩)
    go_ret
    exact ⟨by rw [HQ.out]; rfl, HB.out⟩
  by_cases h4 : 100000 < d.dl
  case pos =>
    have HQ : Hid (q = 15) := Lib.hid (by rw [← hq]; exact ckD_hd (fun h => by have := h.2.2.1.2; omega))
    have HB := Lib.hid b1
    clear hq hlen H HZ b1 hbig
    go_enter Tryz.func132, Tryz.ntmps132
    go_wp2_with (go_at_call 137; refine (hN _).mono ?_; rintro e w1 ⟨rfl, rfl⟩)
    go_ret
    exact ⟨by rw [HQ.out]; rfl, HB.out⟩
  by_cases h5 : (n : Int) < 1
  case pos =>
    have HQ : Hid (q = 15) := Lib.hid (by rw [← hq]; exact ckD_hd (fun h => by have := h.2.2.2.1; omega))
    have HB := Lib.hid b1
    clear hq hlen H HZ b1 hbig
    go_enter Tryz.func132, Tryz.ntmps132
    go_wp2_with (go_at_call 137; refine (hN _).mono ?_; rintro e w1 ⟨rfl, rfl⟩)
    go_ret
    exact ⟨by rw [HQ.out]; rfl, HB.out⟩
  by_cases h6 : 8 < (n : Int)
  case pos =>
    have HQ : Hid (q = 15) := Lib.hid (by rw [← hq]; exact ckD_hd (fun h => by have := h.2.2.2.2; omega))
    have HB := Lib.hid b1
    clear hq hlen H HZ b1 hbig
    go_enter Tryz.func132, Tryz.ntmps132
    go_wp2_with (go_at_call 137; refine (hN _).mono ?_; rintro e w1 ⟨rfl, rfl⟩)
    go_ret
    exact ⟨by rw [HQ.out]; rfl, HB.out⟩
  have HD : Hid (hdOk d) := Lib.hid ⟨h0, by omega, by omega, by omega, by omega⟩
  have HGQ := Lib.hid (fun h => hq.symm.trans (ckD_st (d := d) h))
  have HGY := Lib.hid (fun h => hq.symm.trans (ckD_good HD.out h))
  have HB := Lib.hid b1
  have hn8 : n ≤ 8 := by omega
  have HL := Lib.hid hlen
  have HW0 := Lib.hid (Whole.new w 31 #[.string d.n, .int .i64 d.r, .int .i64 d.dl, .slice A n c])
  clear hq hlen b1 h0 HD
  go_enter Tryz.func132, Tryz.ntmps132
  go_upto_region 3 with (go_at_call 137; refine (hN _).mono ?_; rintro e w1 ⟨rfl, rfl⟩)
  clear hN h1 h2 h3 h4 h5 h6
  generalize hw0 : w.alloc (.cells #[.string d.n, .int .i64 d.r, .int .i64 d.dl, .slice A n c] 31) = w0 at HB HW0 ⊢
  clear hw0
  go_wp2_with fail
  go_loopw [3] (fun i wr => Below w0.heap.size w0 wr ∧ ∃ k : Nat, k ≤ n ∧ i = .int .i64 k ∧ Hid (GoodK d.s k)) (fun i _ => n - (intOf i).toNat)
  case atStart => exact ⟨Below.refl _ _, 0, Nat.zero_le _, rfl, Lib.hid (fun i p h => absurd h (Nat.not_lt_zero _))⟩
  case round =>
    obtain ⟨b2, k, hk', rfl, HG⟩ := hrel
    have BW2 := Lib.hid (HB.out.trans (b2.mono HB.out.size))
    have Y3 := (HW0.out.keep b2).cell 3
    simp only [List.getElem?_toArray, List.getElem?_cons_succ, List.getElem?_cons_zero] at Y3
    by_cases hlt : k < n
    · obtain ⟨p, hp⟩ : ∃ p, d.s[k]? = some p := ⟨_, List.getElem?_eq_getElem (by rw [HL.out]; exact hlt)⟩
      obtain ⟨g, o, rfl, y0, y1⟩ := H.out.s.keep BW2.out k p hp
      have HP := Lib.hid hp
      have B2 := Lib.hid b2
      have hz := HZ.out.s k p hp
      have hNK := fun W => refName_any p.k W hz.1
      have hk0 : (0 : Int) ≤ (k : Int) := by omega
      have hkn : (k : Int) < (n : Int) := by omega
      have hwk : IntKind.i64.wrap ((k : Int) + 1) = (k : Int) + 1 := IntWalk.i64_in _ (by omega)
      have BN := Lib.hid (BW2.out.alloc BW2.out.size (.cells #[.string p.k, .int .i64 p.v] 53))
      clear hp b2 hz
      by_cases h1 : isName p.k.data.toList = true
      case neg =>
        have h1' : isName p.k.data.toList = false := by simpa using h1
        rw [h1'] at hNK
        have HQ15 := Lib.hid (HGQ.out (good_not HP.out (fun h => h1 (stOk_parts h.1).1)))
        clear h1 h1'
        go_wp2_with (go_at_call 137; refine (hNK _).mono ?_; rintro e w4 ⟨rfl, rfl⟩)
        go_ret
        exact ⟨by rw [HQ15.out]; rfl, BN.out⟩
      rw [h1] at hNK
      by_cases h2 : p.v = 0
      case pos =>
        have HQ15 := Lib.hid (HGQ.out (good_not HP.out (fun h => (stOk_parts h.1).2.1 h2)))
        have e0 : (p.v == 0) = true := by rw [beq_iff_eq]; exact h2
        clear h1 h2
        go_wp2_with (go_at_call 137; refine (hNK _).mono ?_; rintro e w4 ⟨rfl, rfl⟩)
        go_ret
        exact ⟨by rw [HQ15.out]; rfl, BN.out⟩
      have e0 : (p.v == 0) = false := by rw [beq_eq_false_iff_ne]; exact h2
      by_cases h3 : p.v < -1152921504606846976
      case pos =>
        have HQ15 := Lib.hid (HGQ.out (good_not HP.out (fun h => by have := (stOk_parts h.1).2.2.1; omega)))
        clear h1 h2
        go_wp2_with (go_at_call 137; refine (hNK _).mono ?_; rintro e w4 ⟨rfl, rfl⟩)
        go_ret
        exact ⟨by rw [HQ15.out]; rfl, BN.out⟩
      by_cases h4 : 1152921504606846976 < p.v
      case pos =>
        have HQ15 := Lib.hid (HGQ.out (good_not HP.out (fun h => by have := (stOk_parts h.1).2.2.2; omega)))
        clear h1 h2
        go_wp2_with (go_at_call 137; refine (hNK _).mono ?_; rintro e w4 ⟨rfl, rfl⟩)
        go_ret
        exact ⟨by rw [HQ15.out]; rfl, BN.out⟩
      have HST : Hid (stOk p = true) := Lib.hid (by unfold stOk; rw [h1]; simp [h2]; omega)
      clear h1 h2
      go_upto_region 9 with (go_at_call 137; refine (hNK _).mono ?_; rintro e w4 ⟨rfl, rfl⟩)
      obtain ⟨wo, hwo⟩ : ∃ wo, wo = wr := ⟨_, rfl⟩
      subst hwo
      have PW := Whole.new wo 53 #[.string p.k, .int .i64 p.v]
      have BA := (Below.refl _ wo).alloc (Nat.le_refl _) (.cells #[.string p.k, .int .i64 p.v] 53)
      generalize hwa : wo.alloc (.cells #[.string p.k, .int .i64 p.v] 53) = wa at PW BA BN ⊢
      have HPW := Lib.hid PW
      have HBA := Lib.hid BA
      have HDW := Lib.hid ((HW0.out.keep B2.out).keep BA)
      have B0A := Lib.hid (B2.out.trans (BA.mono B2.out.size))
      clear hwa PW BA y0 y1 Y3 e0 h3 h4 hNK
      go_wp2_with fail
      go_loopw [5] (fun m wq => Below wa.heap.size wa wq ∧ ∃ j : Nat, j ≤ k ∧ m = .int .i64 j ∧ Hid (¬ hasK d.s j p.k)) (fun m _ => k - (intOf m).toNat)
      case atStart => exact ⟨Below.refl _ _, 0, Nat.zero_le _, rfl, Lib.hid (fun ⟨j, q, h, _⟩ => absurd h (Nat.not_lt_zero _))⟩
      case round =>
        obtain ⟨b5, j, hj', rfl, HNK⟩ := hrel
        have B5 := Lib.hid b5
        have BT := Lib.hid (BN.out.trans (b5.mono BN.out.size))
        by_cases hjk : j < k
        · obtain ⟨q, hq2⟩ : ∃ q, d.s[j]? = some q := ⟨_, List.getElem?_eq_getElem (by rw [HL.out]; omega)⟩
          obtain ⟨g2, o2, hgg, y0, y1⟩ := H.out.s.keep BT.out j q hq2
          cases hgg
          have x3 := (HDW.out.keep b5).cell 3
          have p0 := (HPW.out.keep b5).cell 0
          simp only [List.getElem?_toArray, List.getElem?_cons_succ, List.getElem?_cons_zero] at x3 p0
          have hj0 : (0 : Int) ≤ (j : Int) := by omega
          have hjn : (j : Int) < (n : Int) := by omega
          have hwj : IntKind.i64.wrap ((j : Int) + 1) = (j : Int) + 1 := IntWalk.i64_in _ (by omega)
          have HQ2 := Lib.hid hq2
          clear b5 hq2
          cases he : (q.k.toList == p.k.toList) with
          | true =>
            have HQ15 := Lib.hid (HGQ.out (good_not HP.out (fun h => h.2 ⟨j, q, hjk, HQ2.out, key_eq.1 he⟩)))
            go_upto_region 12 with fail
            go_quiet (fail)
            go_wp2_with fail
            go_ret
            exact ⟨by rw [HQ15.out]; rfl, b_drewN BT.out _⟩
          | false =>
            have HNJ : Hid (¬ hasK d.s (j + 1) p.k) := Lib.hid (fun ⟨i, r, h, h2, h3⟩ => by
              by_cases e : i = j
              · subst e; rw [HQ2.out] at h2; cases h2; exact key_ne.1 he h3
              · exact HNK.out ⟨i, r, by omega, h2, h3⟩)
            go_upto_region 12 with fail
            go_quiet (fail)
            go_wp2_with fail
            go_roundw
            case rel => exact ⟨b_drewN B5.out _, j + 1, by omega, by go_num, HNJ⟩
            case measure => simp [intOf]; omega
        · obtain rfl : j = k := by omega
          have HN := Lib.hid (HG.out.next HP.out HST.out HNK.out)
          clear b5 HNK
          go_wp2_with fail
          go_roundw
          case rel => exact ⟨B0A.out.trans (B5.out.mono B0A.out.size), j + 1, by omega, by go_num, HN⟩
          case measure => simp [intOf]; omega
    · obtain rfl : k = n := by omega
      have HQ0 := Lib.hid (HGY.out (good_all (by rw [HL.out]; exact HG.out)))
      clear HG b2
      go_wp2_with fail
      go_ret
      exact ⟨by rw [HQ0.out]; rfl, BW2.out⟩
end Go.Proofs.YtgjnmfmbheejoaaGreatDoor
