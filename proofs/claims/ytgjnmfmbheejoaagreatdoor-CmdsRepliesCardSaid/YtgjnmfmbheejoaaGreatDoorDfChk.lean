/- Whether a definition is allowed, by the program. Condition: the texts are no longer than an int can say. -/
import Derived.Test.YtgjnmfmbheejoaaGreatDoorDfMem
import Derived.IntWalk
import Derived.Outline
namespace Go.Proofs.YtgjnmfmbheejoaaGreatDoor
open Go.RowKit Go.Shelf

set_option maxRecDepth 100000 in
theorem cut_steps (A : Option Addr) (n c hi : Nat) (h2 : hi ≤ c) (w : World) : (Instr.slice 29 (.slice A n c) none (some (.int .i64 (hi : Int))) none).run Tryz.prog w = .ok (.slice A hi c) w := by
  have hs : (sizeOf (Tryz.prog.elem 29)).run Tryz.prog w = .ok 2 w := by kernel_rfl
  have hu : Tryz.prog.underlying 29 = some (.slice (Tryz.prog.elem 29)) := by kernel_rfl
  rw [run_slice_h w 29 A n c hu .i64 (hi : Int) (by omega) (by omega), hs]
  show Result.ok (sliced A 0 hi c 2) w = _
  unfold sliced
  congr 2
  rcases A with _ | a
  · simp
  · simp [Addr.add]
/-- What the loop of Check holds: the steps so far are valid, with keys of their own. -/
def GoodK (s : List Sp) (k : Nat) : Prop := ∀ (i : Nat) p, i < k → s[i]? = some p → stOk p = true ∧ ¬ hasK s i p.k
theorem GoodK.next {s : List Sp} {k : Nat} {p : Sp} (h : GoodK s k) (hp : s[k]? = some p) (h1 : stOk p = true) (h2 : ¬ hasK s k p.k) : GoodK s (k + 1) := fun i q hi hq => by
  by_cases e : i = k
  · subst e; rw [hp] at hq; cases hq; exact ⟨h1, h2⟩
  · exact h i q (by omega) hq
theorem good_all {s : List Sp} (h : GoodK s s.length) : StepsOk s := fun i p hp =>
  have := h i p (List.getElem?_eq_some_iff.1 hp).1 hp
  ⟨this.1, fun j q hj hq e => this.2 ⟨j, q, hj, hq, e⟩⟩
theorem good_not {s : List Sp} {k : Nat} {p : Sp} (hp : s[k]? = some p) (h : ¬ (stOk p = true ∧ ¬ hasK s k p.k)) : ¬ StepsOk s := fun hs =>
  h ⟨(hs k p hp).1, fun ⟨j, q, hj, hq, e⟩ => (hs k p hp).2 j q hj hq e⟩
def hdOk (d : Dv) : Prop := isName d.n.data.toList = true ∧ (0 ≤ d.r ∧ d.r ≤ 20) ∧ (0 ≤ d.dl ∧ d.dl ≤ 100000) ∧ 1 ≤ d.s.length ∧ d.s.length ≤ 8
theorem ckD_hd {d : Dv} (h : ¬ hdOk d) : ckD d = 15 := ckD_no (fun ⟨h1, h2, h3, h4, h5, h6, h7, _⟩ => h ⟨h1, ⟨h2, h3⟩, ⟨h4, h5⟩, h6, h7⟩)
theorem ckD_st {d : Dv} (h : ¬ StepsOk d.s) : ckD d = 15 := ckD_no (fun ⟨_, _, _, _, _, _, _, h8⟩ => h h8)
theorem ckD_good {d : Dv} (h : hdOk d) (h2 : StepsOk d.s) : ckD d = 0 := ckD_yes ⟨h.1, h.2.1.1, h.2.1.2, h.2.2.1.1, h.2.2.1.2, h.2.2.2.1, h.2.2.2.2, h2⟩
set_option maxRecDepth 100000 in
set_option maxHeartbeats 8000000 in
theorem defCheck_any (d : Dv) (A : Option Addr) (n c : Nat) (w : World) (h : DefAt w A n c d) :
    Calls Tryz.prog 183 #[dV d A n c] w fun e w' => e = .returned (.int .i64 (ckD d)) ∧ Below w.heap.size w w' := by
  have HZ := Lib.hid h.z
  have H := Lib.hid h
  have hN := fun W => name_any d.n W h.z.n
  have hI1 := fun W => in_any d.r 20 W
  have hI2 := fun W => in_any d.dl 100000 W
  have hI3 := fun W => in_any ((n : Int) - 1) 7 W
  have b1 := (Below.refl w.heap.size w).alloc (Nat.le_refl _) (.cells #[.string d.n, .int .i64 d.r, .int .i64 d.dl, .slice A n c] 31)
  have BX := Whole.new w 31 #[.string d.n, .int .i64 d.r, .int .i64 d.dl, .slice A n c]
  have hbig := h.big
  have hwn : IntKind.i64.wrap ((n : Int) - 1) = (n : Int) - 1 := IntWalk.i64_in _ (by omega)
  generalize hq : ckD d = q
  have hlen := h.len
  unfold dV
  by_cases h0 : isName d.n.data.toList = true
  case neg =>
    have h0' : isName d.n.data.toList = false := by simpa using h0
    rw [h0'] at hN
    have HQ : Hid (q = 15) := Lib.hid (by rw [← hq]; exact ckD_hd (fun h => h0 h.1))
    have HB := Lib.hid b1
    clear hq BX hlen h b1
    go_enter Tryz.func183, Tryz.ntmps183
    go_wp2_with (first
      | (go_at_call 160; refine (hN _).mono ?_; rintro e w1 ⟨rfl, hb⟩; have BX1 := (Whole.new w 31 #[.string d.n, .int .i64 d.r, .int .i64 d.dl, .slice A n c]).keep hb; have x1 := BX1.cell 1; have x2 := BX1.cell 2; have x3 := BX1.cell 3; simp only [List.getElem?_toArray, List.getElem?_cons_succ, List.getElem?_cons_zero] at x1 x2 x3)
      | (go_at_call 231; refine (hI1 _).mono ?_; rintro e w2 ⟨rfl, rfl⟩; clear hI1)
      | (go_at_call 231; refine (hI2 _).mono ?_; rintro e w2 ⟨rfl, rfl⟩; clear hI2)
      | (go_at_call 231; refine (hI3 _).mono ?_; rintro e w2 ⟨rfl, rfl⟩; clear hI3))
    go_ret
    exact ⟨by rw [HQ.out]; rfl, HB.out.trans (hb.mono HB.out.size)⟩
  rw [h0] at hN
  by_cases h1 : 0 ≤ d.r ∧ d.r ≤ 20
  case neg =>
    rw [decide_eq_false h1] at hI1
    have HQ : Hid (q = 15) := Lib.hid (by rw [← hq]; exact ckD_hd (fun h => h1 h.2.1))
    have HB := Lib.hid b1
    clear hq BX hlen h b1
    go_enter Tryz.func183, Tryz.ntmps183
    go_wp2_with (first
      | (go_at_call 160; refine (hN _).mono ?_; rintro e w1 ⟨rfl, hb⟩; have BX1 := (Whole.new w 31 #[.string d.n, .int .i64 d.r, .int .i64 d.dl, .slice A n c]).keep hb; have x1 := BX1.cell 1; have x2 := BX1.cell 2; have x3 := BX1.cell 3; simp only [List.getElem?_toArray, List.getElem?_cons_succ, List.getElem?_cons_zero] at x1 x2 x3)
      | (go_at_call 231; refine (hI1 _).mono ?_; rintro e w2 ⟨rfl, rfl⟩; clear hI1)
      | (go_at_call 231; refine (hI2 _).mono ?_; rintro e w2 ⟨rfl, rfl⟩; clear hI2)
      | (go_at_call 231; refine (hI3 _).mono ?_; rintro e w2 ⟨rfl, rfl⟩; clear hI3))
    go_ret
    exact ⟨by rw [HQ.out]; rfl, HB.out.trans (hb.mono HB.out.size)⟩
  rw [decide_eq_true h1] at hI1
  by_cases h2 : 0 ≤ d.dl ∧ d.dl ≤ 100000
  case neg =>
    rw [decide_eq_false h2] at hI2
    have HQ : Hid (q = 15) := Lib.hid (by rw [← hq]; exact ckD_hd (fun h => h2 h.2.2.1))
    have HB := Lib.hid b1
    clear hq BX hlen h b1
    go_enter Tryz.func183, Tryz.ntmps183
    go_wp2_with (first
      | (go_at_call 160; refine (hN _).mono ?_; rintro e w1 ⟨rfl, hb⟩; have BX1 := (Whole.new w 31 #[.string d.n, .int .i64 d.r, .int .i64 d.dl, .slice A n c]).keep hb; have x1 := BX1.cell 1; have x2 := BX1.cell 2; have x3 := BX1.cell 3; simp only [List.getElem?_toArray, List.getElem?_cons_succ, List.getElem?_cons_zero] at x1 x2 x3)
      | (go_at_call 231; refine (hI1 _).mono ?_; rintro e w2 ⟨rfl, rfl⟩; clear hI1)
      | (go_at_call 231; refine (hI2 _).mono ?_; rintro e w2 ⟨rfl, rfl⟩; clear hI2)
      | (go_at_call 231; refine (hI3 _).mono ?_; rintro e w2 ⟨rfl, rfl⟩; clear hI3))
    go_ret
    exact ⟨by rw [HQ.out]; rfl, HB.out.trans (hb.mono HB.out.size)⟩
  rw [decide_eq_true h2] at hI2
  by_cases h3 : 0 ≤ (n : Int) - 1 ∧ (n : Int) - 1 ≤ 7
  case neg =>
    rw [decide_eq_false h3] at hI3
    have HQ : Hid (q = 15) := Lib.hid (by rw [← hq]; exact ckD_hd (fun h => by obtain ⟨_, _, _, h4, h5⟩ := h; omega))
    have HB := Lib.hid b1
    clear hq BX hlen h b1
    go_enter Tryz.func183, Tryz.ntmps183
    go_wp2_with (first
      | (go_at_call 160; refine (hN _).mono ?_; rintro e w1 ⟨rfl, hb⟩; have BX1 := (Whole.new w 31 #[.string d.n, .int .i64 d.r, .int .i64 d.dl, .slice A n c]).keep hb; have x1 := BX1.cell 1; have x2 := BX1.cell 2; have x3 := BX1.cell 3; simp only [List.getElem?_toArray, List.getElem?_cons_succ, List.getElem?_cons_zero] at x1 x2 x3)
      | (go_at_call 231; refine (hI1 _).mono ?_; rintro e w2 ⟨rfl, rfl⟩; clear hI1)
      | (go_at_call 231; refine (hI2 _).mono ?_; rintro e w2 ⟨rfl, rfl⟩; clear hI2)
      | (go_at_call 231; refine (hI3 _).mono ?_; rintro e w2 ⟨rfl, rfl⟩; clear hI3))
    go_ret
    exact ⟨by rw [HQ.out]; rfl, HB.out.trans (hb.mono HB.out.size)⟩
  rw [decide_eq_true h3] at hI3
  have HD : Hid (hdOk d) := Lib.hid ⟨h0, h1, h2, by omega, by omega⟩
  have HQ := Lib.hid hq
  have HB := Lib.hid b1
  have hn8 : n ≤ 8 := by omega
  have hn1 : 1 ≤ n := by omega
  have HL := Lib.hid hlen
  clear hq hlen h b1 h0 h1 h2 h3 BX
  go_enter Tryz.func183, Tryz.ntmps183
  go_upto_region 3 with (first
    | (go_at_call 160; refine (hN _).mono ?_; rintro e w1 ⟨rfl, hb⟩; have BX1 := (Whole.new w 31 #[.string d.n, .int .i64 d.r, .int .i64 d.dl, .slice A n c]).keep hb; have x1 := BX1.cell 1; have x2 := BX1.cell 2; have x3 := BX1.cell 3; simp only [List.getElem?_toArray, List.getElem?_cons_succ, List.getElem?_cons_zero] at x1 x2 x3)
    | (go_at_call 231; refine (hI1 _).mono ?_; rintro e w2 ⟨rfl, rfl⟩; clear hI1)
    | (go_at_call 231; refine (hI2 _).mono ?_; rintro e w2 ⟨rfl, rfl⟩; clear hI2)
    | (go_at_call 231; refine (hI3 _).mono ?_; rintro e w2 ⟨rfl, rfl⟩; clear hI3))
  have HW1 := Lib.hid BX1
  have HB1 := Lib.hid hb
  clear BX1 hb x1 x2
  have BW1 := Lib.hid (HB.out.trans (HB1.out.mono HB.out.size))
  have HGQ := Lib.hid (fun h => HQ.out.symm.trans (ckD_st (d := d) h))
  have HGY := Lib.hid (fun h => HQ.out.symm.trans (ckD_good HD.out h))
  clear HQ HB HB1 HD
  have hcutS := fun (k : Nat) (hk : k ≤ c) W => cut_steps A n c k hk W
  have HC := Lib.hid hcutS
  clear hcutS
  go_wp2_with fail
  go_loopw [33] (fun i wr => Below w1.heap.size w1 wr ∧ ∃ k : Nat, k ≤ n ∧ i = .int .i64 k ∧ Hid (GoodK d.s k)) (fun i _ => n - (intOf i).toNat)
  case atStart => exact ⟨Below.refl _ _, 0, Nat.zero_le _, rfl, Lib.hid (fun i p h => absurd h (Nat.not_lt_zero _))⟩
  case round =>
    obtain ⟨b2, k, hk', rfl, HG⟩ := hrel
    have BW2 := Lib.hid (BW1.out.trans (b2.mono BW1.out.size))
    by_cases hlt : k < n
    · obtain ⟨p, hp⟩ : ∃ p, d.s[k]? = some p := ⟨_, List.getElem?_eq_getElem (by rw [HL.out]; exact hlt)⟩
      have hS := H.out.s.keep BW2.out
      obtain ⟨g, o, rfl, y0, y1⟩ := hS k p hp
      have Y3 := (HW1.out.keep b2).cell 3
      simp only [List.getElem?_toArray, List.getElem?_cons_succ, List.getElem?_cons_zero] at Y3
      have z3 := acell (.cells #[.string p.k, .int .i64 p.v] 53) Y3
      have hcut := fun W => HC.out k (by have := H.out.le; omega) W
      have NB := Whole.new wr 53 #[.string p.k, .int .i64 p.v]
      have CF := Lib.hid (contF_any (some ⟨g, o, none⟩) k c wr.heap.size d.s p.k _ (hS.keep ((Below.refl _ _).alloc (Nat.le_refl _) (.cells #[.string p.k, .int .i64 p.v] 53))) (by rw [HL.out]; omega) (by omega) (NB.cell 0))
      have HP := Lib.hid hp
      have HNB := Lib.hid NB
      have B2 := Lib.hid b2
      have hz := H.out.z.s k p hp
      have hNK := fun W => name_any p.k W hz.1
      have hNC := fun W => numCheck_any p.v W
      have HZ1 := Lib.hid hz
      have hk0 : (0 : Int) ≤ (k : Int) := by omega
      have hkn : (k : Int) < (n : Int) := by omega
      have hwk : IntKind.i64.wrap ((k : Int) + 1) = (k : Int) + 1 := IntWalk.i64_in _ (by omega)
      clear hS hp NB b2 hz Y3
      go_upto_region 7 with (go_at_call 232; refine CF.out.mono ?_; rintro e w3 ⟨⟨b, rfl, hbk⟩, hb3⟩)
      have P := HNB.out.keep hb3
      have p0 := P.cell 0
      have p1 := P.cell 1
      simp only [List.getElem?_toArray, List.getElem?_cons_succ, List.getElem?_cons_zero] at p0 p1
      have B3 := Lib.hid (B2.out.trans ((((Below.refl _ wr).alloc (Nat.le_refl _) _).trans (hb3.mono (by simp))).mono B2.out.size))
      have BW3 := Lib.hid (BW1.out.trans (B3.out.mono BW1.out.size))
      have HBK := Lib.hid hbk
      have HP3 := Lib.hid P
      clear hbk hb3 P z3 hcut CF y0 y1 HNB
      by_cases hok : stOk p = true ∧ ¬ hasK d.s k p.k
      · obtain ⟨h1, h2, h3, h4⟩ := stOk_parts hok.1
        have HN : Hid (GoodK d.s (k + 1)) := Lib.hid (HG.out.next HP.out hok.1 hok.2)
        obtain rfl : b = false := by cases b with | false => rfl | true => exact absurd (HBK.out.1 rfl) hok.2
        rw [h1] at hNK
        rw [if_pos ⟨h3, h4⟩] at hNC
        have e0 : (p.v == 0) = false := by rw [beq_eq_false_iff_ne]; exact h2
        clear hok h1 h2 h3 h4 HBK
        go_wp2_with (first
          | (go_at_call 160; refine (hNK _).mono ?_; rintro e w4 ⟨rfl, hb4⟩; have P4 := HP3.out.keep hb4; have q1 := P4.cell 1; simp only [List.getElem?_toArray, List.getElem?_cons_succ, List.getElem?_cons_zero] at q1; clear P4)
          | (go_at_call 73; refine (hNC _).mono ?_; rintro e w5 ⟨rfl, rfl⟩))
        go_roundw
        case rel => exact ⟨B3.out.trans (hb4.mono B3.out.size), k + 1, by omega, by go_num, HN⟩
        case measure => simp [intOf]; omega
      · have HQ15 := Lib.hid (HGQ.out (good_not HP.out hok))
        cases b with
        | true =>
          clear hok HBK
          go_wp2_with fail
          go_ret
          exact ⟨by rw [HQ15.out]; rfl, BW3.out⟩
        | false =>
          have hst : ¬ stOk p = true := fun h => hok ⟨h, fun h2 => by have := HBK.out.2 h2; cases this⟩
          clear hok HBK
          by_cases h1 : isName p.k.data.toList = true
          case neg =>
            have h1' : isName p.k.data.toList = false := by simpa using h1
            rw [h1'] at hNK
            clear hst h1 h1'
            go_wp2_with (go_at_call 160; refine (hNK _).mono ?_; rintro e w4 ⟨rfl, hb4⟩)
            go_ret
            exact ⟨by rw [HQ15.out]; rfl, BW3.out.trans (hb4.mono BW3.out.size)⟩
          rw [h1] at hNK
          by_cases h2 : p.v = 0
          · have e0 : (p.v == 0) = true := by rw [beq_iff_eq]; exact h2
            clear hst h1 h2 hNC
            go_wp2_with (go_at_call 160; refine (hNK _).mono ?_; rintro e w4 ⟨rfl, hb4⟩; have P4 := HP3.out.keep hb4; have q1 := P4.cell 1; simp only [List.getElem?_toArray, List.getElem?_cons_succ, List.getElem?_cons_zero] at q1; clear P4)
            go_ret
            exact ⟨by rw [HQ15.out]; rfl, BW3.out.trans (hb4.mono BW3.out.size)⟩
          · have e0 : (p.v == 0) = false := by rw [beq_eq_false_iff_ne]; exact h2
            rw [if_neg (fun h => hst (by unfold stOk; rw [h1]; simp [h2, h.1, h.2]))] at hNC
            clear hst h1 h2
            go_wp2_with (first
              | (go_at_call 160; refine (hNK _).mono ?_; rintro e w4 ⟨rfl, hb4⟩; have P4 := HP3.out.keep hb4; have q1 := P4.cell 1; simp only [List.getElem?_toArray, List.getElem?_cons_succ, List.getElem?_cons_zero] at q1; clear P4)
              | (go_at_call 73; refine (hNC _).mono ?_; rintro e w5 ⟨rfl, rfl⟩))
            go_ret
            exact ⟨by rw [HQ15.out]; rfl, BW3.out.trans (hb4.mono BW3.out.size)⟩
    · obtain rfl : k = n := by omega
      have HQ0 := Lib.hid (HGY.out (good_all (by rw [HL.out]; exact HG.out)))
      clear HG b2
      go_wp2_with fail
      go_ret
      exact ⟨by rw [HQ0.out]; rfl, BW2.out⟩
end Go.Proofs.YtgjnmfmbheejoaaGreatDoor
