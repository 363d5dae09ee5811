/- A definition read from bytes, by the program. Condition: the bytes are no longer than an int can say. -/
import Derived.Test.YtgjnmfmbheejoaaGreatDoorRrA
namespace Go.Proofs.YtgjnmfmbheejoaaGreatDoor
open Go.RowKit Go.Shelf

/-- The numbers that are read, one behind the other. -/
def sN : Nat → WS → WS
  | 0, st => st
  | k + 1, st => (wN (sN k st)).2
def nN (k : Nat) (st : WS) : Int := ((wN (sN k st)).1 : Nat)
def arN (k : Nat) (st : WS) : Array Value := #[.int .i64 (if 0 < k then nN 0 st else 0), .int .i64 (if 1 < k then nN 1 st else 0), .int .i64 (if 2 < k then nN 2 st else 0)]
theorem arN_next {k : Nat} (st : WS) (h : k < 3) : (arN k st).setIfInBounds k (.int .i64 (nN k st)) = arN (k + 1) st := by
  match k, h with
  | 0, _ => simp [arN]
  | 1, _ => simp [arN]
  | 2, _ => simp [arN]
theorem nN_le (k : Nat) (st : WS) : 0 ≤ nN k st ∧ nN k st ≤ 100000 := by
  unfold nN wN
  dsimp only
  omega
set_option maxRecDepth 100000 in
set_option maxHeartbeats 4000000 in
theorem decode_new (A : Option Addr) (n c : Nat) (l : List UInt8) (w : World) (h : SlB w A n l) (hn : n ≤ 1000000000000) :
    Calls Tryz.prog 187 #[.slice A n c] w fun e w' => DecodeN l w w' e := by
  have mixed : Tryz.prog.follows Departure.mixedOrders = true := by kernel_rfl
  have R1 := Lib.hid (Whole.new w 31 #[.string ⟨#[]⟩, .int .i64 0, .int .i64 0, .slice none 0 0])
  have b1 := Lib.hid ((Below.refl w.heap.size w).alloc (Nat.le_refl _) (.cells #[.string ⟨#[]⟩, .int .i64 0, .int .i64 0, .slice none 0 0] 31))
  have RD := Lib.hid (read_any A n c l _ (h.keep b1.out) hn)
  have hsz := World.size_alloc w (.cells #[.string ⟨#[]⟩, .int .i64 0, .int .i64 0, .slice none 0 0] 31)
  have HSZ := Lib.hid hsz
  clear h hn hsz
  go_enter Tryz.func187, Tryz.ntmps187
  go_upto_region 2 with (go_at_call 46; refine RD.out.mono ?_; rintro e w1 ⟨⟨C, rfl, hC, hP⟩, hB⟩)
  have M1 : Hid (DecM w (w1.alloc (.cells #[.string ⟨#[]⟩, .int .i64 0, .int .i64 0, .slice none 0 0] 31)) C w1.heap.size (some l) #[.string ⟨#[]⟩, .int .i64 0, .int .i64 0, .slice none 0 0]) := by
    have hz := HSZ.out
    have ba := (Below.refl _ w1).alloc (Nat.le_refl _) (.cells #[.string ⟨#[]⟩, .int .i64 0, .int .i64 0, .slice none 0 0] 31)
    have hb2 := b1.out.trans (hB.mono (by omega))
    exact Lib.hid ⟨hP.keep ba, Whole.new w1 _ _, (R1.out.keep hB).keep ba, hb2.trans (ba.mono hb2.size), by omega, hP.lt⟩
  clear R1 b1 RD HSZ hB hP hC
  go_upto_region 3 with fail
  generalize w1.alloc (.cells #[.string ⟨#[]⟩, .int .i64 0, .int .i64 0, .slice none 0 0] 31) = w2 at M1 ⊢
  generalize w1.heap.size = D at M1 ⊢
  obtain ⟨nm, hnm⟩ : ∃ nm : ByteArray, nm = ⟨(wT (some l)).1.toArray⟩ := ⟨_, rfl⟩
  obtain ⟨s1, hs1⟩ : ∃ s1, s1 = (wT (some l)).2 := ⟨_, rfl⟩
  have T := Lib.hid (rtext_any C (some l) w2 M1.out.rd)
  rw [← hnm, ← hs1] at T
  have HNM := Lib.hid (And.intro hnm hs1)
  have hnz : nm.size ≤ 65536 := by rw [hnm, Lib.size_mk]; exact wT_len _
  clear hnm hs1
  go_upto_region 4 with (go_at_call 60; refine T.out.mono ?_; rintro e w3 ⟨rfl, hP, hg⟩; have M2 := Lib.hid (M1.out.reads hP hg); have M3 := Lib.hid (M2.out.put 0 (.string nm)); obtain ⟨⟨d0, d1, d2, d3⟩, f0, f1, f2, f3⟩ := whole4 M2.out.d; clear hP hg)
  clear d0 d1 d2 d3 f0 f1 f2 f3 M1 M2 T
  generalize w3.setCell ⟨D, 0, none⟩ (.string nm) = w4 at M3 ⊢
  have M4 := Lib.hid (M3.out.keep ((Below.refl _ w4).alloc (Nat.le_refl _) (.cells #[.int .i64 0, .int .i64 0, .int .i64 0] 223)))
  have N4 := Lib.hid (And.intro (Whole.new w4 223 #[.int .i64 0, .int .i64 0, .int .i64 0]) M3.out.d.lt)
  go_upto_region 5 with fail
  generalize w4.alloc (.cells #[.int .i64 0, .int .i64 0, .int .i64 0] 223) = w5 at M4 N4 ⊢
  generalize w4.heap.size = N at N4 ⊢
  clear M3
  have J0 : Hid (DecM w w5 C D (sN 0 s1) #[.string nm, .int .i64 0, .int .i64 0, .slice none 0 0] ∧ Whole w5 N 223 (arN 0 s1)) := Lib.hid ⟨M4.out, N4.out.1⟩
  have HDN := Lib.hid N4.out.2
  clear M4 N4
  go_wp2_with fail
  go_loopw [15] (fun i wr => ∃ k : Nat, k ≤ 3 ∧ i = .int .i64 k ∧ Hid (DecM w wr C D (sN k s1) #[.string nm, .int .i64 0, .int .i64 0, .slice none 0 0] ∧ Whole wr N 223 (arN k s1))) (fun i _ => 3 - (intOf i).toNat)
  case atStart => exact ⟨0, by omega, rfl, J0⟩
  case round =>
    clear J0
    obtain ⟨k, hk, rfl, HI⟩ := hrel
    by_cases hk3 : k < 3
    · have U := Lib.hid (ruint_any C (sN k s1) wr HI.out.1.rd)
      have hu := wU_lt (sN k s1)
      have HNX := Lib.hid (arN_next s1 hk3)
      have HNN : Hid (nN k s1 = ((min (wU (sN k s1)).1 100000 : Nat) : Int) ∧ sN (k + 1) s1 = if 100000 < (wU (sN k s1)).1 then none else (wU (sN k s1)).2) := Lib.hid ⟨rfl, rfl⟩
      generalize wU (sN k s1) = q at U hu HNN
      obtain ⟨u, s2⟩ := q
      dsimp only at U hu HNN
      have hu' : (u : Int) ≤ 18446744073709551615 := by omega
      have hu0 : (0 : Int) ≤ (u : Int) := by omega
      have hk0 : (0 : Int) ≤ (k : Int) := by omega
      have hk3' : (k : Int) < 3 := by omega
      have hwk : IntKind.i64.wrap ((k : Int) + 1) = (k : Int) + 1 := IntWalk.i64_in _ (by omega)
      have HDC : Hid (some N ≠ some C) := Lib.hid (by have := HDN.out; have := HI.out.1.o2; simp; omega)
      by_cases hb : 100000 < u
      · have e1 : (100000 : Int) < (u : Int) := by omega
        have hmn : min (u : Int) 100000 = 100000 := by omega
        have HV : Hid (nN k s1 = 100000 ∧ sN (k + 1) s1 = none) := Lib.hid ⟨by rw [HNN.out.1]; omega, by rw [HNN.out.2, if_pos hb]⟩
        clear HNN hb hu
        go_upto_region 10 with (go_at_call 100; refine U.out.mono ?_; rintro e w6 ⟨rfl, hP, hg⟩)
        have M6 := Lib.hid (HI.out.1.reads hP hg)
        have N6 := Lib.hid (HI.out.2.grown hg HDC.out)
        have F := Lib.hid (rfail_any C s2 w6 hP)
        clear hP hg U
        go_upto_region 11 with (go_at_call 101; refine F.out.mono ?_; rintro e w7 ⟨rfl, hP, hg⟩)
        have M7 := Lib.hid (M6.out.reads hP hg)
        have N7 := Lib.hid (N6.out.grown hg HDC.out)
        clear hP hg F M6 N6
        have M8 := Lib.hid (M7.out.other (grown_set (World.grownBy.refl w7 (some N)) k (.int .i64 100000)) (fun j e => by cases e; exact HDN.out))
        have N8 := N7.out.put k (.int .i64 100000)
        rw [show ((100000 : Int)) = nN k s1 from HV.out.1.symm, HNX.out] at N8
        have HF := Lib.hid N8
        have fN := N7.out.fr k
        obtain ⟨cN, hcN⟩ : ∃ v, w7.cell? ⟨N, k, none⟩ = some v := ⟨_, (N7.out.cell k).trans (Array.getElem?_eq_getElem (by simp [arN]; omega))⟩
        clear N8
        go_wp2_with fail
        go_roundw
        case rel => exact ⟨k + 1, by omega, by go_num, Lib.hid ⟨by rw [HV.out.2]; exact M8.out, by rw [← HV.out.1]; exact HF.out⟩⟩
        case measure => simp [intOf]; omega
      · have e1 : ¬ ((100000 : Int) < (u : Int)) := by omega
        have hmn : min (u : Int) 100000 = (u : Int) := by omega
        have hwu : IntKind.i64.wrap (u : Int) = (u : Int) := IntWalk.i64_in _ (by omega)
        have HV : Hid (nN k s1 = (u : Int) ∧ sN (k + 1) s1 = s2) := Lib.hid ⟨by rw [HNN.out.1]; omega, by rw [HNN.out.2, if_neg hb]⟩
        clear HNN hb hu
        go_upto_region 11 with (go_at_call 100; refine U.out.mono ?_; rintro e w7 ⟨rfl, hP, hg⟩)
        have M7 := Lib.hid (HI.out.1.reads hP hg)
        have N7 := Lib.hid (HI.out.2.grown hg HDC.out)
        clear hP hg U
        have M8 := Lib.hid (M7.out.other (grown_set (World.grownBy.refl w7 (some N)) k (.int .i64 (u : Int))) (fun j e => by cases e; exact HDN.out))
        have N8 := N7.out.put k (.int .i64 (u : Int))
        rw [show ((u : Int)) = nN k s1 from HV.out.1.symm, HNX.out] at N8
        have HF := Lib.hid N8
        have fN := N7.out.fr k
        obtain ⟨cN, hcN⟩ : ∃ v, w7.cell? ⟨N, k, none⟩ = some v := ⟨_, (N7.out.cell k).trans (Array.getElem?_eq_getElem (by simp [arN]; omega))⟩
        clear N8
        go_wp2_with fail
        go_roundw
        case rel => exact ⟨k + 1, by omega, by go_num, Lib.hid ⟨by rw [HV.out.2]; exact M8.out, by rw [← HV.out.1]; exact HF.out⟩⟩
        case measure => simp [intOf]; omega
    · obtain rfl : k = 3 := by omega
      rw [show (((3 : Nat)) : Int) = 3 from rfl]
      have n0 : wr.cell? ⟨N, 0, none⟩ = some (.int .i64 (nN 0 s1)) := by have := HI.out.2.cell 0; simpa [arN] using this
      have n1 : wr.cell? ⟨N, 1, none⟩ = some (.int .i64 (nN 1 s1)) := by have := HI.out.2.cell 1; simpa [arN] using this
      have n2 : wr.cell? ⟨N, 2, none⟩ = some (.int .i64 (nN 2 s1)) := by have := HI.out.2.cell 2; simpa [arN] using this
      have HN2 := Lib.hid HI.out.2
      obtain ⟨⟨d0, d1, d2, d3⟩, f0, f1, f2, f3⟩ := whole4 HI.out.1.d
      have HR01 := Lib.hid (And.intro (nN_le 0 s1) (And.intro (nN_le 1 s1) (nN_le 2 s1)))
      obtain ⟨z, hz⟩ : ∃ z : Nat, z = (wN (sN 2 s1)).1 := ⟨_, rfl⟩
      have HZZ : Hid (nN 2 s1 = (z : Int)) := Lib.hid (by rw [hz]; rfl)
      rw [HZZ.out] at n2
      have HD0 : Hid (∀ (xs : List Sp) (s' : WS), (wSps (min z 8) (wS8 z (sN 3 s1))) = (xs, s') → decD l = (⟨nm, nN 0 s1, nN 1 s1, xs⟩, s')) := Lib.hid (fun xs s' e => by
        rw [hz] at e
        unfold decD
        rw [HNM.out.1, HNM.out.2] at *
        dsimp only
        show ((⟨_, _, _, (wSps (min (wN (sN 2 (wT (some l)).2)).1 8) (wS8 (wN (sN 2 (wT (some l)).2)).1 (sN 3 (wT (some l)).2))).1⟩ : Dv), (wSps (min (wN (sN 2 (wT (some l)).2)).1 8) (wS8 (wN (sN 2 (wT (some l)).2)).1 (sN 3 (wT (some l)).2))).2) = _
        rw [e]
        rfl)
      clear hz
      generalize nN 0 s1 = r0 at *
      generalize nN 1 s1 = dl0 at *
      go_upto_region 13 with fail
      go_cut [] from 36 (fun wx => Hid (DecM w wx C D (sN 3 s1) #[.string nm, .int .i64 r0, .int .i64 dl0, .slice none 0 0] ∧ Whole wx N 223 (arN 3 s1)))
      case first =>
        have M1 : Hid (DecM w ((wr.setCell ⟨D, 1, none⟩ (.int .i64 r0)).setCell ⟨D, 2, none⟩ (.int .i64 dl0)) C D (sN 3 s1) #[.string nm, .int .i64 r0, .int .i64 dl0, .slice none 0 0]) := Lib.hid (by simpa using (HI.out.1.put 1 (.int .i64 r0)).put 2 (.int .i64 dl0))
        have M2 : Hid (DecM w ((wr.setCell ⟨D, 2, none⟩ (.int .i64 dl0)).setCell ⟨D, 1, none⟩ (.int .i64 r0)) C D (sN 3 s1) #[.string nm, .int .i64 r0, .int .i64 dl0, .slice none 0 0]) := Lib.hid (by simpa using (HI.out.1.put 2 (.int .i64 dl0)).put 1 (.int .i64 r0))
        have k1 : (wr.setCell ⟨D, 1, none⟩ (.int .i64 r0)).cell? ⟨N, 1, none⟩ = some (.int .i64 dl0) := gcell n1 (grown_set (World.grownBy.refl wr (some D)) 1 _) (by have := HDN.out; simp; omega)
        have k2 : (wr.setCell ⟨D, 2, none⟩ (.int .i64 dl0)).cell? ⟨N, 0, none⟩ = some (.int .i64 r0) := gcell n0 (grown_set (World.grownBy.refl wr (some D)) 2 _) (by have := HDN.out; simp; omega)
        clear HI
        have NA : Hid (Whole ((wr.setCell ⟨D, 1, none⟩ (.int .i64 r0)).setCell ⟨D, 2, none⟩ (.int .i64 dl0)) N 223 (arN 3 s1)) := Lib.hid (HN2.out.grown (grown_set (grown_set (World.grownBy.refl wr (some D)) 1 _) 2 _) (by have := HDN.out; simp; omega))
        have NB : Hid (Whole ((wr.setCell ⟨D, 2, none⟩ (.int .i64 dl0)).setCell ⟨D, 1, none⟩ (.int .i64 r0)) N 223 (arN 3 s1)) := Lib.hid (HN2.out.grown (grown_set (grown_set (World.grownBy.refl wr (some D)) 2 _) 1 _) (by have := HDN.out; simp; omega))
        go_region
        all_goals
          go_wp2_with fail
          go_meet
          case rel => first | exact Lib.hid ⟨M1.out.keep (Below.refl _ _).drew, NA.out⟩ | exact Lib.hid ⟨M2.out.keep (Below.refl _ _).drew, NB.out⟩
      case rest =>
        clear HI n0 n1 n2 d0 d1 d2 d3 f0 f1 f2 f3
        have n2 : wc.cell? ⟨N, 2, none⟩ = some (.int .i64 (z : Int)) := by have := hcut.out.2.cell 2; rw [← HZZ.out]; simpa [arN] using this
        have hz0 : (z : Int) ≤ 100000 := by have := HR01.out.2.2; rw [HZZ.out] at this; omega
        obtain ⟨g8, hg8⟩ : ∃ g8 : Bool, g8 = decide (8 < z) := ⟨_, rfl⟩
        have hgt : decide ((8 : Int) < (z : Int)) = g8 := by rw [hg8]; exact decide_eq_decide.2 (by omega)
        have HG8 := Lib.hid hg8
        clear hg8
        go_upto_if 38 with fail
        go_cut [] from 41 (fun wx => Hid (DecM w wx C D (wS8 z (sN 3 s1)) #[.string nm, .int .i64 r0, .int .i64 dl0, .slice none 0 0] ∧ Whole wx N 223 (arN 3 s1)))
        case first =>
          clear hgt
          cases g8 with
          | true =>
            have h8 : 8 < z := of_decide_eq_true HG8.out.symm
            have F := Lib.hid (rfail_any C (sN 3 s1) wc hcut.out.1.rd)
            have HW8 := Lib.hid (show wS8 z (sN 3 s1) = none from if_pos h8)
            clear h8
            go_wp2_with (go_at_call 101; refine F.out.mono ?_; rintro e w6 ⟨rfl, hP, hg⟩)
            go_meet
            case rel => exact Lib.hid ⟨by rw [HW8.out]; exact hcut.out.1.reads hP hg, hcut.out.2.grown hg (by have := HDN.out; have := hcut.out.1.o2; simp; omega)⟩
          | false =>
            have h8 : ¬ 8 < z := of_decide_eq_false HG8.out.symm
            have HW8 := Lib.hid (show wS8 z (sN 3 s1) = sN 3 s1 from if_neg h8)
            clear h8
            go_wp2_with fail
            go_meet
            case rel => exact Lib.hid ⟨by rw [HW8.out]; exact hcut.out.1, hcut.out.2⟩
        case rest =>
          clear n2
          have HC2 := hcut
          clear hcut
          generalize wc = wd at HC2 ⊢
          have n2 : wd.cell? ⟨N, 2, none⟩ = some (.int .i64 (z : Int)) := by have := HC2.out.2.cell 2; rw [← HZZ.out]; simpa [arN] using this
          obtain ⟨m, hm⟩ : ∃ m : Nat, m = min z 8 := ⟨_, rfl⟩
          have hmin : min (z : Int) 8 = (m : Int) := by omega
          have hm8 : m ≤ 8 := by omega
          obtain ⟨s4, hs4⟩ : ∃ s4, s4 = wS8 z (sN 3 s1) := ⟨_, rfl⟩
          rw [← hm, ← hs4] at HD0
          have J0 : Hid (DecM w wd C D (wSps 0 s4).2 #[.string nm, .int .i64 r0, .int .i64 dl0, .slice none 0 0] ∧ wd.ownsRow wd.heap.size 53 2 (.slice none 0 0) 0 ((wSps 0 s4).1.flatMap stC) ∧ wd.heap.size ≤ wd.heap.size) := Lib.hid ⟨by rw [hs4]; exact HC2.out.1, ⟨rfl, Or.inl ⟨rfl, rfl⟩⟩, Nat.le_refl _⟩
          have HDB : Hid (D < wd.heap.size) := Lib.hid HC2.out.1.d.lt
          clear hm hs4 HC2
          go_wp2_with fail
          go_loopw [44] (fun i wr => ∃ (j : Nat) (v : Value), j ≤ m ∧ i = .int .i64 j ∧ Hid (DecM w wr C D (wSps j s4).2 #[.string nm, .int .i64 r0, .int .i64 dl0, v] ∧ wr.ownsRow wd.heap.size 53 2 v j ((wSps j s4).1.flatMap stC) ∧ wd.heap.size ≤ wr.heap.size)) (fun i _ => m - (intOf i).toNat)
          case atStart => exact ⟨0, _, by omega, rfl, J0⟩
          case round =>
            clear J0 n2
            obtain ⟨j, v, hj, rfl, HJ⟩ := hrel
            by_cases hjm : j < m
            · have hj0 : (0 : Int) ≤ (j : Int) := by omega
              have hjm' : (j : Int) < (m : Int) := by omega
              have hwj : IntKind.i64.wrap ((j : Int) + 1) = (j : Int) + 1 := IntWalk.i64_in _ (by omega)
              have T := Lib.hid (rtext_any C (wSps j s4).2 wr HJ.out.1.rd)
              obtain ⟨ky, hky⟩ : ∃ ky : ByteArray, ky = ⟨(wT (wSps j s4).2).1.toArray⟩ := ⟨_, rfl⟩
              obtain ⟨st2, hst2⟩ : ∃ st2, st2 = (wT (wSps j s4).2).2 := ⟨_, rfl⟩
              obtain ⟨iv, hiv⟩ : ∃ iv, iv = (wI st2).1 := ⟨_, rfl⟩
              obtain ⟨st3, hst3⟩ : ∃ st3, st3 = (wI st2).2 := ⟨_, rfl⟩
              have HNX : Hid (wSps (j + 1) s4 = ((wSps j s4).1 ++ [⟨ky, iv⟩], st3)) := Lib.hid (by rw [wSps_succ, hst3, hiv, hst2, hky]; rfl)
              have HIV := Lib.hid (And.intro hiv.symm hst3.symm)
              rw [← hky, ← hst2] at T
              clear hky hst2 hiv hst3
              go_upto_region 19 with (go_at_call 60; refine T.out.mono ?_; rintro e w6 ⟨rfl, hP, hg⟩; have M6 := Lib.hid (And.intro ((HJ.out.1.reads hP hg).keep (Below.refl _ w6).drew) (And.intro ((HJ.out.2.1.kept hg (Or.inr (fun e => by have h1 := (HJ.out.2.1.lt C e).1; have h2 := HDB.out; have h3 := HJ.out.1.o2; omega))).drew) (show wd.heap.size ≤ w6.drew.heap.size from Nat.le_trans HJ.out.2.2 hg.size))); clear hP hg)
              have c6 : w6.drew.cell? ⟨D, 3, none⟩ = some v := M6.out.1.d.cell 3
              have I := Lib.hid (rint_any C st2 w6.drew M6.out.1.rd)
              rw [HIV.out.1, HIV.out.2] at I
              clear T
              refine wp_region_held_drew (S := fun _ => True) (by kernel_rfl) trivial (fun hHeld => ?_)
              refine wpAnyH_take (i := 0) (v := ?_) rfl (by kernel_rfl) (by kernel_rfl) (by kernel_rfl) (fun _ _ _ h => h) (Or.inl ⟨by rfl, ?_⟩) (by assumption) ?_
              rotate_left
              · intro w hSw
                go_simp
                try with_reducible rfl
              simp only [Act.put, List.getElem_toArray, List.getElem_cons_zero, List.setIfInBounds_toArray, List.set_cons_zero, List.set_cons_succ]
              refine wpAnyH_take (i := 2) (v := ?_) rfl (by kernel_rfl) (by kernel_rfl) (by kernel_rfl) (fun _ _ _ h => h) (Or.inl ⟨by rfl, ?_⟩) (by assumption) ?_
              rotate_left
              · intro w hSw
                go_simp
                try with_reducible rfl
              simp only [Act.put, List.getElem_toArray, List.getElem_cons_succ, List.getElem_cons_zero, List.setIfInBounds_toArray, List.set_cons_zero, List.set_cons_succ]
              refine wpAnyH_take (i := 3) (v := ?_) rfl (by kernel_rfl) (by kernel_rfl) (by kernel_rfl) (fun _ _ _ h => h) (Or.inl ⟨by rfl, ?_⟩) (by assumption) ?_
              rotate_left
              · intro w hSw
                go_simp
                try with_reducible rfl
              simp only [Act.put, List.getElem_toArray, List.getElem_cons_succ, List.getElem_cons_zero, List.setIfInBounds_toArray, List.set_cons_zero, List.set_cons_succ]
              refine wpAnyH_ready (rs := [1, 4]) (by kernel_rfl) (by simp) ?_
              refine AllReadyH.cons rfl (fun K hK => ?_) (AllReadyH.cons rfl (fun K hK => ?_) AllReadyH.nil)
              · go_simp
                refine hK.out _ _ ?_ (fun hHeld' => ?_)
                · trivial
                clear hK K hHeld
                have hHeld := hHeld'
                clear hHeld'
                try simp only [Act.put, List.getElem_toArray, List.getElem_cons_succ, List.getElem_cons_zero, List.setIfInBounds_toArray, List.set_cons_zero, List.set_cons_succ]
                refine wpAnyH_ready (rs := [4]) (by kernel_rfl) (by simp) ?_
                refine AllReadyH.cons rfl (fun K hK => ?_) AllReadyH.nil
                go_simp
                refine I.out.mono ?_
                rintro e w7 ⟨rfl, hP, hg⟩
                obtain ⟨c7, c8, A', c', w8, R, c9, f9, HZ⟩ := dec_pack M6.out.1 M6.out.2.1 HDB.out M6.out.2.2 hP hg (by omega) ky iv
                clear hP hg
                try go_wp2_with fail
                refine hK.out _ _ ?_ (fun hHeld' => ?_)
                · trivial
                clear hK K hHeld
                have hHeld := hHeld'
                clear hHeld'
                try simp only [Act.put, List.getElem_toArray, List.getElem_cons_succ, List.getElem_cons_zero, List.setIfInBounds_toArray, List.set_cons_zero, List.set_cons_succ]
                refine wpAnyH_take (i := 5) (v := ?_) rfl (by kernel_rfl) (by kernel_rfl) (by kernel_rfl) (fun _ _ _ h => h) (Or.inl ⟨by rfl, ?_⟩) (by assumption) ?_
                rotate_left
                · intro w hSw
                  go_simp
                  try with_reducible rfl
                simp only [Act.put, List.getElem_toArray, List.getElem_cons_succ, List.getElem_cons_zero, List.setIfInBounds_toArray, List.set_cons_zero, List.set_cons_succ]
                refine wpAnyH_ready (rs := [6]) (by kernel_rfl) (by simp) ?_
                refine AllReadyH.cons rfl (fun K hK => ?_) AllReadyH.nil
                go_simp
                refine hK.out _ _ ?_ (fun hHeld' => ?_)
                · trivial
                clear hK K hHeld
                have hHeld := hHeld'
                clear hHeld'
                try simp only [Act.put, List.getElem_toArray, List.getElem_cons_succ, List.getElem_cons_zero, List.setIfInBounds_toArray, List.set_cons_zero, List.set_cons_succ]
                refine wpAnyH_ready (rs := [7]) (by kernel_rfl) (by simp) ?_
                refine AllReadyH.cons rfl (fun K hK => ?_) AllReadyH.nil
                refine step_append_run (by rfl) (.tmp 49) (.tmp 54) 29 29 (by rfl) (by rfl) (by rfl) R.out ?_
                refine hK.out _ _ ?_ (fun hHeld' => ?_)
                · trivial
                clear hK K hHeld
                have hHeld := hHeld'
                clear hHeld'
                try simp only [Act.put, List.getElem_toArray, List.getElem_cons_succ, List.getElem_cons_zero, List.setIfInBounds_toArray, List.set_cons_zero, List.set_cons_succ]
                refine wpAnyH_take (i := 8) (v := ?_) rfl (by kernel_rfl) (by kernel_rfl) (by kernel_rfl) (fun _ _ _ h => h) (Or.inl ⟨by rfl, ?_⟩) (by assumption) ?_
                rotate_left
                · intro w hSw
                  go_simp
                  try with_reducible rfl
                simp only [Act.put, List.getElem_toArray, List.getElem_cons_succ, List.getElem_cons_zero, List.setIfInBounds_toArray, List.set_cons_zero, List.set_cons_succ]
                refine wpAnyH_ready (rs := [9]) (by kernel_rfl) (by simp) ?_
                refine AllReadyH.cons rfl (fun K hK => ?_) AllReadyH.nil
                go_simp
                refine hK.out _ _ ?_ (fun hHeld' => ?_)
                · trivial
                clear hK K hHeld
                have hHeld := hHeld'
                clear hHeld'
                try simp only [Act.put, List.getElem_toArray, List.getElem_cons_succ, List.getElem_cons_zero, List.setIfInBounds_toArray, List.set_cons_zero, List.set_cons_succ]
                refine wpAnyH_done (by kernel_rfl) ?_ _
                clear hHeld R c6 c7 c8 c9 f9 I
                go_wp2_with fail
                go_roundw
                case rel => exact ⟨j + 1, _, by omega, by go_num, Lib.hid ⟨by rw [HNX.out]; exact HZ.out.1, by rw [HNX.out, List.flatMap_append]; exact HZ.out.2.1, HZ.out.2.2⟩⟩
                case measure => simp [intOf]; omega
              · go_simp
                refine I.out.mono ?_
                rintro e w7 ⟨rfl, hP, hg⟩
                obtain ⟨c7, c8, A', c', w8, R, c9, f9, HZ⟩ := dec_pack M6.out.1 M6.out.2.1 HDB.out M6.out.2.2 hP hg (by omega) ky iv
                clear hP hg
                try go_wp2_with fail
                refine hK.out _ _ ?_ (fun hHeld' => ?_)
                · trivial
                clear hK K hHeld
                have hHeld := hHeld'
                clear hHeld'
                try simp only [Act.put, List.getElem_toArray, List.getElem_cons_succ, List.getElem_cons_zero, List.setIfInBounds_toArray, List.set_cons_zero, List.set_cons_succ]
                refine wpAnyH_take (i := 5) (v := ?_) rfl (by kernel_rfl) (by kernel_rfl) (by kernel_rfl) (fun _ _ _ h => h) (Or.inl ⟨by rfl, ?_⟩) (by assumption) ?_
                rotate_left
                · intro w hSw
                  go_simp
                  try with_reducible rfl
                simp only [Act.put, List.getElem_toArray, List.getElem_cons_succ, List.getElem_cons_zero, List.setIfInBounds_toArray, List.set_cons_zero, List.set_cons_succ]
                refine wpAnyH_ready (rs := [1, 6]) (by kernel_rfl) (by simp) ?_
                refine AllReadyH.cons rfl (fun K hK => ?_) (AllReadyH.cons rfl (fun K hK => ?_) AllReadyH.nil)
                · go_simp
                  refine hK.out _ _ ?_ (fun hHeld' => ?_)
                  · trivial
                  clear hK K hHeld
                  have hHeld := hHeld'
                  clear hHeld'
                  try simp only [Act.put, List.getElem_toArray, List.getElem_cons_succ, List.getElem_cons_zero, List.setIfInBounds_toArray, List.set_cons_zero, List.set_cons_succ]
                  refine wpAnyH_ready (rs := [6]) (by kernel_rfl) (by simp) ?_
                  refine AllReadyH.cons rfl (fun K hK => ?_) AllReadyH.nil
                  go_simp
                  refine hK.out _ _ ?_ (fun hHeld' => ?_)
                  · trivial
                  clear hK K hHeld
                  have hHeld := hHeld'
                  clear hHeld'
                  try simp only [Act.put, List.getElem_toArray, List.getElem_cons_succ, List.getElem_cons_zero, List.setIfInBounds_toArray, List.set_cons_zero, List.set_cons_succ]
                  refine wpAnyH_ready (rs := [7]) (by kernel_rfl) (by simp) ?_
                  refine AllReadyH.cons rfl (fun K hK => ?_) AllReadyH.nil
                  refine step_append_run (by rfl) (.tmp 49) (.tmp 54) 29 29 (by rfl) (by rfl) (by rfl) R.out ?_
                  refine hK.out _ _ ?_ (fun hHeld' => ?_)
                  · trivial
                  clear hK K hHeld
                  have hHeld := hHeld'
                  clear hHeld'
                  try simp only [Act.put, List.getElem_toArray, List.getElem_cons_succ, List.getElem_cons_zero, List.setIfInBounds_toArray, List.set_cons_zero, List.set_cons_succ]
                  refine wpAnyH_take (i := 8) (v := ?_) rfl (by kernel_rfl) (by kernel_rfl) (by kernel_rfl) (fun _ _ _ h => h) (Or.inl ⟨by rfl, ?_⟩) (by assumption) ?_
                  rotate_left
                  · intro w hSw
                    go_simp
                    try with_reducible rfl
                  simp only [Act.put, List.getElem_toArray, List.getElem_cons_succ, List.getElem_cons_zero, List.setIfInBounds_toArray, List.set_cons_zero, List.set_cons_succ]
                  refine wpAnyH_ready (rs := [9]) (by kernel_rfl) (by simp) ?_
                  refine AllReadyH.cons rfl (fun K hK => ?_) AllReadyH.nil
                  go_simp
                  refine hK.out _ _ ?_ (fun hHeld' => ?_)
                  · trivial
                  clear hK K hHeld
                  have hHeld := hHeld'
                  clear hHeld'
                  try simp only [Act.put, List.getElem_toArray, List.getElem_cons_succ, List.getElem_cons_zero, List.setIfInBounds_toArray, List.set_cons_zero, List.set_cons_succ]
                  refine wpAnyH_done (by kernel_rfl) ?_ _
                  clear hHeld R c6 c7 c8 c9 f9 I
                  go_wp2_with fail
                  go_roundw
                  case rel => exact ⟨j + 1, _, by omega, by go_num, Lib.hid ⟨by rw [HNX.out]; exact HZ.out.1, by rw [HNX.out, List.flatMap_append]; exact HZ.out.2.1, HZ.out.2.2⟩⟩
                  case measure => simp [intOf]; omega
                · go_simp
                  refine hK.out _ _ ?_ (fun hHeld' => ?_)
                  · trivial
                  clear hK K hHeld
                  have hHeld := hHeld'
                  clear hHeld'
                  try simp only [Act.put, List.getElem_toArray, List.getElem_cons_succ, List.getElem_cons_zero, List.setIfInBounds_toArray, List.set_cons_zero, List.set_cons_succ]
                  refine wpAnyH_ready (rs := [1]) (by kernel_rfl) (by simp) ?_
                  refine AllReadyH.cons rfl (fun K hK => ?_) AllReadyH.nil
                  go_simp
                  refine hK.out _ _ ?_ (fun hHeld' => ?_)
                  · trivial
                  clear hK K hHeld
                  have hHeld := hHeld'
                  clear hHeld'
                  try simp only [Act.put, List.getElem_toArray, List.getElem_cons_succ, List.getElem_cons_zero, List.setIfInBounds_toArray, List.set_cons_zero, List.set_cons_succ]
                  refine wpAnyH_ready (rs := [7]) (by kernel_rfl) (by simp) ?_
                  refine AllReadyH.cons rfl (fun K hK => ?_) AllReadyH.nil
                  refine step_append_run (by rfl) (.tmp 49) (.tmp 54) 29 29 (by rfl) (by rfl) (by rfl) R.out ?_
                  refine hK.out _ _ ?_ (fun hHeld' => ?_)
                  · trivial
                  clear hK K hHeld
                  have hHeld := hHeld'
                  clear hHeld'
                  try simp only [Act.put, List.getElem_toArray, List.getElem_cons_succ, List.getElem_cons_zero, List.setIfInBounds_toArray, List.set_cons_zero, List.set_cons_succ]
                  refine wpAnyH_take (i := 8) (v := ?_) rfl (by kernel_rfl) (by kernel_rfl) (by kernel_rfl) (fun _ _ _ h => h) (Or.inl ⟨by rfl, ?_⟩) (by assumption) ?_
                  rotate_left
                  · intro w hSw
                    go_simp
                    try with_reducible rfl
                  simp only [Act.put, List.getElem_toArray, List.getElem_cons_succ, List.getElem_cons_zero, List.setIfInBounds_toArray, List.set_cons_zero, List.set_cons_succ]
                  refine wpAnyH_ready (rs := [9]) (by kernel_rfl) (by simp) ?_
                  refine AllReadyH.cons rfl (fun K hK => ?_) AllReadyH.nil
                  go_simp
                  refine hK.out _ _ ?_ (fun hHeld' => ?_)
                  · trivial
                  clear hK K hHeld
                  have hHeld := hHeld'
                  clear hHeld'
                  try simp only [Act.put, List.getElem_toArray, List.getElem_cons_succ, List.getElem_cons_zero, List.setIfInBounds_toArray, List.set_cons_zero, List.set_cons_succ]
                  refine wpAnyH_done (by kernel_rfl) ?_ _
                  clear hHeld R c6 c7 c8 c9 f9 I
                  go_wp2_with fail
                  go_roundw
                  case rel => exact ⟨j + 1, _, by omega, by go_num, Lib.hid ⟨by rw [HNX.out]; exact HZ.out.1, by rw [HNX.out, List.flatMap_append]; exact HZ.out.2.1, HZ.out.2.2⟩⟩
                  case measure => simp [intOf]; omega
            · obtain rfl : j = m := by omega
              obtain ⟨xs, hxs⟩ : ∃ xs, xs = (wSps j s4).1 := ⟨_, rfl⟩
              obtain ⟨se, hse⟩ : ∃ se, se = (wSps j s4).2 := ⟨_, rfl⟩
              have HDD := Lib.hid (HD0.out xs se (by rw [hxs, hse]))
              have hxl : xs.length = j := by rw [hxs, wSps_len]
              have hxz : ∀ p ∈ xs, SpZ p := by rw [hxs]; exact wSps_z j s4
              rw [← hxs, ← hse] at HJ
              clear hxs hse HD0
              obtain ⟨A9, c9, rfl, hc9⟩ := own_slice2 HJ.out.2.1
              have HDA : Hid (DefAt wr A9 j c9 ⟨nm, r0, dl0, xs⟩) := Lib.hid ⟨hxl, hc9, by omega, ⟨by show nm.size ≤ _; omega, by have := HR01.out.1; dsimp only; omega, by have := HR01.out.2.1; dsimp only; omega, fun i p hi => hxz p (List.mem_of_getElem? hi)⟩, slD_own HJ.out.2.1 hxl⟩
              have CK := Lib.hid (defCheck_any _ A9 j c9 wr HDA.out)
              have EN := Lib.hid (rend_any C se wr HJ.out.1.rd)
              have hAnb : ∀ a : Addr, A9 = some a → w.heap.size ≤ a.block := fun a ha => by
                have h1 := (HJ.out.2.1.lt a.block (by rw [ha]; rfl)).1
                have h2 := HDB.out
                have h3 := HJ.out.1.o2
                have h4 := HJ.out.1.o1
                omega
              have HAB := Lib.hid hAnb
              have hAne : ∀ a : Addr, A9 = some a → xs ≠ [] → some a.block ≠ some w.heap.size := fun a ha _ e => by
                have h1 := (HJ.out.2.1.lt a.block (by rw [ha]; rfl)).1
                have h2 := HDB.out
                have h3 := HJ.out.1.o2
                have h4 := HJ.out.1.o1
                injection e with e; omega
              have HAN := Lib.hid hAne
              have HMM := Lib.hid HJ.out.1
              unfold dV at CK
              obtain ⟨⟨d0, d1, d2, d3⟩, _⟩ := whole4 HJ.out.1.d
              clear HJ hxl hxz hAne hAnb hc9
              by_cases he : wEnd se = 0
              · rw [he] at EN
                by_cases hok : defOk ⟨nm, r0, dl0, xs⟩
                · rw [ckD_yes hok] at CK
                  have PR : Hid (DecR l ⟨nm, r0, dl0, xs⟩ 0) := Lib.hid (by have h := decD_ok (b := l) (by rw [HDD.out]; exact he) (by rw [HDD.out]; exact hok); rw [HDD.out] at h; exact h)
                  clear he hok
                  go_upto_if 65 with (first
                    | (go_at_call 49; refine EN.out.mono ?_; rintro e w8 ⟨rfl, rfl⟩)
                    | (go_at_call 183; refine CK.out.mono ?_; rintro e w9 ⟨rfl, hb9⟩))
                  have B9 := Lib.hid hb9
                  have M9 := Lib.hid (HMM.out.keep hb9)
                  obtain ⟨⟨r0', r1', r2', r3'⟩, s0, s1', s2', s3'⟩ := whole4 M9.out.r
                  obtain ⟨⟨d0, d1, d2, d3⟩, _⟩ := whole4 M9.out.d
                  have hRl := M9.out.r.lt
                  clear hb9
                  go_wp2_with fail
                  refine bodyPost_ret (v := .tuple #[.agg #[.string nm, .int .i64 r0, .int .i64 dl0, .slice A9 j c9], .int .i64 0]) ?_ rfl ?_
                  · simp [results, Tryz.results187, go_sem, r0', r1', r2', r3']
                  · exact ⟨⟨⟨nm, r0, dl0, xs⟩, A9, j, c9, 0, rfl, PR.out, (HDA.out.keep B9.out).grown (put4_grown _ _ _ _ _ _) (fun a ea hne => HAN.out a ea hne), HAB.out⟩, ((((M9.out.b.setCell (p := ⟨w.heap.size, 0, none⟩) (Nat.le_refl _) _).setCell (p := ⟨w.heap.size, 1, none⟩) (Nat.le_refl _) _).setCell (p := ⟨w.heap.size, 2, none⟩) (Nat.le_refl _) _).setCell (p := ⟨w.heap.size, 3, none⟩) (Nat.le_refl _) _)⟩
                · rw [ckD_no hok] at CK
                  have PR : Hid (DecR l zeroD 10) := Lib.hid (decD_bad (b := l) (fun h => hok (by have := h.2; rw [HDD.out] at this; exact this)))
                  clear he hok
                  go_upto_if 65 with (first
                    | (go_at_call 49; refine EN.out.mono ?_; rintro e w8 ⟨rfl, rfl⟩)
                    | (go_at_call 183; refine CK.out.mono ?_; rintro e w9 ⟨rfl, hb9⟩))
                  have M9 := Lib.hid (HMM.out.keep hb9)
                  obtain ⟨⟨r0', r1', r2', r3'⟩, s0, s1', s2', s3'⟩ := whole4 M9.out.r
                  have hRl := M9.out.r.lt
                  clear hb9
                  go_wp2_with fail
                  refine bodyPost_ret (v := .tuple #[.agg #[.string ⟨#[]⟩, .int .i64 0, .int .i64 0, .slice none 0 0], .int .i64 10]) ?_ rfl ?_
                  · simp [results, Tryz.results187, go_sem, r0', r1', r2', r3']
                  · exact ⟨⟨zeroD, none, 0, 0, 10, rfl, PR.out, defAt_zero _, (fun a ea => by cases ea)⟩, ((((M9.out.b.setCell (p := ⟨w.heap.size, 0, none⟩) (Nat.le_refl _) _).setCell (p := ⟨w.heap.size, 1, none⟩) (Nat.le_refl _) _).setCell (p := ⟨w.heap.size, 2, none⟩) (Nat.le_refl _) _).setCell (p := ⟨w.heap.size, 3, none⟩) (Nat.le_refl _) _)⟩
              · have he10 : wEnd se = 10 := by unfold wEnd at he ⊢; split at he <;> simp_all
                have PR : Hid (DecR l zeroD 10) := Lib.hid (decD_bad (b := l) (fun h => he (by have := h.1; rw [HDD.out] at this; exact this)))
                rw [he10] at EN
                clear he he10
                obtain ⟨⟨r0', r1', r2', r3'⟩, s0, s1', s2', s3'⟩ := whole4 HMM.out.r
                have hRl := HMM.out.r.lt
                go_upto_if 65 with (first
                  | (go_at_call 49; refine EN.out.mono ?_; rintro e w8 ⟨rfl, rfl⟩))
                go_wp2_with fail
                refine bodyPost_ret (v := .tuple #[.agg #[.string ⟨#[]⟩, .int .i64 0, .int .i64 0, .slice none 0 0], .int .i64 10]) ?_ rfl ?_
                · simp [results, Tryz.results187, go_sem, r0', r1', r2', r3']
                · exact ⟨⟨zeroD, none, 0, 0, 10, rfl, PR.out, defAt_zero _, (fun a ea => by cases ea)⟩, ((((HMM.out.b.setCell (p := ⟨w.heap.size, 0, none⟩) (Nat.le_refl _) _).setCell (p := ⟨w.heap.size, 1, none⟩) (Nat.le_refl _) _).setCell (p := ⟨w.heap.size, 2, none⟩) (Nat.le_refl _) _).setCell (p := ⟨w.heap.size, 3, none⟩) (Nat.le_refl _) _)⟩
theorem decode_any (A : Option Addr) (n c : Nat) (l : List UInt8) (w : World) (h : SlB w A n l) (hn : n ≤ 1000000000000) :
    Calls Tryz.prog 187 #[.slice A n c] w fun e w' => DecodeR l w w' e := (decode_new A n c l w h hn).mono (fun _ _ h => h.any)
end Go.Proofs.YtgjnmfmbheejoaaGreatDoor
