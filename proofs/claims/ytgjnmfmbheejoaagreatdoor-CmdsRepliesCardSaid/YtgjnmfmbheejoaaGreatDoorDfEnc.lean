/- The bytes of a definition, by the program. Condition: the texts are no longer than an int can say. -/
import Derived.Test.YtgjnmfmbheejoaaGreatDoorDfRck
import Derived.Test.YtgjnmfmbheejoaaGreatDoorWrt2
import Derived.Deep.Onto
namespace Go.Proofs.YtgjnmfmbheejoaaGreatDoor
open Go.RowKit Go.Shelf

/-- What Encode answers. -/
def EncR (w w' : World) (d : Dv) (e : Ending) : Prop :=
  (defOk d ∧ ∃ v, e = .returned (.tuple #[v, .int .i64 0]) ∧ w'.ownsRow w.heap.size 5 1 v (bytesD d).length (bV (bytesD d))) ∨ (¬ defOk d ∧ e = .returned (.tuple #[.slice none 0 0, .int .i64 15]))
theorem txB_len (s : List UInt8) (h : s.length ≤ 65536) : (txB s).length ≤ 10 + s.length := by
  have := uvB_len10 (n := s.length) (by omega)
  unfold txB; rw [List.length_append]; omega
theorem spB_len {p : Sp} (h : stOk p = true) : (spB p).length ≤ 40 := by
  obtain ⟨h1, _, h3, h4⟩ := stOk_parts h
  have hl := (isName_len h1).2.1
  have := txB_len p.k.data.toList (by omega)
  have := uvB_len10 (zig_lt (a := p.v) (by omega) (by omega))
  unfold spB; rw [List.length_append]; omega
/-- The bytes ahead of the steps, and those of the first steps. -/
def numsD (d : Dv) : List Nat := [d.r.toNat, d.dl.toNat, d.s.length]
def preD (d : Dv) (k : Nat) : List UInt8 := txB d.n.data.toList ++ ((numsD d).take k).flatMap uvB
def bysD (d : Dv) (k : Nat) : List UInt8 := preD d 3 ++ (d.s.take k).flatMap spB
theorem preD_next {d : Dv} {k m : Nat} (h : (numsD d)[k]? = some m) : preD d k ++ uvB m = preD d (k + 1) := by
  unfold preD
  rw [List.take_add_one, h]
  simp
theorem bysD_next {d : Dv} {k : Nat} {p : Sp} (h : d.s[k]? = some p) : bysD d k ++ spB p = bysD d (k + 1) := by
  unfold bysD
  rw [List.take_add_one, h]
  simp
theorem bysD_all (d : Dv) : bysD d d.s.length = bytesD d := by
  unfold bysD preD bytesD numsD
  rw [List.take_length]
  simp
theorem bysD_zero (d : Dv) : bysD d 0 = preD d 3 := by unfold bysD; simp
theorem preD_zero (d : Dv) : preD d 0 = [] ++ txB d.n.data.toList := by unfold preD; simp
theorem defOk_hd {d : Dv} (h : defOk d) : hdOk d := ⟨h.1, ⟨h.2.1, h.2.2.1⟩, ⟨h.2.2.2.1, h.2.2.2.2.1⟩, h.2.2.2.2.2.1, h.2.2.2.2.2.2.1⟩
theorem numsD_len {d : Dv} (h : hdOk d) (k : Nat) : (((numsD d).take k).flatMap uvB).length ≤ 30 := by
  obtain ⟨_, h2, h3, _, h5⟩ := h
  have a := uvB_len10 (n := d.r.toNat) (by omega)
  have b := uvB_len10 (n := d.dl.toNat) (by omega)
  have c := uvB_len10 (n := d.s.length) (by omega)
  unfold numsD
  match k with
  | 0 => simp
  | 1 => simp; omega
  | 2 => simp; omega
  | k + 3 => simp; omega
theorem preD_len {d : Dv} (h : hdOk d) (k : Nat) : (preD d k).length ≤ 60 := by
  have h1 := (isName_len h.1).2.1
  have := txB_len d.n.data.toList (by omega)
  have := numsD_len h k
  unfold preD; rw [List.length_append]; omega
theorem steps_len : ∀ (s : List Sp), (∀ p ∈ s, stOk p = true) → (s.flatMap spB).length ≤ 40 * s.length
  | [], _ => by simp
  | p :: s, h => by
    have := spB_len (h p (by simp))
    have := steps_len s (fun q hq => h q (by simp [hq]))
    rw [List.flatMap_cons, List.length_append, List.length_cons]; omega
theorem bysD_len {d : Dv} (h : defOk d) (k : Nat) : (bysD d k).length ≤ 400 := by
  have h0 := preD_len (defOk_hd h) 3
  have h1 := steps_len (d.s.take k) (fun p hp => h.2.2.2.2.2.2.2.all (List.mem_of_mem_take hp))
  have h2 := h.2.2.2.2.2.2.1
  have h3 : (d.s.take k).length ≤ d.s.length := by rw [List.length_take]; omega
  unfold bysD; rw [List.length_append]; omega
set_option maxRecDepth 100000 in
set_option maxHeartbeats 8000000 in
theorem defEncode_any (d : Dv) (A : Option Addr) (n c : Nat) (w : World) (h : DefAt w A n c d) :
    Calls Tryz.prog 185 #[dV d A n c] w fun e w' => EncR w w' d e ∧ Below w.heap.size w w' := by
  have b1 := (Below.refl w.heap.size w).alloc (Nat.le_refl _) (.cells #[.string d.n, .int .i64 d.r, .int .i64 d.dl, .slice A n c] 31)
  have CK := Lib.hid (defCheck_any d A n c _ (h.keep b1))
  have HW0 := Lib.hid (Whole.new w 31 #[.string d.n, .int .i64 d.r, .int .i64 d.dl, .slice A n c])
  have HB := Lib.hid b1
  have H := Lib.hid h
  have hbig := h.big
  unfold dV at CK ⊢
  clear h b1
  by_cases hok : defOk d
  case neg =>
    rw [ckD_no hok] at CK
    have HN := Lib.hid hok
    clear hok
    go_enter Tryz.func185, Tryz.ntmps185
    go_wp2_with (go_at_call 183; refine CK.out.mono ?_; rintro e w1 ⟨rfl, hb⟩)
    go_ret2
    exact ⟨Or.inr ⟨HN.out, rfl⟩, HB.out.trans (hb.mono HB.out.size)⟩
  rw [ckD_yes hok] at CK
  have HOK := Lib.hid hok
  have HL := Lib.hid H.out.len
  have hnl : d.n.size ≤ 1000000000 := by have := (isName_len hok.1).2.1; rw [Lib.size_eq]; omega
  obtain ⟨_, r0, r1, t0, t1, n1, n8, _⟩ := id hok
  rw [HL.out] at n1 n8
  clear hok
  go_enter Tryz.func185, Tryz.ntmps185
  go_upto_region 4 with (go_at_call 183; refine CK.out.mono ?_; rintro e w1 ⟨rfl, hb⟩)
  have BW := Lib.hid (HB.out.trans (hb.mono HB.out.size))
  have HW1 := Lib.hid (HW0.out.keep hb)
  clear CK hb HW0 HB
  have HT := Lib.hid (wtext_any w1.heap.size w1.heap.size d.n [] _ (WrP.new w1 (Nat.le_refl _)) hnl (by simp))
  have BN := (Below.refl _ w1).alloc (Nat.le_refl _) (.cells #[.bool true, .slice none 0 0] 164)
  have x0 := (HW1.out.keep BN).cell 0
  simp only [List.getElem?_toArray, List.getElem?_cons_zero] at x0
  go_upto_region 6 with (first
    | (go_at_call 62; refine (wnew_any _).mono ?_; rintro e w2 ⟨rfl, rfl⟩)
    | (go_at_call 65; refine HT.out.mono ?_; rintro e w3 ⟨rfl, hP3, hK3⟩))
  have B3 := Lib.hid (BN.trans hK3.1)
  have HP3 := Lib.hid hP3
  have X := HW1.out.keep B3.out
  have x1 := X.cell 1
  have x2 := X.cell 2
  have x3 := X.cell 3
  simp only [List.getElem?_toArray, List.getElem?_cons_succ, List.getElem?_cons_zero] at x1 x2 x3
  clear X BN hP3 hK3 x0 HT
  have hlt := HW1.out.lt
  have hC3 := HP3.out.lt
  go_wp2_with fail
  have BA := (Below.refl _ w3).alloc (Nat.le_refl _) (.cells #[.int .i64 d.r, .int .i64 d.dl, .int .i64 (n : Int)] 3)
  have NA := Whole.new w3 3 #[.int .i64 d.r, .int .i64 d.dl, .int .i64 (n : Int)]
  have P0 := HP3.out.keep BA
  have B0 := B3.out.trans (BA.mono (by have := B3.out.size; exact this))
  rw [← preD_zero] at P0
  have I0 := Lib.hid (And.intro P0 (And.intro B0 NA))
  generalize hwa : w3.alloc (.cells #[.int .i64 d.r, .int .i64 d.dl, .int .i64 (n : Int)] 3) = wa at I0 ⊢
  clear hwa BA NA P0 B0 x1 x2 x3 B3 HP3
  generalize hb3 : w3.heap.size = b3 at *
  clear hb3
  have HNUM : Hid (∀ k, k < 3 → ∃ m : Nat, (numsD d)[k]? = some m ∧ (#[Value.int .i64 d.r, .int .i64 d.dl, .int .i64 (n : Int)] : Array Value)[k]? = some (.int .i64 (m : Int)) ∧ m ≤ 1000000) := Lib.hid (fun k hk => by
    match k with
    | 0 => exact ⟨d.r.toNat, rfl, by rw [Int.toNat_of_nonneg r0]; rfl, by omega⟩
    | 1 => exact ⟨d.dl.toNat, rfl, by rw [Int.toNat_of_nonneg t0]; rfl, by omega⟩
    | 2 => exact ⟨d.s.length, rfl, by rw [HL.out]; rfl, by rw [HL.out]; omega⟩)
  have HPL := Lib.hid (fun k => preD_len (defOk_hd HOK.out) k)
  clear r0 r1 t0 t1
  go_loopw [29] (fun i wr => ∃ k : Nat, k ≤ 3 ∧ i = .int .i64 k ∧ Hid (WrP wr w1.heap.size w1.heap.size (preD d k) ∧ Below w1.heap.size w1 wr ∧ Whole wr b3 3 #[.int .i64 d.r, .int .i64 d.dl, .int .i64 (n : Int)])) (fun i _ => 3 - (intOf i).toNat)
  case atStart => exact ⟨0, by omega, rfl, I0⟩
  case round =>
    clear I0
    obtain ⟨k, hk, rfl, HI⟩ := hrel
    by_cases hk3 : k < 3
    · obtain ⟨m, hm, hcell, hmb⟩ := HNUM.out k hk3
      rw [← HI.out.2.2.cell] at hcell
      have U := Lib.hid (uint_any w1.heap.size w1.heap.size m (preD d k) wr HI.out.1 (by omega) (by have := HPL.out k; omega))
      have hwm : IntKind.u64.wrap (m : Int) = (m : Int) := by rw [IntKind.wrap_u64]; omega
      have HN := Lib.hid (preD_next hm)
      have hk0 : (0 : Int) ≤ (k : Int) := by omega
      have hkn : (k : Int) < 3 := by omega
      clear hm
      go_wp2_with (go_at_call 63; refine U.out.mono ?_; rintro e w5 ⟨rfl, hP5, hK5⟩)
      go_roundw
      case rel => exact ⟨k + 1, by omega, by go_num, Lib.hid ⟨by rw [← HN.out]; exact hP5, HI.out.2.1.trans hK5.1, hK5.whole HI.out.2.2 (by decide) (by rintro rfl; exact absurd rfl (whole_ne HI.out.2.2 (show Whole wr w1.heap.size 164 _ from HI.out.1.2.choose_spec.1) (by decide)))⟩⟩
      case measure => simp [intOf]; omega
    · obtain rfl : k = 3 := by omega
      rw [show ((3 : Nat) : Int) = 3 from rfl]
      obtain ⟨wo, hwo⟩ : ∃ wo, wo = wr := ⟨_, rfl⟩
      subst hwo
      have x3 := (HW1.out.below HI.out.2.1 hlt).cell 3
      simp only [List.getElem?_toArray, List.getElem?_cons_succ, List.getElem?_cons_zero] at x3
      have J0 : Hid (WrP wo w1.heap.size w1.heap.size (bysD d 0) ∧ Below w1.heap.size w1 wo) := Lib.hid ⟨by rw [bysD_zero]; exact HI.out.1, HI.out.2.1⟩
      have HBL := Lib.hid (fun k => bysD_len HOK.out k)
      clear HI HNUM
      go_wp2_with fail
      go_loopw [41] (fun i wr => ∃ k : Nat, k ≤ n ∧ i = .int .i64 k ∧ Hid (WrP wr w1.heap.size w1.heap.size (bysD d k) ∧ Below w1.heap.size w1 wr)) (fun i _ => n - (intOf i).toNat)
      case atStart => exact ⟨0, by omega, rfl, J0⟩
      case round =>
        clear J0 x3
        obtain ⟨k, hk, rfl, HI⟩ := hrel
        by_cases hkn : k < n
        · obtain ⟨p, hp⟩ : ∃ p, d.s[k]? = some p := ⟨_, List.getElem?_eq_getElem (by rw [HL.out]; exact hkn)⟩
          have BT := BW.out.trans (HI.out.2.mono (by have := hlt; omega))
          obtain ⟨g, o, rfl, y0, y1⟩ := H.out.s.keep BT k p hp
          have hst := HOK.out.2.2.2.2.2.2.2.all (List.mem_of_getElem? hp)
          obtain ⟨hq1, _, hq3, hq4⟩ := stOk_parts hst
          have hkl : p.k.size ≤ 1000000000 := by have := (isName_len hq1).2.1; rw [Lib.size_eq]; omega
          have BA := (Below.refl _ wr).alloc (Nat.le_refl _) (.cells #[.string p.k, .int .i64 p.v] 53)
          have T := Lib.hid (wtext_any w1.heap.size w1.heap.size p.k (bysD d k) _ (HI.out.1.keep BA) hkl (by have := HBL.out k; omega))
          have NA := Lib.hid (Whole.new wr 53 #[.string p.k, .int .i64 p.v])
          have HN := Lib.hid (bysD_next hp)
          have HV := Lib.hid (And.intro hq3 hq4)
          have HTL : Hid ((bysD d k ++ txB p.k.data.toList).length ≤ 1000) := Lib.hid (by
            have h1 := HBL.out k
            have h2 := txB_len p.k.data.toList (by have := (isName_len hq1).2.1; omega)
            have h3 := (isName_len hq1).2.1
            rw [List.length_append]; omega)
          have HBA := Lib.hid BA
          have hk0 : (0 : Int) ≤ (k : Int) := by omega
          have hkn' : (k : Int) < (n : Int) := by omega
          have hwk : IntKind.i64.wrap ((k : Int) + 1) = (k : Int) + 1 := IntWalk.i64_in _ (by omega)
          have hwrC : wr.heap.size ≠ w1.heap.size := by have := HI.out.1.lt; omega
          clear hp BT hst hq1 hq3 hq4 BA
          go_upto_region 15 with (go_at_call 65; refine T.out.mono ?_; rintro e w5 ⟨rfl, hP5, hK5⟩)
          have NS := hK5.whole NA.out (by decide) hwrC
          have q1 := NS.cell 1
          simp only [List.getElem?_toArray, List.getElem?_cons_succ, List.getElem?_cons_zero] at q1
          have T2 := Lib.hid (wint_any w1.heap.size w1.heap.size p.v _ w5 hP5 (by have := HV.out.1; omega) (by have := HV.out.2; omega) (by have := HTL.out; omega))
          have HK5 := Lib.hid hK5
          clear NS hP5 hK5
          go_wp2_with (go_at_call 64; refine T2.out.mono ?_; rintro e w6 ⟨rfl, hP6, hK6⟩)
          go_roundw
          case rel => exact ⟨k + 1, by omega, by go_num, Lib.hid ⟨by rw [← HN.out]; unfold spB; rw [← List.append_assoc]; exact hP6, (HI.out.2.trans ((HBA.out.mono (by have := HI.out.1.lt; omega)).trans HK5.out.1)).trans hK6.1⟩⟩
          case measure => simp [intOf]; omega
        · obtain rfl : k = n := by omega
          have F := Lib.hid (wbytes_any w1.heap.size w1.heap.size _ wr HI.out.1 (by have := HBL.out k; omega))
          have HE := Lib.hid ((congrArg (bysD d) HL.out).symm.trans (bysD_all d))
          have BT := Lib.hid (BW.out.trans (HI.out.2.mono (by have := hlt; omega)))
          clear HI
          go_wp2_with (go_at_call 127; refine F.out.mono ?_; rintro e w7 ⟨⟨v7, rfl, ho7⟩, hB7⟩)
          go_ret2
          refine ⟨Or.inl ⟨HOK.out, _, rfl, ?_⟩, BT.out.trans (hB7.mono BT.out.size)⟩
          rw [HE.out] at ho7
          exact ho7.mono (by exact BT.out.size)
end Go.Proofs.YtgjnmfmbheejoaaGreatDoor
