/- DefnOrder returns true at every definition and every turn. Conditions: as the statement's own. -/
import Derived.Test.YtgeljnjcpkmlmaaGreatDoorDfV
import Derived.Test.YtgeljnjcpkmlmaaGreatDoorDfWrk
import Derived.Test.YtgeljnjcpkmlmaaGreatDoorDfShort
import Derived.WalkLawsBesides
namespace Go.Proofs.YtgeljnjcpkmlmaaGreatDoor
open Go.RowKit Go.Shelf

theorem stp_eq (p q : Sp) (W : World) : (binOp .eql 37 (.agg #[.string p.k, .int .i64 p.v]) (.agg #[.string q.k, .int .i64 q.v])).run Tryz.prog W = .ok (.bool (eqS p q)) W := by
  unfold eqS
  cases h1 : (p.k.toList == q.k.toList) <;> cases h2 : (p.v == q.v) <;> go_simp
/-- What Keys or Net answers of a valid definition. -/
theorem LstR.yes {w w' : World} {T : TypeId} {f : Sp → Value} {d : Dv} {n : Nat} {e : Ending} (h : LstR w w' T f d e) (hok : defOk d) (hl : d.s.length = n) : ∃ A c, e = .returned (.tuple #[.slice A n c, .int .i64 0]) ∧ SlF w' f A (srtD d.s) := by
  obtain ⟨A, m, c, h1, h2, h3⟩ := h.val
  rw [ckD_yes hok] at h1
  rw [kyL_yes hok] at h2 h3
  rw [srtD_len, hl] at h2
  subst h2
  exact ⟨A, c, h1, h3⟩
theorem cut_stepsF (A : Option Addr) (n c lo : Nat) (h1 : lo ≤ n) (w : World) : (Instr.slice 22 (.slice A n c) (some (.int .i64 (lo : Int))) none none).run Tryz.prog w = .ok (sliced A lo n c 2) w := by
  have hs : (sizeOf (Tryz.prog.elem 22)).run Tryz.prog w = .ok 2 w := by kernel_rfl
  have hu : Tryz.prog.underlying 22 = some (.slice (Tryz.prog.elem 22)) := by kernel_rfl
  rw [run_slice_l w 22 A n c hu .i64 (lo : Int) (by omega) (by omega), hs]
  rfl
theorem slD_drop {w : World} {A : Option Addr} {n c k : Nat} {s : List Sp} (h : SlD w A s) (hl : s.length = n) (hk : k < n) (hc : n ≤ c) : ∃ A', sliced A k n c 2 = .slice A' (n - k) (c - k) ∧ SlD w A' (s.drop k) := by
  obtain ⟨p, hp⟩ : ∃ p, s[0]? = some p := ⟨_, List.getElem?_eq_getElem (by omega)⟩
  obtain ⟨g, o, rfl, _⟩ := h 0 p hp
  refine ⟨_, rfl, fun i q hi => ?_⟩
  rw [List.getElem?_drop] at hi
  obtain ⟨g', o', e, c0, c1⟩ := h (k + i) q hi
  cases e
  have hne : ¬ c = k := by omega
  refine ⟨g, o + k * 2, ?_, ?_, ?_⟩
  · rw [if_neg hne]
    simp only [Option.map_some, Addr.add]
    split
    · rename_i e; rw [e]; rfl
    · rfl
  · rw [show o + k * 2 + i * 2 = o + (k + i) * 2 by omega]; exact c0
  · rw [show o + k * 2 + i * 2 + 1 = o + (k + i) * 2 + 1 by omega]; exact c1
theorem slD_take {w : World} {A : Option Addr} {k : Nat} {s : List Sp} (h : SlD w A s) : SlD w A (s.take k) := fun i p hi => by
  rw [List.getElem?_take] at hi
  split at hi
  · exact h i p hi
  · cases hi
theorem rot_ok {d : Dv} {k : Nat} (h : defOk d) : defOk { d with s := rotD k d.s } := by
  obtain ⟨h1, h2, h3, h4, h5, h6, h7, h8⟩ := h
  have hp := rotD_perm k d.s
  exact ⟨h1, h2, h3, h4, h5, by dsimp only; rw [hp.length_eq]; exact h6, by dsimp only; rw [hp.length_eq]; exact h7, h8.perm hp⟩
theorem rot_eq {d : Dv} {k : Nat} (h : defOk d) (hk : k < d.s.length) : ({ d with s := rotD k d.s } : Dv) = d ↔ k = 0 := by
  constructor
  · intro e
    by_cases h0 : k = 0
    · exact h0
    · exact absurd (congrArg Dv.s e) (rotD_ne h.2.2.2.2.2.2.2.keys (by omega) hk)
  · rintro rfl
    rw [rotD_zero]
/-- Does a step stand among the first ones? -/
def inK (s : List Sp) (k : Nat) (p : Sp) : Prop := ∃ (j : Nat) (q : Sp), j < k ∧ s[j]? = some q ∧ q = p
set_option maxRecDepth 100000 in
set_option maxHeartbeats 4000000 in
theorem defnOrder_any (d : Dv) (A : Option Addr) (n c : Nat) (t8 : UInt8) (w : World) (hl : d.s.length = n) (hnc : n ≤ c) (hn : n ≤ 9223372036854775807) (hz : DefZ d) (hs : SlD w A d.s) (hE : DfE w) :
    Calls Tryz.prog 10 #[dV d A n c, .int .u8 (t8.toNat : Int)] w fun e w' => e = .returned (.bool true) ∧ Below w.heap.size w w' := by
  have mixed : Tryz.prog.follows Departure.mixedOrders = true := by kernel_rfl
  have b1 := (Below.refl w.heap.size w).alloc (Nat.le_refl _) (.cells #[.string d.n, .int .i64 d.r, .int .i64 d.dl, .slice A n c] 24)
  have SH := Lib.hid (short_any d A n c _ hl hn hz (hs.keep b1))
  have HW0 := Lib.hid (Whole.new w 24 #[.string d.n, .int .i64 d.r, .int .i64 d.dl, .slice A n c])
  have HB := Lib.hid b1
  have HA := Lib.hid (fun (W : World) (hb : Below w.heap.size w W) (hS : ShortD d) => (show DefAt W A n c d from ⟨hl, hnc, by have := hS.1; omega, hz, hs.keep hb⟩))
  have WK := Lib.hid (fun (W : World) (hb : Below w.heap.size w W) => works_any W (hE.keep hb))
  have HL := Lib.hid (And.intro hl hnc)
  have HZ := Lib.hid hz
  unfold dV at SH
  clear b1 hE hz hs hnc hn hl
  unfold dV
  go_enter Tryz.func10, Tryz.ntmps10
  go_upto_if 21 with (first
    | (go_at_call 11; refine SH.out.mono ?_; rintro e w1 ⟨⟨b, rfl, hb⟩, hB⟩; have B1 := Lib.hid (HB.out.trans (hB.mono HB.out.size)); have W1 := Lib.hid (HW0.out.keep hB); have HSh := Lib.hid hb; clear hb hB; cases b))
  · have W1f := Lib.hid (WK.out w1 B1.out)
    go_wp2_with (go_at_call 12; refine W1f.out.mono ?_; rintro e w2 ⟨rfl, hB2⟩)
    go_ret
    exact ⟨rfl, B1.out.trans (hB2.mono B1.out.size)⟩
  have HS := Lib.hid (HSh.out trivial)
  have KY := Lib.hid (keys_any d A n c w1 (HA.out w1 B1.out HS.out))
  have NT := Lib.hid (fun (W : World) (hb : Below w.heap.size w W) => net_any d A n c W (HA.out W hb HS.out))
  unfold dV at KY NT
  obtain ⟨y0, y1, y2, y3⟩ := def_cells W1.out
  clear HSh SH HW0 HB
  by_cases hok : defOk d
  case neg =>
    have KY2 := Lib.hid (KY.out.mono (fun e w' ⟨h, hb⟩ => And.intro (h.resolve_left (fun h => hok h.1)).2 hb))
    have NT2 := Lib.hid (fun W hb => (NT.out W hb).mono (fun e w' ⟨h, hb⟩ => And.intro (h.resolve_left (fun h => hok h.1)).2 hb))
    have CK := Lib.hid (fun (W : World) (hb : Below w.heap.size w W) => defCheck_any d A n c W (HA.out W hb HS.out))
    rw [ckD_no hok] at CK
    unfold dV at CK
    clear hok KY NT
    go_upto_region 4 with (go_at_call 13; refine KY2.out.mono ?_; rintro e w2 ⟨rfl, hB⟩; have B2 := Lib.hid (B1.out.trans (hB.mono B1.out.size)); have W2 := Lib.hid (W1.out.keep hB); clear hB)
    have NT3 := Lib.hid (NT2.out w2 B2.out)
    clear y0 y1 y2 y3
    obtain ⟨y0, y1, y2, y3⟩ := def_cells W2.out
    go_upto_region 5 with (go_at_call 15; refine NT3.out.mono ?_; rintro e w3 ⟨rfl, hB⟩; have B3 := Lib.hid (B2.out.trans (hB.mono B2.out.size)); have W3 := Lib.hid (W2.out.keep hB); clear hB)
    clear y0 y1 y2 y3
    obtain ⟨y0, y1, y2, y3⟩ := def_cells W3.out
    have CK := Lib.hid (CK.out w3 B3.out)
    go_wp2_with (first
      | (go_at_call 25; refine CK.out.mono ?_; rintro e w4 ⟨rfl, hB⟩; have B4 := Lib.hid (B3.out.trans (hB.mono B3.out.size)); have WF := Lib.hid (WK.out w4 B4.out); clear hB)
      | (go_at_call 12; refine WF.out.mono ?_; rintro e w5 ⟨rfl, hB5⟩))
    go_ret
    exact ⟨rfl, B4.out.trans (hB5.mono B4.out.size)⟩
  have KY2 := Lib.hid (KY.out.mono (fun e w' ⟨h, hb⟩ => And.intro (h.yes hok HL.out.1) hb))
  have NT2 := Lib.hid (fun W hb => (NT.out W hb).mono (fun e w' ⟨h, hb⟩ => And.intro (h.yes hok HL.out.1) hb))
  have HOK := Lib.hid hok
  have hn1 : 1 ≤ n ∧ n ≤ 8 := by rw [← HL.out.1]; exact ⟨hok.2.2.2.2.2.1, hok.2.2.2.2.2.2.1⟩
  obtain ⟨hn1, hn8⟩ := hn1
  clear hok KY NT
  go_upto_region 4 with (go_at_call 13; refine KY2.out.mono ?_; rintro e w2 ⟨⟨L3, k3, rfl, hf3⟩, hB⟩; have B2 := Lib.hid (B1.out.trans (hB.mono B1.out.size)); have W2 := Lib.hid (W1.out.keep hB); have F3 := Lib.hid hf3; clear hB hf3)
  have NT3 := Lib.hid (NT2.out w2 B2.out)
  clear y0 y1 y2 y3
  obtain ⟨y0, y1, y2, y3⟩ := def_cells W2.out
  go_upto_region 5 with (go_at_call 15; refine NT3.out.mono ?_; rintro e w3 ⟨⟨L4, k4, rfl, hf4⟩, hB⟩; have B3 := Lib.hid (B2.out.trans (hB.mono B2.out.size)); have W3 := Lib.hid (W2.out.keep hB); have F4 := Lib.hid (And.intro (F3.out.keep hB) hf4); clear hB hf4)
  clear y0 y1 y2 y3 KY2 NT2 NT3 F3 W1 W2 B1 B2
  obtain ⟨y0, y1, y2, y3⟩ := def_cells W3.out
  have hnn : ((n : Int) != (n : Int)) = false := by simp
  have hn0 : ((n : Int) == 0) = false := by rw [beq_eq_false_iff_ne]; omega
  have HSL := Lib.hid (show (srtD d.s).length = n by rw [srtD_len, HL.out.1])
  go_upto_if 78 with fail
  clear y0 y1 y2 y3 hnn hn0
  go_wp2_with fail
  go_loopw [9] (fun i wr => ∃ k : Nat, k ≤ n ∧ i = .int .i64 k ∧ Hid (Below w3.heap.size w3 wr)) (fun i _ => n - (intOf i).toNat)
  case atStart => exact ⟨0, by omega, rfl, Lib.hid (Below.refl _ _)⟩
  case round =>
    obtain ⟨k, hk, rfl, HI⟩ := hrel
    by_cases hkn : k < n
    · obtain ⟨p, hp⟩ : ∃ p, (srtD d.s)[k]? = some p := ⟨_, List.getElem?_eq_getElem (by rw [HSL.out]; exact hkn)⟩
      have HIN : Hid (inK d.s n p) := Lib.hid (by
        have hm := (srtD_perm d.s).mem_iff.1 (List.mem_of_getElem? hp)
        obtain ⟨j, hj⟩ := List.getElem?_of_mem hm
        exact ⟨j, p, by have := (List.getElem?_eq_some_iff.1 hj).1; rw [HL.out.1] at this; exact this, hj, rfl⟩)
      have HPP := Lib.hid hp
      have hk0 : (0 : Int) ≤ (k : Int) := by omega
      have hkn' : (k : Int) < (n : Int) := by omega
      have hwk : IntKind.i64.wrap ((k : Int) + 1) = (k : Int) + 1 := IntWalk.i64_in _ (by omega)
      obtain ⟨wo, hwo⟩ : ∃ wo, wo = wr := ⟨_, rfl⟩
      subst hwo
      have HI0 := Lib.hid HI.out
      have J0 : Hid ((false = true ↔ inK d.s 0 p) ∧ Below w3.heap.size w3 wo) := Lib.hid ⟨⟨(fun h => by cases h), fun ⟨j, q, h, _⟩ => absurd h (by omega)⟩, HI.out⟩
      clear hp HI
      go_upto_region 13 with fail
      go_wp2_with fail
      go_loopw [10, 11] (fun f i wr => ∃ (fb : Bool) (j : Nat), j ≤ n ∧ f = .bool fb ∧ i = .int .i64 j ∧ Hid ((fb = true ↔ inK d.s j p) ∧ Below w3.heap.size w3 wr)) (fun _ i _ => n - (intOf i).toNat)
      case atStart => exact ⟨false, 0, by omega, rfl, rfl, J0⟩
      case round =>
        clear J0
        obtain ⟨fb, j, hj, rfl, rfl, HJ⟩ := hrel
        obtain ⟨y0, y1, y2, y3⟩ := def_cells (W3.out.keep HJ.out.2)
        by_cases hjn : j < n
        · obtain ⟨q, hq⟩ : ∃ q, d.s[j]? = some q := ⟨_, List.getElem?_eq_getElem (by rw [HL.out.1]; exact hjn)⟩
          obtain ⟨g, o, rfl, z0, z1⟩ := (HA.out wr (B3.out.trans (HJ.out.2.mono B3.out.size)) HS.out).s j q hq
          obtain ⟨g3, rfl, z3⟩ := F4.out.1.keep HJ.out.2 k p HPP.out
          obtain ⟨g4, rfl, z4⟩ := F4.out.2.keep HJ.out.2 k p HPP.out
          unfold strV at z3
          unfold dlV at z4
          have heq := fun W => stp_eq q p W
          have hj0 : (0 : Int) ≤ (j : Int) := by omega
          have hjn' : (j : Int) < (n : Int) := by omega
          have hwj : IntKind.i64.wrap ((j : Int) + 1) = (j : Int) + 1 := IntWalk.i64_in _ (by omega)
          have HQ := Lib.hid hq
          clear hq
          cases fb with
          | true =>
            have HT : Hid ((true = true ↔ inK d.s (j + 1) p)) := Lib.hid ⟨fun _ => by obtain ⟨i, r, h1, h2, h3⟩ := HJ.out.1.1 rfl; exact ⟨i, r, by omega, h2, h3⟩, fun _ => rfl⟩
            go_upto_region 16 with fail
            go_quiet (fail)
            go_wp2_with fail
            go_roundw
            case rel => exact ⟨true, j + 1, by omega, rfl, by go_num, Lib.hid ⟨HT.out, b_drewN HJ.out.2 _⟩⟩
            case measure => simp [intOf]; omega
          | false =>
            obtain ⟨eb, heb⟩ : ∃ eb, eqS q p = eb := ⟨_, rfl⟩
            simp only [heb] at heq
            have HT : Hid ((eb = true ↔ inK d.s (j + 1) p)) := Lib.hid (by
              rw [← heb, eqS_iff]
              constructor
              · rintro rfl; exact ⟨j, q, by omega, HQ.out, rfl⟩
              · rintro ⟨i, r, h1, h2, rfl⟩
                by_cases e : i = j
                · subst e; rw [HQ.out] at h2; exact Option.some.inj h2
                · have := HJ.out.1.2 ⟨i, r, by omega, h2, rfl⟩; cases this)
            clear heb
            go_upto_region 16 with fail
            go_quiet (fail)
            go_wp2_with fail
            go_roundw
            case rel => exact ⟨eb, j + 1, by omega, rfl, by go_num, Lib.hid ⟨HT.out, b_drewN HJ.out.2 _⟩⟩
            case measure => simp [intOf]; omega
        · obtain rfl : j = n := by omega
          obtain rfl : fb = true := HJ.out.1.2 HIN.out
          have HJ2 := Lib.hid HJ.out.2
          obtain ⟨g3, rfl, z3⟩ := F4.out.1.keep HJ.out.2 k p HPP.out
          unfold strV at z3
          clear HJ
          rcases Nat.eq_zero_or_pos k with rfl | hkp
          · go_upto_region 17 with fail
            go_quiet (fail)
            go_wp2_with fail
            go_roundw
            case rel => exact ⟨0 + 1, by omega, by go_num, Lib.hid (b_drewN HJ2.out _)⟩
            case measure => simp [intOf]; omega
          · obtain ⟨i, hik⟩ : ∃ i, k = i + 1 := ⟨k - 1, by omega⟩
            obtain ⟨r, hr⟩ : ∃ r, (srtD d.s)[i]? = some r := ⟨_, List.getElem?_eq_getElem (by rw [HSL.out]; omega)⟩
            obtain ⟨g5, e5, z5⟩ := F4.out.1.keep HJ2.out i r hr
            cases e5
            unfold strV at z5
            have hlt : Op.bytesLess r.k.toList p.k.toList = true := srtD_asc HOK.out.2.2.2.2.2.2.2.keys hr (by rw [← hik]; exact HPP.out)
            have hlt1 : Op.bytesLess p.k.toList r.k.toList = false := by
              cases e : Op.bytesLess p.k.toList r.k.toList with
              | false => rfl
              | true => have := kLt_trans (a := r) (b := p) (c := r) hlt e; rw [kLt_irr] at this; cases this
            have hne0 : (p.k.toList == r.k.toList) = false := by
              rw [beq_eq_false_iff_ne]
              intro e
              rw [e] at hlt
              have h0 := kLt_irr r
              unfold kLt at h0
              rw [h0] at hlt; cases hlt
            have hne1 : (p.k.toList = r.k.toList) = False := by rw [beq_eq_false_iff_ne] at hne0; simp [hne0]
            have hi0 : (0 : Int) < (k : Int) := by omega
            have hi1 : (0 : Int) ≤ (i : Int) := by omega
            have hi2 : (i : Int) < (j : Int) := by omega
            have hi3 : IntKind.i64.wrap ((k : Int) - 1) = (i : Int) := by rw [show (k : Int) - 1 = (i : Int) by omega]; exact IntWalk.i64_in _ (by omega)
            clear hr hik
            go_upto_region 17 with fail
            go_quiet (fail)
            go_wp2_with fail
            go_roundw
            case rel => exact ⟨k + 1, by omega, by go_num, Lib.hid (b_drewN HJ2.out _)⟩
            case measure => simp [intOf]; omega
    · obtain rfl : k = n := by omega
      obtain ⟨kk, hkk⟩ : ∃ kk, kk = t8.toNat % k := ⟨_, rfl⟩
      have hkl : kk < k := by rw [hkk]; exact Nat.mod_lt _ (by omega)
      have ht8 := t8.toNat_lt
      have hwt : IntKind.i64.wrap (t8.toNat : Int) = (t8.toNat : Int) := IntWalk.i64_in _ (by omega)
      have htm : ((t8.toNat : Int)).tmod (k : Int) = (kk : Int) := by rw [Int.tmod_eq_emod_of_nonneg (by omega), hkk]; omega
      have hm1 : ((k : Int) == 0) = false := by rw [beq_eq_false_iff_ne]; omega
      have KI := Lib.hid HI.out
      obtain ⟨y0, y1, y2, y3⟩ := def_cells (W3.out.keep HI.out)
      clear hkk hkn hk HI
      go_upto_region 20 with fail
      clear hwt htm hm1 ht8
      go_upto_region 21 with fail
      have N6 := Lib.hid (Whole.new wr 24 #[.string d.n, .int .i64 d.r, .int .i64 d.dl, .slice A k c])
      have K6 := Lib.hid (KI.out.alloc KI.out.size (.cells #[.string d.n, .int .i64 d.r, .int .i64 d.dl, .slice A k c] 24))
      have HCW := Lib.hid (show w3.heap.size ≤ wr.heap.size from KI.out.size)
      clear y0 y1 y2 y3 KI
      generalize wr.alloc (.cells #[.string d.n, .int .i64 d.r, .int .i64 d.dl, .slice A k c] 24) = w6 at N6 K6 ⊢
      generalize wr.heap.size = C at N6 HCW ⊢
      have W6 := Lib.hid (W3.out.keep K6.out)
      have B6 := Lib.hid (B3.out.trans (K6.out.mono B3.out.size))
      have D6 := Lib.hid (HA.out w6 B6.out HS.out)
      obtain ⟨A', hA', hsd⟩ := slD_drop D6.out.s HL.out.1 hkl HL.out.2
      have hcF := fun W => cut_stepsF A k c kk (by omega) W
      rw [hA'] at hcF
      have hcT := fun W => cut_steps A k c kk (by have := HL.out.2; omega) W
      have bd := (Below.refl w6.heap.size w6).drew
      have ba := (Below.refl w6.drew.heap.size w6.drew).alloc (Nat.le_refl _) (.cells #[] 37)
      have bda : Below w6.heap.size w6 (w6.drew.alloc (.cells #[] 37)) := bd.trans ba
      have hlen1 : (d.s.drop kk).length = k - kk := by rw [List.length_drop, HL.out.1]
      have hlen2 : (d.s.take kk).length = kk := by rw [List.length_take, HL.out.1]; omega
      obtain ⟨v7, w7, hr7, ho7, hg7⟩ := run_app_srcD (w6.drew.alloc (.cells #[] 37)) A' (k - kk) (c - kk) (d.s.drop kk) (hsd.keep bda) hlen1 (by omega) (base := w6.drew.heap.size) (v := .slice (some ⟨w6.drew.heap.size, 0, none⟩) 0 0) (k := 0) (xs := []) (World.ownsRow_made _ _ _ (Nat.le_refl _) (Nat.zero_le _) rfl) (by omega) (by simp)
      have b7 := ba.grown hg7 ba.size (fun j e => by have h2 : w6.drew.heap.size = w6.heap.size := rfl; simp [Value.ownBlock] at e; omega)
      have b67 := bd.trans b7
      rw [Nat.zero_add, List.nil_append] at ho7
      obtain ⟨v8, w8, hr8, ho8, hg8⟩ := run_app_srcD w7 A kk c (d.s.take kk) (slD_take (D6.out.s.keep b67)) hlen2 (by omega) ho7 (by omega) b7.size
      have b8 := b67.grown hg8 b67.size (fun j e => (ho7.lt j e).1)
      rw [show k - kk + kk = k by omega, ← List.flatMap_append] at ho8
      obtain ⟨A8, c8, rfl, hc8⟩ := own_slice2 ho8
      have hCl := N6.out.lt
      have hneC : ∀ (W : World) (v : Value) xs m, W.ownsRow w6.drew.heap.size 37 2 v m xs → v.ownBlock = none ∨ v.ownBlock ≠ some C := fun W v xs m h => Or.inr (fun e => by have := (h.lt C e).1; have h2 : w6.drew.heap.size = w6.heap.size := rfl; omega)
      have N8 := (N6.out.keep b67).grown hg8 (fun e => (hneC _ _ _ _ ho7).elim (fun h => by rw [h] at e; cases e) (fun h => h e.symm))
      have cC := N8.cell 3
      simp only [List.getElem?_toArray, List.getElem?_cons_succ, List.getElem?_cons_zero] at cC
      have fC := N8.fr 3
      have g9 := grown_set (World.grownBy.refl w8 (some C)) 3 (.slice A8 k c8)
      have o9 := ho8.kept g9 (hneC _ _ _ _ ho8)
      have K8 := K6.out.trans (b8.mono K6.out.size)
      have K9 := Lib.hid (K8.grown g9 K8.size (fun j e => by cases e; exact HCW.out))
      have M9 := Lib.hid (show Whole (w8.setCell ⟨C, 3, none⟩ (.slice A8 k c8)) C 24 #[.string d.n, .int .i64 d.r, .int .i64 d.dl, .slice A8 k c8] by simpa using N8.put 3 (.slice A8 k c8))
      have hrl : (rotD kk d.s).length = k := by rw [(rotD_perm kk d.s).length_eq, HL.out.1]
      have D9 : Hid (DefAt (w8.setCell ⟨C, 3, none⟩ (.slice A8 k c8)) A8 k c8 { d with s := rotD kk d.s }) := Lib.hid ⟨hrl, hc8, by omega, ⟨HZ.out.n, HZ.out.r, HZ.out.dl, fun i p hp => by
        have hm := (rotD_perm kk d.s).mem_iff.1 (List.mem_of_getElem? hp)
        obtain ⟨j, hj⟩ := List.getElem?_of_mem hm
        exact HZ.out.s j p hj⟩, slD_own o9 hrl⟩
      obtain ⟨y0, y1, y2, y3⟩ := def_cells W6.out
      have SA : Hid (w6.drew.cell? ⟨w.heap.size, 3, none⟩ = some (.slice A k c)) := Lib.hid y3
      have SB := Lib.hid (bcell y3 bda)
      have SC := Lib.hid (bcell y3 b67)
      have SD := Lib.hid (bcell y3 b8)
      have SE := Lib.hid (gcell SD.out g9 (by have h1 := W3.out.lt; have h2 := HCW.out; simp; omega))
      have R1 := Lib.hid hr7
      have R2 := Lib.hid hr8
      have hk0 : (0 : Int) ≤ (kk : Int) := by omega
      clear hr7 ho7 hg7 hr8 ho8 hg8 b7 b67 b8 ba bd bda hsd hA' hlen1 hlen2 hneC N8 g9 o9 K8 hrl y0 y1 y2 y3 hc8 hCl
      refine wp_region_held_drew (S := fun wx => wx.cell? ⟨w.heap.size, 3, none⟩ = some (.slice A k c)) (by kernel_rfl) SA.out (fun hHeld => ?_)
      refine wpAnyH_take (i := 1) (v := ?_) rfl (by kernel_rfl) (by kernel_rfl) (by kernel_rfl) (fun _ _ _ h => h) (Or.inl ⟨by rfl, ?_⟩) (by assumption) ?_
      rotate_left
      · intro w hSw
        go_simp
        try with_reducible rfl
      simp only [Act.put, List.getElem_toArray, List.getElem_cons_succ, List.getElem_cons_zero, List.setIfInBounds_toArray, List.set_cons_zero, List.set_cons_succ]
      refine wpAnyH_take (i := 2) (v := ?_) rfl (by kernel_rfl) (by kernel_rfl) (by kernel_rfl) (fun _ _ _ h => h) (Or.inl ⟨by rfl, ?_⟩) (by assumption) ?_
      rotate_left
      · intro w hSw
        go_simp
        try with_reducible rfl
      simp only [Act.put, List.getElem_toArray, List.getElem_cons_succ, List.getElem_cons_zero, List.setIfInBounds_toArray, List.set_cons_zero, List.set_cons_succ]
      refine wpAnyH_take (i := 3) (v := ?_) rfl (by kernel_rfl) (by kernel_rfl) (by kernel_rfl) (fun _ _ _ h => h) (Or.inl ⟨by rfl, ?_⟩) (by assumption) ?_
      rotate_left
      · intro w hSw
        go_simp
        try with_reducible rfl
      simp only [Act.put, List.getElem_toArray, List.getElem_cons_succ, List.getElem_cons_zero, List.setIfInBounds_toArray, List.set_cons_zero, List.set_cons_succ]
      refine wpAnyH_take (i := 4) (v := ?_) rfl (by kernel_rfl) (by kernel_rfl) (by kernel_rfl) (fun _ _ _ h => h) (Or.inl ⟨by rfl, ?_⟩) (by assumption) ?_
      rotate_left
      · intro w hSw
        go_simp
        try with_reducible rfl
      simp only [Act.put, List.getElem_toArray, List.getElem_cons_succ, List.getElem_cons_zero, List.setIfInBounds_toArray, List.set_cons_zero, List.set_cons_succ]
      refine wpAnyH_take (i := 6) (v := ?_) rfl (by kernel_rfl) (by kernel_rfl) (by kernel_rfl) (fun _ _ _ h => h) (Or.inl ⟨by rfl, ?_⟩) (by assumption) ?_
      rotate_left
      · intro w hSw
        go_simp
        try with_reducible rfl
      simp only [Act.put, List.getElem_toArray, List.getElem_cons_succ, List.getElem_cons_zero, List.setIfInBounds_toArray, List.set_cons_zero, List.set_cons_succ]
      refine wpAnyH_take (i := 7) (v := ?_) rfl (by kernel_rfl) (by kernel_rfl) (by kernel_rfl) (fun _ _ _ h => h) (Or.inl ⟨by rfl, ?_⟩) (by assumption) ?_
      rotate_left
      · intro w hSw
        go_simp
        try with_reducible rfl
      simp only [Act.put, List.getElem_toArray, List.getElem_cons_succ, List.getElem_cons_zero, List.setIfInBounds_toArray, List.set_cons_zero, List.set_cons_succ]
      refine wpAnyH_take (i := 8) (v := ?_) rfl (by kernel_rfl) (by kernel_rfl) (by kernel_rfl) (fun _ _ _ h => h) (Or.inl ⟨by rfl, ?_⟩) (by assumption) ?_
      rotate_left
      · intro w hSw
        go_simp
        try with_reducible rfl
      simp only [Act.put, List.getElem_toArray, List.getElem_cons_succ, List.getElem_cons_zero, List.setIfInBounds_toArray, List.set_cons_zero, List.set_cons_succ]
      refine wpAnyH_take (i := 9) (v := ?_) rfl (by kernel_rfl) (by kernel_rfl) (by kernel_rfl) (fun _ _ _ h => h) (Or.inl ⟨by rfl, ?_⟩) (by assumption) ?_
      rotate_left
      · intro w hSw
        go_simp
        try with_reducible rfl
      simp only [Act.put, List.getElem_toArray, List.getElem_cons_succ, List.getElem_cons_zero, List.setIfInBounds_toArray, List.set_cons_zero, List.set_cons_succ]
      refine wpAnyH_ready (rs := [0]) (by kernel_rfl) (by simp) ?_
      refine AllReadyH.cons rfl (fun K hK => ?_) AllReadyH.nil
      go_simp
      refine hK.out _ _ ?_ (fun hHeld' => ?_)
      · exact SB.out
      clear hK K hHeld
      have hHeld := hHeld'
      clear hHeld'
      try simp only [Act.put, List.getElem_toArray, List.getElem_cons_succ, List.getElem_cons_zero, List.setIfInBounds_toArray, List.set_cons_zero, List.set_cons_succ]
      refine wpAnyH_ready (rs := [5]) (by kernel_rfl) (by simp) ?_
      refine AllReadyH.cons rfl (fun K hK => ?_) AllReadyH.nil
      refine step_append_run (by rfl) (.tmp 134) (.tmp 138) 22 22 (by rfl) (by rfl) (by rfl) R1.out ?_
      refine hK.out _ _ ?_ (fun hHeld' => ?_)
      · exact SC.out
      clear hK K hHeld
      have hHeld := hHeld'
      clear hHeld'
      try simp only [Act.put, List.getElem_toArray, List.getElem_cons_succ, List.getElem_cons_zero, List.setIfInBounds_toArray, List.set_cons_zero, List.set_cons_succ]
      refine wpAnyH_ready (rs := [10]) (by kernel_rfl) (by simp) ?_
      refine AllReadyH.cons rfl (fun K hK => ?_) AllReadyH.nil
      refine step_append_run (by rfl) (.tmp 139) (.tmp 143) 22 22 (by rfl) (by rfl) (by rfl) R2.out ?_
      refine hK.out _ _ ?_ (fun hHeld' => ?_)
      · exact SD.out
      clear hK K hHeld
      have hHeld := hHeld'
      clear hHeld'
      try simp only [Act.put, List.getElem_toArray, List.getElem_cons_succ, List.getElem_cons_zero, List.setIfInBounds_toArray, List.set_cons_zero, List.set_cons_succ]
      refine wpAnyH_take (i := 11) (v := ?_) rfl (by kernel_rfl) (by kernel_rfl) (by kernel_rfl) (fun _ _ _ h => h) (Or.inl ⟨by rfl, ?_⟩) (by assumption) ?_
      rotate_left
      · intro w hSw
        go_simp
        try with_reducible rfl
      simp only [Act.put, List.getElem_toArray, List.getElem_cons_succ, List.getElem_cons_zero, List.setIfInBounds_toArray, List.set_cons_zero, List.set_cons_succ]
      refine wpAnyH_ready (rs := [12]) (by kernel_rfl) (by simp) ?_
      refine AllReadyH.cons rfl (fun K hK => ?_) AllReadyH.nil
      go_simp
      refine hK.out _ _ ?_ (fun hHeld' => ?_)
      · exact SE.out
      clear hK K hHeld
      have hHeld := hHeld'
      clear hHeld'
      try simp only [Act.put, List.getElem_toArray, List.getElem_cons_succ, List.getElem_cons_zero, List.setIfInBounds_toArray, List.set_cons_zero, List.set_cons_succ]
      refine wpAnyH_done (by kernel_rfl) ?_ _
      clear hHeld SA SB SC SD SE R1 R2 cC fC hcF hcT hk0
      generalize w8.setCell ⟨C, 3, none⟩ (.slice A8 k c8) = w9 at K9 M9 D9 ⊢
      have HRO := Lib.hid (rot_ok (k := kk) HOK.out)
      have HSM := Lib.hid (srtD_same HOK.out.2.2.2.2.2.2.2.keys (rotD_perm kk d.s))
      have HLR := Lib.hid D9.out.len
      have KX := Lib.hid ((keys_any _ A8 k c8 w9 D9.out).mono (R' := fun e w' => (∃ Ax cx, e = .returned (.tuple #[.slice Ax k cx, .int .i64 0]) ∧ SlF w' strV Ax (srtD d.s)) ∧ Below w9.heap.size w9 w') (fun e w' ⟨h, hb⟩ => by
        obtain ⟨Ax, cx, h1, h2⟩ := h.yes HRO.out HLR.out
        exact ⟨⟨Ax, cx, h1, by rw [← HSM.out]; exact h2⟩, hb⟩))
      have NX := Lib.hid (fun (W : World) (hb : Below w9.heap.size w9 W) => (net_any _ A8 k c8 W (D9.out.keep hb)).mono (R' := fun e w' => (∃ Ax cx, e = .returned (.tuple #[.slice Ax k cx, .int .i64 0]) ∧ SlF w' dlV Ax (srtD d.s)) ∧ Below W.heap.size W w') (fun e w' ⟨h, hb⟩ => by
        obtain ⟨Ax, cx, h1, h2⟩ := h.yes HRO.out HLR.out
        exact ⟨⟨Ax, cx, h1, by rw [← HSM.out]; exact h2⟩, hb⟩))
      unfold dV at KX NX
      obtain ⟨x0, x1, x2, x3⟩ := def_cells M9.out
      go_upto_region 23 with (go_at_call 13; refine KX.out.mono ?_; rintro e w10 ⟨⟨L5, k5, rfl, hf5⟩, hB⟩; have K10 := Lib.hid hB; have F5 := Lib.hid hf5; clear hB hf5)
      have NX := Lib.hid (NX.out w10 K10.out)
      clear x0 x1 x2 x3
      obtain ⟨x0, x1, x2, x3⟩ := def_cells (M9.out.keep K10.out)
      go_upto_region 24 with (go_at_call 15; refine NX.out.mono ?_; rintro e w11 ⟨⟨L6, k6, rfl, hf6⟩, hB⟩; have K11 := Lib.hid (K10.out.trans (hB.mono K10.out.size)); have F6 := Lib.hid (And.intro (F5.out.keep hB) hf6); clear hB hf6 F5)
      clear x0 x1 x2 x3 KX NX
      obtain ⟨x0, x1, x2, x3⟩ := def_cells (M9.out.keep K11.out)
      have K311 := Lib.hid (K9.out.trans (K11.out.mono K9.out.size))
      obtain ⟨y0, y1, y2, y3⟩ := def_cells (W3.out.keep K311.out)
      have B11 := Lib.hid (B3.out.trans (K311.out.mono B3.out.size))
      obtain ⟨qk, hqk⟩ : ∃ qk : Bool, ((kk : Int) == 0) = qk := ⟨_, rfl⟩
      have EQ := Lib.hid ((defEqual_any _ d A8 A k k c8 c w11 (D9.out.keep K11.out) (HA.out w11 B11.out HS.out)).mono (R' := fun e w' => e = .returned (.bool qk) ∧ Below w11.heap.size w11 w') (fun e w' ⟨⟨q0, he, hq0⟩, hb⟩ => ⟨by
        rw [he]
        have h1 := hq0.trans (rot_eq HOK.out (by rw [HL.out.1]; exact hkl))
        have h2 : qk = true ↔ kk = 0 := by rw [← hqk, beq_iff_eq]; omega
        rw [show q0 = qk from Bool.eq_iff_iff.2 (h1.trans h2.symm)], hb⟩))
      unfold dV at EQ
      have hnn : ((k : Int) != (k : Int)) = false := by simp
      have hqq : (qk != qk) = false := by simp
      go_upto_if 183 with (go_at_call 17; refine EQ.out.mono ?_; rintro e w12 ⟨rfl, hB⟩; have K12 := Lib.hid hB; clear hB)
      have FF := Lib.hid (And.intro ((F4.out.1.keep K311.out).keep K12.out) (And.intro ((F4.out.2.keep K311.out).keep K12.out) (And.intro (F6.out.1.keep K12.out) (F6.out.2.keep K12.out))))
      have B12 := Lib.hid (B11.out.trans (K12.out.mono B11.out.size))
      clear EQ hnn hqq hqk x0 x1 x2 x3 y0 y1 y2 y3 M9 D9 K9 K10 K11 K311 K12 F6 B11
      go_wp2_with fail
      go_loopw [18] (fun i wr => ∃ j : Nat, j ≤ k ∧ i = .int .i64 j ∧ Hid (Below w12.heap.size w12 wr)) (fun i _ => k - (intOf i).toNat)
      case atStart => exact ⟨0, by omega, rfl, Lib.hid (Below.refl _ _)⟩
      case round =>
        obtain ⟨j, hj, rfl, HJ⟩ := hrel
        by_cases hjm : j < k
        · obtain ⟨p, hp⟩ : ∃ p, (srtD d.s)[j]? = some p := ⟨_, List.getElem?_eq_getElem (by rw [HSL.out]; exact hjm)⟩
          obtain ⟨g3, rfl, z3⟩ := FF.out.1.keep HJ.out j p hp
          obtain ⟨g4, rfl, z4⟩ := FF.out.2.1.keep HJ.out j p hp
          obtain ⟨g5, rfl, z5⟩ := FF.out.2.2.1.keep HJ.out j p hp
          obtain ⟨g6, rfl, z6⟩ := FF.out.2.2.2.keep HJ.out j p hp
          unfold strV at z3 z5
          unfold dlV at z4 z6
          have hj0 : (0 : Int) ≤ (j : Int) := by omega
          have hjm' : (j : Int) < (k : Int) := by omega
          have hwj : IntKind.i64.wrap ((j : Int) + 1) = (j : Int) + 1 := IntWalk.i64_in _ (by omega)
          have hv0 : (p.v != p.v) = false := by simp
          clear hp
          go_upto_region 29 with fail
          go_quiet (fail)
          go_wp2_with fail
          go_roundw
          case rel => exact ⟨j + 1, by omega, by go_num, Lib.hid (b_drewN HJ.out _)⟩
          case measure => simp [intOf]; omega
        · obtain rfl : j = k := by omega
          have BE := Lib.hid (B12.out.trans (HJ.out.mono B12.out.size))
          have WF := Lib.hid (WK.out wr BE.out)
          go_wp2_with (go_at_call 12; refine WF.out.mono ?_; rintro e w13 ⟨rfl, hB13⟩)
          go_ret
          exact ⟨rfl, BE.out.trans (hB13.mono BE.out.size)⟩
end Go.Proofs.YtgeljnjcpkmlmaaGreatDoor
