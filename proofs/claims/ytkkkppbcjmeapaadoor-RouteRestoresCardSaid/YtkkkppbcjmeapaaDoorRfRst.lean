/- Restore by the reference. Condition: the three lists are as long as one another; the ends can be measured. -/
import Derived.BigQuiet
import Derived.Test.YtkkkppbcjmeapaaDoorRtC
import Derived.Test.YtkkkppbcjmeapaaDoorPtRst
import Derived.Test.YtkkkppbcjmeapaaDoorMgRf
namespace Go.Proofs.YtkkkppbcjmeapaaDoor
open Go.RowKit
attribute [local go_sem ↓] Go.wp_at_zero Go.wp_at_succ

/-- Lists whose numbers differ are no map. -/
theorem rrestore_len (a b c : Option Addr) (n m k c1 c2 c3 : Nat) (w : World) (h : ¬ (m = n ∧ k = n)) (hb : n ≤ 1000000 ∧ m ≤ 1000000 ∧ k ≤ 1000000) :
    Calls Tryd.prog 39 #[.slice a n c1, .slice b m c2, .slice c k c3] w fun e w' => e = .returned (.tuple #[.pointer none, .int .i64 2]) ∧ w = w' := by
  by_cases h0 : n < 1
  · have e1 : (n : Int) < 1 := by omega
    clear h hb
    go_enter Tryd.func39, Tryd.ntmps39
    go_wp2
    go_ret2
    exact ⟨rfl, rfl⟩
  · have e1 : ¬ ((n : Int) < 1) := by omega
    by_cases h1 : n > 64
    · have e2 : (n : Int) > 64 := by omega
      clear h hb
      go_enter Tryd.func39, Tryd.ntmps39
      go_wp2
      go_ret2
      exact ⟨rfl, rfl⟩
    · have e2 : ¬ ((n : Int) > 64) := by omega
      by_cases h2 : m = n
      · have hk : k ≠ n := fun e => h ⟨h2, e⟩
        subst h2
        have e3 : ((k : Int) == (m : Int)) = false := beq_eq_false_iff_ne.2 (by omega)
        have e4 : ((k : Int) = (m : Int)) = False := eq_false (by omega)
        clear h hb hk
        go_enter Tryd.func39, Tryd.ntmps39
        go_wp2
        go_ret2
        exact ⟨rfl, rfl⟩
      · have e3 : ((m : Int) == (n : Int)) = false := beq_eq_false_iff_ne.2 (by omega)
        have e4 : ((m : Int) = (n : Int)) = False := eq_false (by omega)
        clear h hb h2
        go_enter Tryd.func39, Tryd.ntmps39
        go_wp2
        go_ret2
        exact ⟨rfl, rfl⟩
/-- The reference's map, its row made since. -/
def RMF (w w' : World) (C : Nat) (d : List Pt) : Prop := ∃ g cap, Whole w' C 106 #[.bool true, .slice (some ⟨g, 0, none⟩) d.length cap] ∧ CellsP w' g 0 d ∧ d.length ≤ cap ∧ w.heap.size < g
theorem RMF.rm {w w' : World} {C : Nat} {d : List Pt} (h : RMF w w' C d) : RM w' C d := by
  obtain ⟨g, cap, h1, h2, h3, _⟩ := h
  exact ⟨g, cap, h1, h2, h3⟩
/-- What the reference's Restore answers. -/
def RRst (w w' : World) (d : List Pt) (e : Ending) : Prop := (RstOK d ∧ ∃ C, e = .returned (.tuple #[.pointer (some ⟨C, 0, none⟩), .int .i64 0]) ∧ w.heap.size ≤ C ∧ RMF w w' C d) ∨ (¬ RstOK d ∧ e = .returned (.tuple #[.pointer none, .int .i64 2]))
/-- What its loop holds. -/
structure RsR (w W : World) (d : List Pt) (k : Nat) : Prop where
  v : ∃ v, Whole W w.heap.size 106 #[.bool true, v] ∧ W.ownsRow (w.heap.size + 1) 103 4 v k (flatP (d.take k))
  b : Below w.heap.size w W
  i : ∀ i p, i < k → d[i]? = some p → RefI d i p
theorem RsR.keep {w W W' : World} {d : List Pt} {k : Nat} (h : RsR w W d k) (hb : Below W.heap.size W W') : RsR w W' d k := by
  obtain ⟨v, h1, h2⟩ := h.v
  exact ⟨⟨v, h1.below hb h1.lt, h2.kept (below_grown hb) (Classical.em _)⟩, h.b.trans (hb.mono h.b.size), h.i⟩
theorem RsR.lt {w W : World} {d : List Pt} {k : Nat} (h : RsR w W d k) : w.heap.size < W.heap.size := by
  obtain ⟨v, h1, _⟩ := h.v
  exact h1.lt
/-- The tests of one part that do not look at the one ahead. -/
def RefT (p : Pt) : Prop := okR p.f p.t = true ∧ (1 ≤ p.g ∧ p.g < 8) ∧ (1 ≤ p.e ∧ p.e ≤ 2147483648)
set_option maxRecDepth 100000 in
set_option maxHeartbeats 40000000 in
theorem rrestore_any (d : List Pt) (a b c : Option Addr) (n c1 c2 c3 : Nat) (w : World) (hn : d.length = n) (h1 : SlR w (.slice a n c1) (rgs d)) (h2 : SlI w (.slice b n c2) (grs d)) (h3 : SlI w (.slice c n c3) (eps d)) (hsz : SmallP d) :
    Calls Tryd.prog 39 #[.slice a n c1, .slice b n c2, .slice c n c3] w fun e w' => RRst w w' d e ∧ Below w.heap.size w w' := by
  have mixed : Tryd.prog.follows Departure.mixedOrders = true := by kernel_rfl
  by_cases h0 : n < 1
  · as_aux_lemma =>
    have e1 : (n : Int) < 1 := by omega
    have HR : Hid (¬ RstOK d) := Lib.hid (fun h => by have := h.1; omega)
    clear h1 h2 h3 hsz hn
    go_enter Tryd.func39, Tryd.ntmps39
    go_wp2
    go_ret2
    exact ⟨Or.inr ⟨HR.out, rfl⟩, Below.refl _ _⟩
  by_cases h4 : n > 64
  · as_aux_lemma =>
    have e1 : ¬ ((n : Int) < 1) := by omega
    have e2 : (n : Int) > 64 := by omega
    have HR : Hid (¬ RstOK d) := Lib.hid (fun h => by have := h.2.1; omega)
    clear h1 h2 h3 hsz hn
    go_enter Tryd.func39, Tryd.ntmps39
    go_wp2
    go_ret2
    exact ⟨Or.inr ⟨HR.out, rfl⟩, Below.refl _ _⟩
  have e1 : ¬ ((n : Int) < 1) := by omega
  have e2 : ¬ ((n : Int) > 64) := by omega
  obtain ⟨m, hm⟩ : ∃ m, n = m + 1 := ⟨n - 1, by omega⟩
  obtain ⟨p0, hp0⟩ : ∃ p, d[0]? = some p := ⟨_, List.getElem?_eq_getElem (show 0 < d.length by omega)⟩
  obtain ⟨pl, hpl⟩ : ∃ p, d[m]? = some p := ⟨_, List.getElem?_eq_getElem (show m < d.length by omega)⟩
  obtain ⟨g, og, rfl, z0, _⟩ := h1.get (i := 0) (p := (p0.f, p0.t)) (by simp [rgs, hp0])
  obtain ⟨g', og', he, _, z1⟩ := h1.get (i := m) (p := (pl.f, pl.t)) (by simp [rgs, hpl])
  cases he
  simp only [Nat.zero_mul, Nat.add_zero] at z0
  have hwm : IntKind.i64.wrap ((n : Int) - 1) = (m : Int) := by rw [show (n : Int) - 1 = m by omega]; exact IntWalk.i64_in _ (by omega)
  have hm0 : (0 : Int) ≤ m := by omega
  have hmn : (m : Int) < n := by omega
  have hn0 : (0 : Int) < n := by omega
  have HN := Lib.hid hn
  have H1 := Lib.hid h1
  have H2 := Lib.hid h2
  have H3 := Lib.hid h3
  have HZ := Lib.hid hsz
  have HM := Lib.hid hm
  have HB := Lib.hid (And.intro h0 h4)
  have HP0 := Lib.hid hp0
  have HPL := Lib.hid hpl
  have HL := Lib.hid (show d.length - 1 = m by omega)
  clear h1 h2 h3 hsz hn hm h0 h4 hp0 hpl
  by_cases hf : p0.f = ⟨#[]⟩
  case neg => as_aux_lemma =>
    have HR : Hid (¬ RstOK d) := Lib.hid (fun h => hf (((ref_rst d).1 h).2.1.1 p0 HP0.out))
    have g1 := str_no hf
    have g2 := str_no0 hf
    have g3 : (p0.f.toList != ([] : List UInt8)) = true := by rw [bne, g2]; rfl
    clear hf
    go_enter Tryd.func39, Tryd.ntmps39
    go_wp2
    go_ret2
    exact ⟨Or.inr ⟨HR.out, rfl⟩, Below.refl _ _⟩
  rw [hf] at z0
  by_cases ht : pl.t = ⟨#[]⟩
  case neg => as_aux_lemma =>
    have HR : Hid (¬ RstOK d) := Lib.hid (fun h => ht (((ref_rst d).1 h).2.1.2 pl (by rw [HL.out]; exact HPL.out)))
    have g1 := str_no ht
    have g2 := str_no0 ht
    have g3 : (pl.t.toList != ([] : List UInt8)) = true := by rw [bne, g2]; rfl
    clear hf ht
    go_enter Tryd.func39, Tryd.ntmps39
    go_wp2
    go_ret2
    exact ⟨Or.inr ⟨HR.out, rfl⟩, Below.refl _ _⟩
  rw [ht] at z1
  have HE : Hid (RefE d) := Lib.hid ⟨fun p hp => by rw [HP0.out] at hp; cases hp; exact hf, fun p hp => by rw [HL.out, HPL.out] at hp; cases hp; exact ht⟩
  have L0 : Hid (RsR w (w.alloc (.cells #[.bool true, .slice none 0 0] 106)) d 0) := Lib.hid ⟨⟨_, Whole.new w _ _, own_nil _ _ _ _⟩, (Below.refl _ _).alloc (Nat.le_refl _) _, fun i p hi => by omega⟩
  clear hf ht HP0 HPL HL
  go_enter Tryd.func39, Tryd.ntmps39
  go_wp2_with fail
  generalize w.alloc (.cells #[.bool true, .slice none 0 0] 106) = w0 at L0 ⊢
  clear e1 e2 z0 z1 hwm hm0 hmn hn0
  go_loopw [9] (fun i wr => ∃ (k : Nat), k ≤ n ∧ i = .int .i64 k ∧ Hid (RsR w wr d k)) (fun i _ => n - (intOf i).toNat)
  case atStart => exact ⟨0, Nat.zero_le _, rfl, L0⟩
  case round =>
    clear L0
    obtain ⟨k, hk, rfl, L⟩ := hrel
    by_cases hlt : k < n
    · as_aux_lemma =>
      have hki : (k : Int) < n := by omega
      have hk0 : (0 : Int) ≤ k := by omega
      have hn64 : n ≤ 64 := by have := HB.out.2; omega
      obtain ⟨p, hp⟩ : ∃ p, d[k]? = some p := ⟨_, List.getElem?_eq_getElem (show k < d.length by rw [HN.out]; exact hlt)⟩
      obtain ⟨g', og', he, z0, z1⟩ := (H1.out.keep L.out.b).get (i := k) (p := (p.f, p.t)) (by simp [rgs, hp])
      cases he
      obtain ⟨g2, og2, rfl, y0⟩ := (H2.out.keep L.out.b).get (i := k) (p := p.g) (by simp [grs, hp])
      obtain ⟨g3, og3, rfl, x0⟩ := (H3.out.keep L.out.b).get (i := k) (p := p.e) (by simp [eps, hp])
      have HGL : Hid (g < w.heap.size ∧ g2 < w.heap.size ∧ g3 < w.heap.size) := Lib.hid (by
        obtain ⟨_, _, e0, h0, _⟩ := H1.out.get (i := k) (p := (p.f, p.t)) (by simp [rgs, hp])
        obtain ⟨_, _, e1, h1⟩ := H2.out.get (i := k) (p := p.g) (by simp [grs, hp])
        obtain ⟨_, _, e2, h2⟩ := H3.out.get (i := k) (p := p.e) (by simp [eps, hp])
        cases e0
        cases e1
        cases e2
        exact ⟨lt_of_cellR h0, lt_of_cellR h1, lt_of_cellR h2⟩)
      have hsz := HZ.out.at hp
      have HP := Lib.hid hp
      have NR : Hid (¬ RefI d k p → ¬ RstOK d) := Lib.hid (fun h hR => h (((ref_rst d).1 hR).2.2 k p hp))
      have hwk : IntKind.i64.wrap ((k : Int) + 1) = (k : Int) + 1 := IntWalk.i64_in _ (by omega)
      have CK := Lib.hid (fun W => refCheck_any p.f p.t W hsz.1 hsz.2)
      have GI := Lib.hid (fun W => rgroup_any p.g W)
      have HRL := Lib.hid L.out.lt
      clear hsz hp
      go_upto_region 7 with fail
      go_cut [84] (fun cv wx => ∃ b, cv = .bool b ∧ (b = true ↔ ¬ RefT p) ∧ Hid (Below wr.heap.size wr wx))
      case first => as_aux_lemma =>
        clear H1 H2 H3 NR HGL HP HE L
        go_wp2_with fail
        refine (CK.out _).mono ?_
        rintro e w2 ⟨rfl, hb⟩
        have s2 := (hb.cell (lt_of_cellR y0)).trans y0
        have s3 := (hb.cell (lt_of_cellR x0)).trans x0
        have HB2 := Lib.hid hb
        clear z0 z1 y0 x0 hb
        by_cases a1 : okR p.f p.t = true
        case neg =>
          have A1 : Hid (RefT p → False) := Lib.hid (fun h => a1 h.1)
          rw [ckI_no a1]
          clear a1
          go_wp2_with fail
          go_meet
          exact ⟨true, rfl, ⟨fun _ h => A1.out h, fun _ => rfl⟩, HB2⟩
        have A1 := Lib.hid a1
        rw [ckI_yes a1]
        clear a1
        by_cases a4 : 1 ≤ p.g ∧ p.g < 8
        case neg =>
          have A4 := Lib.hid a4
          have GI := Lib.hid (fun W => by have := GI.out W; rw [decide_eq_false a4] at this; exact this)
          clear a4
          go_wp2_with fail
          refine (GI.out _).mono ?_
          rintro e w3 ⟨rfl, rfl⟩
          go_wp2_with fail
          go_meet
          exact ⟨true, rfl, ⟨fun _ h => A4.out h.2.1, fun _ => rfl⟩, HB2⟩
        have A4 := Lib.hid a4
        have GI := Lib.hid (fun W => by have := GI.out W; rw [decide_eq_true a4] at this; exact this)
        clear a4
        by_cases a5 : p.e < 1
        · go_wp2_with fail
          refine (GI.out _).mono ?_
          rintro e w3 ⟨rfl, rfl⟩
          go_wp2_with fail
          go_meet
          exact ⟨true, rfl, ⟨fun _ h => by have := h.2.2.1; omega, fun _ => rfl⟩, HB2⟩
        · by_cases a6 : p.e > 2147483648
          · go_wp2_with fail
            refine (GI.out _).mono ?_
            rintro e w3 ⟨rfl, rfl⟩
            go_wp2_with fail
            go_meet
            exact ⟨true, rfl, ⟨fun _ h => by have := h.2.2.2; omega, fun _ => rfl⟩, HB2⟩
          · go_wp2_with fail
            refine (GI.out _).mono ?_
            rintro e w3 ⟨rfl, rfl⟩
            go_wp2_with fail
            go_meet
            exact ⟨false, congrArg Value.bool (by rw [decide_eq_false (show ¬ p.e < 1 by omega), decide_eq_false (show ¬ 2147483648 < p.e by omega)]; rfl), ⟨fun h => (by cases h), fun h => absurd (show RefT p from ⟨A1.out, A4.out, by omega, by omega⟩) h⟩, HB2⟩
      case rest =>
        obtain ⟨b, rfl, hb, HBL⟩ := hcut
        generalize wc = w5 at HBL ⊢
        cases b with
        | true => as_aux_lemma =>
          have HN2 : Hid (¬ RstOK d) := Lib.hid (NR.out (fun h => hb.1 rfl ⟨h.1, h.2.1, h.2.2.1⟩))
          have BE := Lib.hid (L.out.b.trans (HBL.out.mono L.out.b.size))
          clear hb HBL L H1 H2 H3 CK GI NR
          go_wp2
          go_ret2
          exact ⟨Or.inr ⟨HN2.out, rfl⟩, BE.out⟩
        | false =>
          have HT : Hid (RefT p) := Lib.hid (Classical.byContradiction fun h => by cases hb.2 h)
          have L5 := Lib.hid (L.out.keep HBL.out)
          have u0 := (HBL.out.cell (lt_of_cellR z0)).trans z0
          have u1 := (HBL.out.cell (lt_of_cellR z1)).trans z1
          have u2 := (HBL.out.cell (lt_of_cellR y0)).trans y0
          have u3 := (HBL.out.cell (lt_of_cellR x0)).trans x0
          clear hb HBL L CK GI z0 z1 y0 x0 HRL
          generalize wr = wr0
          go_upto_region 9 with fail
          go_cut [108] (fun cv wx => ∃ b, cv = .bool b ∧ (b = true ↔ ¬ (0 < k → p.f = befD ⟨#[]⟩ d k ∧ p.f ≠ ⟨#[]⟩)) ∧ Hid (Below w5.heap.size w5 wx))
          case first => as_aux_lemma =>
            by_cases hk1 : k = 0
            · have hk9 := Lib.hid hk1
              have hjp : ¬ ((0 : Int) < (k : Int)) := by omega
              have hjp2 : ¬ (0 < k) := by omega
              clear H1 H2 H3 NR HGL HP HE L5 hk1
              go_quiet (fail)
              go_wp2_with fail
              go_meet
              exact ⟨false, rfl, ⟨fun h => (by cases h), fun h => absurd (fun h0 => absurd hk9.out (by omega)) h⟩, Lib.hid (b_drewN (Below.refl _ _) _)⟩
            · obtain ⟨j, hj⟩ : ∃ j, k = j + 1 := ⟨k - 1, by omega⟩
              have hjp : (0 : Int) < (k : Int) := by omega
              have hjp2 : 0 < k := by omega
              have hwj : IntKind.i64.wrap ((k : Int) - 1) = (j : Int) := by rw [show (k : Int) - 1 = j by omega]; exact IntWalk.i64_in _ (by omega)
              have hjn : (j : Int) < n := by omega
              have hj0 : (0 : Int) ≤ j := by omega
              have hk9 := Lib.hid (show 0 < k by omega)
              obtain ⟨q, hq⟩ : ∃ q, d[j]? = some q := ⟨_, List.getElem?_eq_getElem (show j < d.length by rw [HN.out]; omega)⟩
              have hbe : befD ⟨#[]⟩ d k = q.t := by rw [hj]; simp only [befD, hq]
              obtain ⟨g', og', he, _, z1⟩ := (H1.out.keep L5.out.b).get (i := j) (p := (q.f, q.t)) (by simp [rgs, hq])
              cases he
              have HBE := Lib.hid hbe
              clear hj hq hbe hk1 H1 H2 H3 NR HGL HP HE L5
              by_cases a2 : p.f = q.t
              · have g1 : (p.f.toList == q.t.toList) = true := by rw [a2]; exact beq_self_eq_true _
                by_cases a3 : p.f = ⟨#[]⟩
                · have HC : Hid (¬ (0 < k → p.f = befD ⟨#[]⟩ d k ∧ p.f ≠ ⟨#[]⟩)) := Lib.hid (fun h => (h hk9.out).2 a3)
                  have g2 : (p.f.toList == ([] : List UInt8)) = true := by rw [a3, ByteArray.toList_eq]; rfl
                  have g3 : (p.f.toList == (⟨#[]⟩ : ByteArray).toList) = true := by rw [a3]; exact beq_self_eq_true _
                  clear a2 a3
                  go_quiet (fail)
                  go_wp2_with fail
                  go_meet
                  exact ⟨true, rfl, ⟨fun _ => HC.out, fun _ => rfl⟩, Lib.hid (b_drewN (Below.refl _ _) _)⟩
                · have HC : Hid (0 < k → p.f = befD ⟨#[]⟩ d k ∧ p.f ≠ ⟨#[]⟩) := Lib.hid (fun _ => ⟨by rw [HBE.out]; exact a2, a3⟩)
                  have g2 := str_no0 a3
                  have g3 := str_no a3
                  clear a2 a3
                  go_quiet (fail)
                  go_wp2_with fail
                  go_meet
                  exact ⟨false, rfl, ⟨fun h => (by cases h), fun h => absurd HC.out h⟩, Lib.hid (b_drewN (Below.refl _ _) _)⟩
              · have HC : Hid (¬ (0 < k → p.f = befD ⟨#[]⟩ d k ∧ p.f ≠ ⟨#[]⟩)) := Lib.hid (fun h => a2 (by rw [← HBE.out]; exact (h hk9.out).1))
                have g1 := str_no a2
                clear a2
                go_quiet (fail)
                go_wp2_with fail
                go_meet
                exact ⟨true, rfl, ⟨fun _ => HC.out, fun _ => rfl⟩, Lib.hid (b_drewN (Below.refl _ _) _)⟩
          case rest =>
            obtain ⟨b, rfl, hb, HBL⟩ := hcut
            generalize wc = w6 at HBL ⊢
            cases b with
            | true => as_aux_lemma =>
              have HN2 : Hid (¬ RstOK d) := Lib.hid (NR.out (fun h => hb.1 rfl h.2.2.2))
              have BE := Lib.hid (L5.out.b.trans (HBL.out.mono L5.out.b.size))
              clear hb HBL L5 H1 H2 H3 NR
              go_wp2
              go_ret2
              exact ⟨Or.inr ⟨HN2.out, rfl⟩, BE.out⟩
            | false => as_aux_lemma =>
              have hI : Hid (RefI d k p) := Lib.hid ⟨HT.out.1, HT.out.2.1, HT.out.2.2, Classical.byContradiction fun h => by cases hb.2 h⟩
              have L6 := Lib.hid (L5.out.keep HBL.out)
              have t0 := (HBL.out.cell (lt_of_cellR u0)).trans u0
              have t1 := (HBL.out.cell (lt_of_cellR u1)).trans u1
              have t2 := (HBL.out.cell (lt_of_cellR u2)).trans u2
              have t3 := (HBL.out.cell (lt_of_cellR u3)).trans u3
              clear hb HBL L5 u0 u1 u2 u3 H1 H2 H3 NR HT
              obtain ⟨v, v1, v2⟩ := L6.out.v
              have bz := L6.out.b.size
              have hlt6 := v1.lt
              have own2 : (w6.drew).ownsRow (w.heap.size + 1) 103 4 v k (flatP (d.take k)) := v2.kept (below_grown (Below.refl _ _).drew) (Classical.em _)
              obtain ⟨v', w', hrun, hown', hgr, hbk, hbl⟩ := app_one p own2 (by omega) (by show w.heap.size + 1 ≤ w6.heap.size; omega)
              have hrun' : (Builtin.append_ #[104, 104] 104 #[v, .slice (some ⟨w6.heap.size, 0, none⟩) 1 1]).run Tryd.prog (w6.alloc (.cells #[.string p.f, .string p.t, .int .i64 p.g, .int .i64 p.e] 103)).drew = .ok v' w' := hrun
              have hbl' : Below (w.heap.size + 1) w6 w' := ((Below.refl _ _).drew).trans hbl
              have V1 : Whole w' w.heap.size 106 #[.bool true, v] := v1.below hbl' (by omega)
              obtain ⟨g4, k4, rfl⟩ := ownsRow_succ hown'
              have hg4 : w.heap.size + 1 ≤ g4 := (hown'.lt g4 rfl).1
              have V2 : Whole (w'.setCell ⟨w.heap.size, 1, none⟩ (.slice (some ⟨g4, 0, none⟩) (k + 1) k4)) w.heap.size 106 #[.bool true, .slice (some ⟨g4, 0, none⟩) (k + 1) k4] := V1.put 1 _
              have hgs : w'.grownBy (w'.setCell ⟨w.heap.size, 1, none⟩ (.slice (some ⟨g4, 0, none⟩) (k + 1) k4)) (some w.heap.size) := grown_set (Below.refl _ _) w.heap.size 1 _
              have O2 := hown'.kept hgs (Or.inr (fun e => absurd (show g4 = w.heap.size by simpa [Value.ownBlock] using e) (by omega)))
              have b7 : Below w.heap.size w6 (w'.setCell ⟨w.heap.size, 1, none⟩ (.slice (some ⟨g4, 0, none⟩) (k + 1) k4)) := (hbl'.mono (Nat.le_succ _)).setCell (p := ⟨w.heap.size, 1, none⟩) (Nat.le_refl _) _
              have e0 : flatP (d.take k ++ [p]) = flatP (d.take (k + 1)) := by rw [List.take_add_one, HP.out]; rfl
              have LN : Hid (RsR w (w'.setCell ⟨w.heap.size, 1, none⟩ (.slice (some ⟨g4, 0, none⟩) (k + 1) k4)) d (k + 1)) := Lib.hid ⟨⟨_, V2, by rw [← e0]; exact O2⟩, L6.out.b.trans b7, fun i q hi hq => by
                by_cases e : i = k
                · subst e
                  rw [HP.out] at hq
                  cases hq
                  exact hI.out
                · exact L6.out.i i q (by omega) hq⟩
              have R := Lib.hid hrun'
              have c0 := (v1.cell 1).trans (show _ = some v from rfl)
              have c1 := (V1.cell 1).trans (show _ = some v from rfl)
              have c2 := V1.fr 1
              have d0 := cell_al (.cells #[.string p.f, .string p.t, .int .i64 p.g, .int .i64 p.e] 103) c0
              have b8 : Below w.heap.size w6 w' := hbl'.mono (by omega)
              have SA : Hid (w6.cell? ⟨g, og + k * 2, none⟩ = some (.string p.f) ∧ w6.cell? ⟨g, og + k * 2 + 1, none⟩ = some (.string p.t) ∧ w6.cell? ⟨g2, og2 + k, none⟩ = some (.int .i64 p.g) ∧ w6.cell? ⟨g3, og3 + k, none⟩ = some (.int .i64 p.e)) := Lib.hid ⟨t0, t1, t2, t3⟩
              have SB : Hid ((w6.alloc (.cells #[.string p.f, .string p.t, .int .i64 p.g, .int .i64 p.e] 103)).cell? ⟨g, og + k * 2, none⟩ = some (.string p.f) ∧ (w6.alloc (.cells #[.string p.f, .string p.t, .int .i64 p.g, .int .i64 p.e] 103)).cell? ⟨g, og + k * 2 + 1, none⟩ = some (.string p.t) ∧ (w6.alloc (.cells #[.string p.f, .string p.t, .int .i64 p.g, .int .i64 p.e] 103)).cell? ⟨g2, og2 + k, none⟩ = some (.int .i64 p.g) ∧ (w6.alloc (.cells #[.string p.f, .string p.t, .int .i64 p.g, .int .i64 p.e] 103)).cell? ⟨g3, og3 + k, none⟩ = some (.int .i64 p.e)) := Lib.hid ⟨cell_al _ t0, cell_al _ t1, cell_al _ t2, cell_al _ t3⟩
              have SC : Hid (w'.cell? ⟨g, og + k * 2, none⟩ = some (.string p.f) ∧ w'.cell? ⟨g, og + k * 2 + 1, none⟩ = some (.string p.t) ∧ w'.cell? ⟨g2, og2 + k, none⟩ = some (.int .i64 p.g) ∧ w'.cell? ⟨g3, og3 + k, none⟩ = some (.int .i64 p.e)) := Lib.hid ⟨(b8.cell HGL.out.1).trans t0, (b8.cell HGL.out.1).trans t1, (b8.cell HGL.out.2.1).trans t2, (b8.cell HGL.out.2.2).trans t3⟩
              have SD : Hid ((w'.setCell ⟨w.heap.size, 1, none⟩ (.slice (some ⟨g4, 0, none⟩) (k + 1) k4)).cell? ⟨g, og + k * 2, none⟩ = some (.string p.f) ∧ (w'.setCell ⟨w.heap.size, 1, none⟩ (.slice (some ⟨g4, 0, none⟩) (k + 1) k4)).cell? ⟨g, og + k * 2 + 1, none⟩ = some (.string p.t) ∧ (w'.setCell ⟨w.heap.size, 1, none⟩ (.slice (some ⟨g4, 0, none⟩) (k + 1) k4)).cell? ⟨g2, og2 + k, none⟩ = some (.int .i64 p.g) ∧ (w'.setCell ⟨w.heap.size, 1, none⟩ (.slice (some ⟨g4, 0, none⟩) (k + 1) k4)).cell? ⟨g3, og3 + k, none⟩ = some (.int .i64 p.e)) := Lib.hid ⟨(b7.cell HGL.out.1).trans t0, (b7.cell HGL.out.1).trans t1, (b7.cell HGL.out.2.1).trans t2, (b7.cell HGL.out.2.2).trans t3⟩
              clear hrun hrun' hown' hgr hbk hbl hbl' V1 V2 hgs O2 b7 b8 e0 own2 v1 v2 bz hlt6 hg4 L6 t0 t1 t2 t3
              go_wp2_with fail
              refine wp_region_held_drew (S := fun wx => wx.cell? ⟨g, og + k * 2, none⟩ = some (.string p.f) ∧ wx.cell? ⟨g, og + k * 2 + 1, none⟩ = some (.string p.t) ∧ wx.cell? ⟨g2, og2 + k, none⟩ = some (.int .i64 p.g) ∧ wx.cell? ⟨g3, og3 + k, none⟩ = some (.int .i64 p.e)) (by kernel_rfl) SA.out (fun hHeld => ?_)
              refine wpAnyH_take (i := 0) (v := ?_) rfl (by kernel_rfl) (by kernel_rfl) (by kernel_rfl) (fun _ _ _ h => h) (Or.inl ⟨by rfl, ?_⟩) (by assumption) ?_
              rotate_left
              · intro w hSw
                go_simp
                try with_reducible rfl
              simp only [Act.put, List.getElem_toArray, List.getElem_cons_zero, List.setIfInBounds_toArray, List.set_cons_zero, List.set_cons_succ]
              refine wpAnyH_take (i := 1) (v := ?_) rfl (by kernel_rfl) (by kernel_rfl) (by kernel_rfl) (fun _ _ _ h => h) (Or.inl ⟨by rfl, ?_⟩) (by assumption) ?_
              rotate_left
              · intro w hSw
                go_simp
                try with_reducible rfl
              simp only [Act.put, List.getElem_toArray, List.getElem_cons_succ, List.getElem_cons_zero, List.setIfInBounds_toArray, List.set_cons_zero, List.set_cons_succ]
              refine wpAnyH_take (i := 2) (v := ?_) rfl (by kernel_rfl) (by kernel_rfl) (by kernel_rfl) (fun _ _ _ h => h) (Or.inl ⟨by rfl, ?_⟩) (by assumption) ?_
              rotate_left
              · intro w hSw
                go_simp
                try with_reducible rfl
              simp only [Act.put, List.getElem_toArray, List.getElem_cons_succ, List.getElem_cons_zero, List.setIfInBounds_toArray, List.set_cons_zero, List.set_cons_succ]
              refine wpAnyH_take (i := 3) (v := ?_) rfl (by kernel_rfl) (by kernel_rfl) (by kernel_rfl) (fun _ _ _ h => h) (Or.inl ⟨by rfl, ?_⟩) (by assumption) ?_
              rotate_left
              · intro w hSw
                go_simp
                try with_reducible rfl
              simp only [Act.put, List.getElem_toArray, List.getElem_cons_succ, List.getElem_cons_zero, List.setIfInBounds_toArray, List.set_cons_zero, List.set_cons_succ]
              refine wpAnyH_take (i := 5) (v := ?_) rfl (by kernel_rfl) (by kernel_rfl) (by kernel_rfl) (fun _ _ _ h => h) (Or.inl ⟨by rfl, ?_⟩) (by assumption) ?_
              rotate_left
              · intro w hSw
                go_simp
                try with_reducible rfl
              simp only [Act.put, List.getElem_toArray, List.getElem_cons_succ, List.getElem_cons_zero, List.setIfInBounds_toArray, List.set_cons_zero, List.set_cons_succ]
              refine wpAnyH_take (i := 6) (v := ?_) rfl (by kernel_rfl) (by kernel_rfl) (by kernel_rfl) (fun _ _ _ h => h) (Or.inl ⟨by rfl, ?_⟩) (by assumption) ?_
              rotate_left
              · intro w hSw
                go_simp
                try with_reducible rfl
              simp only [Act.put, List.getElem_toArray, List.getElem_cons_succ, List.getElem_cons_zero, List.setIfInBounds_toArray, List.set_cons_zero, List.set_cons_succ]
              refine wpAnyH_take (i := 7) (v := ?_) rfl (by kernel_rfl) (by kernel_rfl) (by kernel_rfl) (fun _ _ _ h => h) (Or.inl ⟨by rfl, ?_⟩) (by assumption) ?_
              rotate_left
              · intro w hSw
                go_simp
                try with_reducible rfl
              simp only [Act.put, List.getElem_toArray, List.getElem_cons_succ, List.getElem_cons_zero, List.setIfInBounds_toArray, List.set_cons_zero, List.set_cons_succ]
              refine wpAnyH_take (i := 8) (v := ?_) rfl (by kernel_rfl) (by kernel_rfl) (by kernel_rfl) (fun _ _ _ h => h) (Or.inl ⟨by rfl, ?_⟩) (by assumption) ?_
              rotate_left
              · intro w hSw
                go_simp
                try with_reducible rfl
              simp only [Act.put, List.getElem_toArray, List.getElem_cons_succ, List.getElem_cons_zero, List.setIfInBounds_toArray, List.set_cons_zero, List.set_cons_succ]
              refine wpAnyH_take (i := 9) (v := ?_) rfl (by kernel_rfl) (by kernel_rfl) (by kernel_rfl) (fun _ _ _ h => h) (Or.inl ⟨by rfl, ?_⟩) (by assumption) ?_
              rotate_left
              · intro w hSw
                go_simp
                try with_reducible rfl
              simp only [Act.put, List.getElem_toArray, List.getElem_cons_succ, List.getElem_cons_zero, List.setIfInBounds_toArray, List.set_cons_zero, List.set_cons_succ]
              refine wpAnyH_take (i := 10) (v := ?_) rfl (by kernel_rfl) (by kernel_rfl) (by kernel_rfl) (fun _ _ _ h => h) (Or.inl ⟨by rfl, ?_⟩) (by assumption) ?_
              rotate_left
              · intro w hSw
                go_simp
                try with_reducible rfl
              simp only [Act.put, List.getElem_toArray, List.getElem_cons_succ, List.getElem_cons_zero, List.setIfInBounds_toArray, List.set_cons_zero, List.set_cons_succ]
              refine wpAnyH_take (i := 11) (v := ?_) rfl (by kernel_rfl) (by kernel_rfl) (by kernel_rfl) (fun _ _ _ h => h) (Or.inl ⟨by rfl, ?_⟩) (by assumption) ?_
              rotate_left
              · intro w hSw
                go_simp
                try with_reducible rfl
              simp only [Act.put, List.getElem_toArray, List.getElem_cons_succ, List.getElem_cons_zero, List.setIfInBounds_toArray, List.set_cons_zero, List.set_cons_succ]
              refine wpAnyH_take (i := 12) (v := ?_) rfl (by kernel_rfl) (by kernel_rfl) (by kernel_rfl) (fun _ _ _ h => h) (Or.inl ⟨by rfl, ?_⟩) (by assumption) ?_
              rotate_left
              · intro w hSw
                go_simp
                try with_reducible rfl
              simp only [Act.put, List.getElem_toArray, List.getElem_cons_succ, List.getElem_cons_zero, List.setIfInBounds_toArray, List.set_cons_zero, List.set_cons_succ]
              refine wpAnyH_take (i := 13) (v := ?_) rfl (by kernel_rfl) (by kernel_rfl) (by kernel_rfl) (fun _ _ _ h => h) (Or.inl ⟨by rfl, ?_⟩) (by assumption) ?_
              rotate_left
              · intro w hSw
                go_simp
                try with_reducible rfl
              simp only [Act.put, List.getElem_toArray, List.getElem_cons_succ, List.getElem_cons_zero, List.setIfInBounds_toArray, List.set_cons_zero, List.set_cons_succ]
              refine wpAnyH_take (i := 14) (v := ?_) rfl (by kernel_rfl) (by kernel_rfl) (by kernel_rfl) (fun _ _ _ h => h) (Or.inl ⟨by rfl, ?_⟩) (by assumption) ?_
              rotate_left
              · intro w hSw
                go_simp
                try with_reducible rfl
              simp only [Act.put, List.getElem_toArray, List.getElem_cons_succ, List.getElem_cons_zero, List.setIfInBounds_toArray, List.set_cons_zero, List.set_cons_succ]
              refine wpAnyH_take (i := 15) (v := ?_) rfl (by kernel_rfl) (by kernel_rfl) (by kernel_rfl) (fun _ _ _ h => h) (Or.inl ⟨by rfl, ?_⟩) (by assumption) ?_
              rotate_left
              · intro w hSw
                go_simp
                try with_reducible rfl
              simp only [Act.put, List.getElem_toArray, List.getElem_cons_succ, List.getElem_cons_zero, List.setIfInBounds_toArray, List.set_cons_zero, List.set_cons_succ]
              refine wpAnyH_take (i := 16) (v := ?_) rfl (by kernel_rfl) (by kernel_rfl) (by kernel_rfl) (fun _ _ _ h => h) (Or.inl ⟨by rfl, ?_⟩) (by assumption) ?_
              rotate_left
              · intro w hSw
                go_simp
                try with_reducible rfl
              simp only [Act.put, List.getElem_toArray, List.getElem_cons_succ, List.getElem_cons_zero, List.setIfInBounds_toArray, List.set_cons_zero, List.set_cons_succ]
              refine wpAnyH_take (i := 17) (v := ?_) rfl (by kernel_rfl) (by kernel_rfl) (by kernel_rfl) (fun _ _ _ h => h) (Or.inl ⟨by rfl, ?_⟩) (by assumption) ?_
              rotate_left
              · intro w hSw
                go_simp
                try with_reducible rfl
              simp only [Act.put, List.getElem_toArray, List.getElem_cons_succ, List.getElem_cons_zero, List.setIfInBounds_toArray, List.set_cons_zero, List.set_cons_succ]
              refine wpAnyH_ready (rs := [4, 18]) (by kernel_rfl) (by simp) ?_
              refine AllReadyH.cons rfl (fun K hK => ?_) (AllReadyH.cons rfl (fun K hK => ?_) AllReadyH.nil)
              · go_simp
                refine hK.out _ _ ?_ (fun hHeld' => ?_)
                · exact SA.out
                clear hK K hHeld
                have hHeld := hHeld'
                clear hHeld'
                try simp only [Act.put, List.getElem_toArray, List.getElem_cons_succ, List.getElem_cons_zero, List.setIfInBounds_toArray, List.set_cons_zero, List.set_cons_succ]
                refine wpAnyH_ready (rs := [18]) (by kernel_rfl) (by simp) ?_
                refine AllReadyH.cons rfl (fun K hK => ?_) AllReadyH.nil
                go_simp
                refine hK.out _ _ ?_ (fun hHeld' => ?_)
                · exact SB.out
                clear hK K hHeld
                have hHeld := hHeld'
                clear hHeld'
                try simp only [Act.put, List.getElem_toArray, List.getElem_cons_succ, List.getElem_cons_zero, List.setIfInBounds_toArray, List.set_cons_zero, List.set_cons_succ]
                refine wpAnyH_ready (rs := [19]) (by kernel_rfl) (by simp) ?_
                refine AllReadyH.cons rfl (fun K hK => ?_) AllReadyH.nil
                refine step_append_run (by rfl) (.tmp 113) (.tmp 127) 104 (by rfl) (by rfl) (by rfl) R.out ?_
                refine hK.out _ _ ?_ (fun hHeld' => ?_)
                · exact SC.out
                clear hK K hHeld
                have hHeld := hHeld'
                clear hHeld'
                try simp only [Act.put, List.getElem_toArray, List.getElem_cons_succ, List.getElem_cons_zero, List.setIfInBounds_toArray, List.set_cons_zero, List.set_cons_succ]
                refine wpAnyH_take (i := 20) (v := ?_) rfl (by kernel_rfl) (by kernel_rfl) (by kernel_rfl) (fun _ _ _ h => h) (Or.inl ⟨by rfl, ?_⟩) (by assumption) ?_
                rotate_left
                · intro w hSw
                  go_simp
                  try with_reducible rfl
                simp only [Act.put, List.getElem_toArray, List.getElem_cons_succ, List.getElem_cons_zero, List.setIfInBounds_toArray, List.set_cons_zero, List.set_cons_succ]
                refine wpAnyH_take (i := 21) (v := ?_) rfl (by kernel_rfl) (by kernel_rfl) (by kernel_rfl) (fun _ _ _ h => h) (Or.inl ⟨by rfl, ?_⟩) (by assumption) ?_
                rotate_left
                · intro w hSw
                  go_simp
                  try with_reducible rfl
                simp only [Act.put, List.getElem_toArray, List.getElem_cons_succ, List.getElem_cons_zero, List.setIfInBounds_toArray, List.set_cons_zero, List.set_cons_succ]
                refine wpAnyH_ready (rs := [22]) (by kernel_rfl) (by simp) ?_
                refine AllReadyH.cons rfl (fun K hK => ?_) AllReadyH.nil
                go_simp
                refine hK.out _ _ ?_ (fun hHeld' => ?_)
                · exact SD.out
                clear hK K hHeld
                have hHeld := hHeld'
                clear hHeld'
                try simp only [Act.put, List.getElem_toArray, List.getElem_cons_succ, List.getElem_cons_zero, List.setIfInBounds_toArray, List.set_cons_zero, List.set_cons_succ]
                refine wpAnyH_done (by kernel_rfl) ?_ _
                clear hHeld SA SB SC SD R c0 c1 c2 d0
                go_wp2_with fail
                go_roundw
                case rel => exact ⟨k + 1, by omega, by go_num, LN⟩
                case measure => simp [intOf]; omega
              · go_simp
                refine hK.out _ _ ?_ (fun hHeld' => ?_)
                · exact SB.out
                clear hK K hHeld
                have hHeld := hHeld'
                clear hHeld'
                try simp only [Act.put, List.getElem_toArray, List.getElem_cons_succ, List.getElem_cons_zero, List.setIfInBounds_toArray, List.set_cons_zero, List.set_cons_succ]
                refine wpAnyH_ready (rs := [4]) (by kernel_rfl) (by simp) ?_
                refine AllReadyH.cons rfl (fun K hK => ?_) AllReadyH.nil
                go_simp
                refine hK.out _ _ ?_ (fun hHeld' => ?_)
                · exact SB.out
                clear hK K hHeld
                have hHeld := hHeld'
                clear hHeld'
                try simp only [Act.put, List.getElem_toArray, List.getElem_cons_succ, List.getElem_cons_zero, List.setIfInBounds_toArray, List.set_cons_zero, List.set_cons_succ]
                refine wpAnyH_ready (rs := [19]) (by kernel_rfl) (by simp) ?_
                refine AllReadyH.cons rfl (fun K hK => ?_) AllReadyH.nil
                refine step_append_run (by rfl) (.tmp 113) (.tmp 127) 104 (by rfl) (by rfl) (by rfl) R.out ?_
                refine hK.out _ _ ?_ (fun hHeld' => ?_)
                · exact SC.out
                clear hK K hHeld
                have hHeld := hHeld'
                clear hHeld'
                try simp only [Act.put, List.getElem_toArray, List.getElem_cons_succ, List.getElem_cons_zero, List.setIfInBounds_toArray, List.set_cons_zero, List.set_cons_succ]
                refine wpAnyH_take (i := 20) (v := ?_) rfl (by kernel_rfl) (by kernel_rfl) (by kernel_rfl) (fun _ _ _ h => h) (Or.inl ⟨by rfl, ?_⟩) (by assumption) ?_
                rotate_left
                · intro w hSw
                  go_simp
                  try with_reducible rfl
                simp only [Act.put, List.getElem_toArray, List.getElem_cons_succ, List.getElem_cons_zero, List.setIfInBounds_toArray, List.set_cons_zero, List.set_cons_succ]
                refine wpAnyH_take (i := 21) (v := ?_) rfl (by kernel_rfl) (by kernel_rfl) (by kernel_rfl) (fun _ _ _ h => h) (Or.inl ⟨by rfl, ?_⟩) (by assumption) ?_
                rotate_left
                · intro w hSw
                  go_simp
                  try with_reducible rfl
                simp only [Act.put, List.getElem_toArray, List.getElem_cons_succ, List.getElem_cons_zero, List.setIfInBounds_toArray, List.set_cons_zero, List.set_cons_succ]
                refine wpAnyH_ready (rs := [22]) (by kernel_rfl) (by simp) ?_
                refine AllReadyH.cons rfl (fun K hK => ?_) AllReadyH.nil
                go_simp
                refine hK.out _ _ ?_ (fun hHeld' => ?_)
                · exact SD.out
                clear hK K hHeld
                have hHeld := hHeld'
                clear hHeld'
                try simp only [Act.put, List.getElem_toArray, List.getElem_cons_succ, List.getElem_cons_zero, List.setIfInBounds_toArray, List.set_cons_zero, List.set_cons_succ]
                refine wpAnyH_done (by kernel_rfl) ?_ _
                clear hHeld SA SB SC SD R c0 c1 c2 d0
                go_wp2_with fail
                go_roundw
                case rel => exact ⟨k + 1, by omega, by go_num, LN⟩
                case measure => simp [intOf]; omega
    · as_aux_lemma =>
      obtain rfl : k = n := by omega
      have hR : Hid (RstOK d) := Lib.hid ((ref_rst d).2 ⟨⟨by rw [HN.out]; have := HB.out.1; omega, by rw [HN.out]; have := HB.out.2; omega⟩, HE.out, fun i p hi => L.out.i i p (by rw [← HN.out]; exact (List.getElem?_eq_some_iff.1 hi).1) hi⟩)
      obtain ⟨v, hv1, hv2⟩ := L.out.v
      rw [List.take_of_length_le (by rw [HN.out]; exact Nat.le_refl _)] at hv2
      obtain ⟨oa, ocap, gn, rfl, hoa, hco, hcap⟩ := rows_own hv2 HN.out.symm
      obtain ⟨hoa', hgn⟩ := hoa (fun e => by have := HN.out; rw [e] at this; have := HB.out.1; simp at *; omega)
      subst hoa'
      have hM : Hid (RMF w wr w.heap.size d) := Lib.hid ⟨gn, ocap, by rw [HN.out]; exact hv1, hco, by rw [HN.out]; exact hcap, hgn⟩
      have hBl := Lib.hid L.out.b
      clear hv1 hv2 hoa hco hcap hgn H1 H2 H3 hlt
      go_wp2
      go_ret2
      exact ⟨Or.inl ⟨hR.out, _, rfl, Nat.le_refl _, hM.out⟩, hBl.out⟩
end Go.Proofs.YtkkkppbcjmeapaaDoor
