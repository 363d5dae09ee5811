/- Restore: which parts are a map. Condition: the three lists are as long as one another; the ends can be measured. -/
import Derived.Test.YtkkkppbcjmeapaaDoorRtC
import Derived.Test.YtkkkppbcjmeapaaDoorRtE
import Derived.RegionTactic
import Derived.ChangeAlike
import Derived.StillTailTactics
import Derived.Deep.DrawnRows
namespace Go.Proofs.YtkkkppbcjmeapaaDoor
open Go.RowKit
attribute [local go_sem ↓] Go.wp_at_zero Go.wp_at_succ

/-- The kit's law for a region whose last operations alone write, its world as one letter's draw. -/
theorem still_tail {P : Program} {id : Nat} {Q : Exit → Act → World → Prop} {a : Act} {w : World} {l : List Oper} (n : Nat) (hm : P.follows .mixedOrders = true) (hB : Region.lexTailB .any l.toArray n = true)
    (h : wpStill P l.toArray w.drew (fun a' => wpList P l.toArray Q (l.drop n) a' w.drew) (l.take n) a) : (Code.region id l.toArray true).wp P Q a w := wp_region_still_tail n hm hB h
/-- Lists whose numbers differ are no map. -/
theorem restore_len (a b c : Option Addr) (n m k c1 c2 c3 : Nat) (w : World) (h : ¬ (m = n ∧ k = n)) (hb : n ≤ 1000000 ∧ m ≤ 1000000 ∧ k ≤ 1000000) :
    Calls Tryd.prog 30 #[.slice a n c1, .slice b m c2, .slice c k c3] w fun e w' => e = .returned (.tuple #[.pointer none, .int .i64 2]) ∧ w = w' := by
  by_cases h0 : n < 1
  · have e1 : (n : Int) < 1 := by omega
    clear h hb
    go_enter Tryd.func30, Tryd.ntmps30
    go_wp2
    go_ret2
    exact ⟨rfl, rfl⟩
  · have e1 : ¬ ((n : Int) < 1) := by omega
    by_cases h1 : n > 64
    · have e2 : (n : Int) > 64 := by omega
      clear h hb
      go_enter Tryd.func30, Tryd.ntmps30
      go_wp2
      go_ret2
      exact ⟨rfl, rfl⟩
    · have e2 : ¬ ((n : Int) > 64) := by omega
      by_cases h2 : m = n
      · have hk : k ≠ n := fun e => h ⟨h2, e⟩
        subst h2
        have e3 : ((k : Int) == (m : Int)) = false := beq_eq_false_iff_ne.2 (by omega)
        have e4 : ((k : Int) = (m : Int)) = False := eq_false (by omega)
        clear h hb hk
        go_enter Tryd.func30, Tryd.ntmps30
        go_wp2
        go_ret2
        exact ⟨rfl, rfl⟩
      · have e3 : ((m : Int) == (n : Int)) = false := beq_eq_false_iff_ne.2 (by omega)
        have e4 : ((m : Int) = (n : Int)) = False := eq_false (by omega)
        clear h hb h2
        go_enter Tryd.func30, Tryd.ntmps30
        go_wp2
        go_ret2
        exact ⟨rfl, rfl⟩
/-- What Restore answers. -/
def RstR (w w' : World) (d : List Pt) (e : Ending) : Prop := (RstOK d ∧ ∃ B, e = .returned (.tuple #[.pointer (some ⟨B, 0, none⟩), .int .i64 0]) ∧ w.heap.size ≤ B ∧ MapAt w' B d) ∨ (¬ RstOK d ∧ e = .returned (.tuple #[.pointer none, .int .i64 2]))
/-- .. and the map's row is made since. -/
def RstF (w w' : World) (d : List Pt) (e : Ending) : Prop := (RstOK d ∧ ∃ B v, e = .returned (.tuple #[.pointer (some ⟨B, 0, none⟩), .int .i64 0]) ∧ w.heap.size ≤ B ∧ Boxed w' B 74 v ∧ w'.ownsRow w.heap.size 89 4 v d.length (flatP d)) ∨ (¬ RstOK d ∧ e = .returned (.tuple #[.pointer none, .int .i64 2]))
theorem RstF.rst {w w' : World} {d : List Pt} {e : Ending} (h : RstF w w' d e) : RstR w w' d e := by
  rcases h with ⟨h1, B, v, h2, h3, h4, h5⟩ | h
  · exact Or.inl ⟨h1, B, h2, h3, v, h4, parts_own h5 rfl⟩
  · exact Or.inr h
theorem row_apart {W : World} {base n size R : Nat} {e t : TypeId} {v : Value} {xs : List Value} {cs : Array Value} (h : W.ownsRow base e size v n xs) (hr : Whole W R t cs) (ht : t ≠ e) : some R ≠ v.ownBlock := by
  rcases h.2 with ⟨rfl, _⟩ | ⟨g, cap, cur, rfl, _, hg, _⟩
  · intro h; cases h
  · intro h
    obtain rfl : R = g := by simpa [Value.ownBlock] using h
    have e := (show W.heap[R]? = _ from hg).symm.trans (show W.heap[R]? = _ from hr)
    injection e with e
    injection e with _ e2 _
    exact ht e2.symm
/-- What the loop of Restore holds. -/
structure RsL (w W : World) (d : List Pt) (k : Nat) : Prop where
  v : ∃ v, Boxed W w.heap.size 74 v ∧ W.ownsRow w.heap.size 89 4 v k (flatP (d.take k))
  b : Below w.heap.size w W
  i : ∀ i p, i < k → d[i]? = some p → RstI d i p
theorem RsL.keep {w W W' : World} {d : List Pt} {k : Nat} (h : RsL w W d k) (hb : Below W.heap.size W W') : RsL w W' d k := by
  obtain ⟨v, h1, h2⟩ := h.v
  exact ⟨⟨v, boxed_keep h1 hb, h2.kept (below_grown hb) (Classical.em _)⟩, h.b.trans (hb.mono h.b.size), h.i⟩
theorem ckI_no {f t : ByteArray} (h : ¬ okR f t = true) : ckI (okR f t) = 2 := by
  rw [Bool.not_eq_true] at h; rw [h]; rfl
theorem ckI_yes {f t : ByteArray} (h : okR f t = true) : ckI (okR f t) = 0 := by rw [h]; rfl
set_option maxRecDepth 100000 in
set_option maxHeartbeats 8000000 in
theorem restore_fresh (d : List Pt) (a b c : Option Addr) (n c1 c2 c3 : Nat) (w : World) (hn : d.length = n) (h1 : SlR w (.slice a n c1) (rgs d)) (h2 : SlI w (.slice b n c2) (grs d)) (h3 : SlI w (.slice c n c3) (eps d)) (hsz : SmallP d) :
    Calls Tryd.prog 30 #[.slice a n c1, .slice b n c2, .slice c n c3] w fun e w' => RstF w w' d e ∧ Below w.heap.size w w' := by
  by_cases h0 : n < 1
  · have e1 : (n : Int) < 1 := by omega
    have HR : Hid (¬ RstOK d) := Lib.hid (fun h => by have := h.1; omega)
    clear h1 h2 h3 hsz hn
    go_enter Tryd.func30, Tryd.ntmps30
    go_wp2
    go_ret2
    exact ⟨Or.inr ⟨HR.out, rfl⟩, Below.refl _ _⟩
  by_cases h4 : n > 64
  · have e1 : ¬ ((n : Int) < 1) := by omega
    have e2 : (n : Int) > 64 := by omega
    have HR : Hid (¬ RstOK d) := Lib.hid (fun h => by have := h.2.1; omega)
    clear h1 h2 h3 hsz hn
    go_enter Tryd.func30, Tryd.ntmps30
    go_wp2
    go_ret2
    exact ⟨Or.inr ⟨HR.out, rfl⟩, Below.refl _ _⟩
  have e1 : ¬ ((n : Int) < 1) := by omega
  have e2 : ¬ ((n : Int) > 64) := by omega
  have HN := Lib.hid hn
  have H1 := Lib.hid h1
  have H2 := Lib.hid h2
  have H3 := Lib.hid h3
  have HZ := Lib.hid hsz
  have HB := Lib.hid (And.intro h0 h4)
  have L0 : Hid (RsL w (w.alloc (.cells #[.slice none 0 0] 74)) d 0) := Lib.hid ⟨⟨_, Boxed.new w _ _, own_nil _ _ _ _⟩, (Below.refl _ _).alloc (Nat.le_refl _) _, fun i p hi => by omega⟩
  clear h0 h4 h1 h2 h3 hsz hn
  go_enter Tryd.func30, Tryd.ntmps30
  go_wp2_with fail
  generalize w.alloc (.cells #[.slice none 0 0] 74) = w0 at L0 ⊢
  clear e1 e2
  go_loopw [39] (fun i wr => ∃ (k : Nat), k ≤ n ∧ i = .int .i64 k ∧ Hid (RsL w wr d k)) (fun i _ => n - (intOf i).toNat)
  case atStart => exact ⟨0, Nat.zero_le _, rfl, L0⟩
  case round =>
    clear L0
    obtain ⟨k, hk, rfl, L⟩ := hrel
    by_cases hlt : k < n
    · as_aux_lemma =>
      have hki : (k : Int) < n := by omega
      have hk0 : (0 : Int) ≤ k := by omega
      have hn64 : n ≤ 64 := by have := HB.out.2; omega
      obtain ⟨p, hp⟩ : ∃ p, d[k]? = some p := ⟨_, List.getElem?_eq_getElem (show k < d.length by rw [HN.out]; exact hlt)⟩
      obtain ⟨g, og, rfl, z0, z1⟩ := (H1.out.keep L.out.b).get (i := k) (p := (p.f, p.t)) (by simp [rgs, hp])
      have hRB : Hid (w.heap.size < wr.heap.size) := Lib.hid (by obtain ⟨_, hv, _⟩ := L.out.v; exact hv.lt)
      obtain ⟨g2, og2, rfl, y0⟩ := (H2.out.keep L.out.b).get (i := k) (p := p.g) (by simp [grs, hp])
      obtain ⟨g3, og3, rfl, x0⟩ := (H3.out.keep L.out.b).get (i := k) (p := p.e) (by simp [eps, hp])
      have HGL : Hid (g2 < w.heap.size ∧ g3 < w.heap.size) := Lib.hid (by
        obtain ⟨_, _, e1, h1⟩ := H2.out.get (i := k) (p := p.g) (by simp [grs, hp])
        obtain ⟨_, _, e2, h2⟩ := H3.out.get (i := k) (p := p.e) (by simp [eps, hp])
        cases e1
        cases e2
        exact ⟨lt_of_cellR h1, lt_of_cellR h2⟩)
      have hsz := HZ.out.at hp
      have HP := Lib.hid hp
      have NR : Hid (¬ RstI d k p → ¬ RstOK d) := Lib.hid (fun h hR => h (hR.2.2 k p hp))
      have hb1 := ((Below.refl wr.heap.size wr).alloc (Nat.le_refl _) (.cells #[.string p.f, .string p.t] 30))
      have L1 := Lib.hid (L.out.keep hb1)
      have R1 := Lib.hid (Whole.new wr 30 #[.string p.f, .string p.t])
      have hwk : IntKind.i64.wrap ((k : Int) + 1) = (k : Int) + 1 := IntWalk.i64_in _ (by omega)
      have hwn : IntKind.i64.wrap ((n : Int) - 1) = (n : Int) - 1 := IntWalk.i64_in _ (by omega)
      have CK := Lib.hid (fun W => check_any p.f p.t W hsz.1 hsz.2)
      have GI := Lib.hid (fun W => isGroup_any p.g W)
      clear hsz hp
      go_upto_if 45 with fail
      clear z0 z1
      have y1 := cell_al (.cells #[.string p.f, .string p.t] 30) y0
      have x1 := cell_al (.cells #[.string p.f, .string p.t] 30) x0
      clear y0 x0
      generalize hw1 : wr.alloc (.cells #[.string p.f, .string p.t] 30) = w1 at L1 R1 y1 x1 ⊢
      go_cut [11] (fun bv wx => bv = .string (befD ⟨#[]⟩ d k) ∧ wx = w1)
      case first => as_aux_lemma =>
        by_cases hk1 : k = 0
        · subst hk1
          go_wp2_with fail
          go_meet
          exact ⟨rfl, rfl⟩
        · obtain ⟨j, hj⟩ : ∃ j, k = j + 1 := ⟨k - 1, by omega⟩
          have hjp : (k : Int) > 0 := by omega
          have hwj : IntKind.i64.wrap ((k : Int) - 1) = (j : Int) := by rw [show (k : Int) - 1 = j by omega]; exact IntWalk.i64_in _ (by omega)
          have hjn : (j : Int) < n := by omega
          have hj0 : (0 : Int) ≤ j := by omega
          obtain ⟨q, hq⟩ : ∃ q, d[j]? = some q := ⟨_, List.getElem?_eq_getElem (show j < d.length by rw [HN.out]; omega)⟩
          have hbe : befD ⟨#[]⟩ d k = q.t := by rw [hj]; simp only [befD, hq]
          obtain ⟨g', og', he, _, z1⟩ := (H1.out.keep L1.out.b).get (i := j) (p := (q.f, q.t)) (by simp [rgs, hq])
          cases he
          have HBE := Lib.hid hbe
          clear hj hq hbe
          go_wp2_with fail
          go_meet
          exact ⟨by rw [HBE.out], rfl⟩
      case rest =>
        obtain ⟨rfl, rfl⟩ := hcut
        generalize wc = w5 at L1 R1 y1 x1 ⊢
        obtain ⟨lb, hlb⟩ : ∃ lb : Bool, lb = decide (k + 1 = n) := ⟨_, rfl⟩
        have q1 : ((k : Int) == (n : Int) - 1) = lb := by
          rw [hlb, Bool.eq_iff_iff, beq_iff_eq, decide_eq_true_eq]; omega
        have q2 : decide ((k : Int) = (n : Int) - 1) = lb := by
          rw [hlb, Bool.eq_iff_iff, decide_eq_true_eq, decide_eq_true_eq]; omega
        have HLB := Lib.hid hlb
        clear hlb
        go_upto_region 11 with fail
        clear q1 q2
        go_cut [94] (fun cv wx => ∃ b, cv = .bool b ∧ (b = true ↔ ¬ RstI d k p) ∧ Hid (Below w5.heap.size w5 wx))
        case first => as_aux_lemma =>
          have r0 := (R1.out.cell 0).trans (show _ = some (Value.string p.f) from rfl)
          have r1 := (R1.out.cell 1).trans (show _ = some (Value.string p.t) from rfl)
          go_wp2_with fail
          refine (CK.out _).mono ?_
          rintro e w2 ⟨rfl, hb⟩
          have s0 := (hb.cell (lt_of_cellR r0)).trans r0
          have s1 := (hb.cell (lt_of_cellR r1)).trans r1
          have s2 := (hb.cell (lt_of_cellR y1)).trans y1
          have s3 := (hb.cell (lt_of_cellR x1)).trans x1
          have HB2 := Lib.hid hb
          clear r0 r1 y1 x1 hb
          by_cases a1 : okR p.f p.t = true
          · have A1 := Lib.hid a1
            rw [ckI_yes a1]
            clear a1
            by_cases a2 : p.f = befD ⟨#[]⟩ d k
            · have A2 := Lib.hid a2
              have a2' : (p.f.toList == (befD ⟨#[]⟩ d k).toList) = true := by rw [← a2]; exact beq_self_eq_true _
              clear a2
              by_cases a3 : p.t = ⟨#[]⟩
              · cases lb with
                | true => as_aux_lemma =>
                  have A3 : Hid (p.t = ⟨#[]⟩ ↔ k + 1 = d.length) := Lib.hid ⟨fun _ => by rw [HN.out]; exact of_decide_eq_true HLB.out.symm, fun _ => a3⟩
                  rw [a3] at s1
                  clear a3
                  by_cases a4 : 1 ≤ p.g ∧ p.g < 8
                  · have A4 := Lib.hid a4
                    have GI := Lib.hid (fun W => by have := GI.out W; rw [decide_eq_true a4] at this; exact this)
                    clear a4
                    by_cases a5 : p.e < 1
                    · go_wp2_with fail
                      refine (GI.out _).mono ?_
                      rintro e w3 ⟨rfl, rfl⟩
                      go_wp2_with fail
                      go_meet
                      exact ⟨true, rfl, ⟨fun _ h => by have := h.2.2.2.2.1; omega, fun _ => rfl⟩, HB2⟩
                    · by_cases a6 : p.e > 2147483648
                      · go_wp2_with fail
                        refine (GI.out _).mono ?_
                        rintro e w3 ⟨rfl, rfl⟩
                        go_wp2_with fail
                        go_meet
                        exact ⟨true, rfl, ⟨fun _ h => by have := h.2.2.2.2.2; omega, fun _ => rfl⟩, HB2⟩
                      · go_wp2_with fail
                        refine (GI.out _).mono ?_
                        rintro e w3 ⟨rfl, rfl⟩
                        go_wp2_with fail
                        go_meet
                        exact ⟨false, congrArg Value.bool (by rw [decide_eq_false (show ¬ p.e < 1 by omega), decide_eq_false (show ¬ 2147483648 < p.e by omega)]; rfl), ⟨fun h => (by cases h), fun h => absurd (show RstI d k p from ⟨A1.out, A2.out, A3.out, A4.out, by omega, by omega⟩) h⟩, HB2⟩
                  · have A4 := Lib.hid a4
                    have GI := Lib.hid (fun W => by have := GI.out W; rw [decide_eq_false a4] at this; exact this)
                    clear a4
                    go_wp2_with fail
                    refine (GI.out _).mono ?_
                    rintro e w3 ⟨rfl, rfl⟩
                    go_wp2_with fail
                    go_meet
                    exact ⟨true, rfl, ⟨fun _ h => A4.out h.2.2.2.1, fun _ => rfl⟩, HB2⟩
                | false => as_aux_lemma =>
                  have A3 : Hid (RstI d k p → False) := Lib.hid (fun h => by exact of_decide_eq_false HLB.out.symm ((h.2.2.1.1 a3).trans HN.out))
                  rw [a3] at s1
                  clear a3
                  go_wp2_with fail
                  go_meet
                  exact ⟨true, rfl, ⟨fun _ h => A3.out h, fun _ => rfl⟩, HB2⟩
              · have a3' : (p.t.toList == (⟨#[]⟩ : ByteArray).toList) = false := beq_eq_false_iff_ne.2 (fun h => a3 (ba_eq h))
                have a3'' : (p.t.toList == ([] : List UInt8)) = false := by rw [show (⟨#[]⟩ : ByteArray).toList = ([] : List UInt8) by rw [ByteArray.toList_eq]] at a3'; exact a3'
                cases lb with
                | false => as_aux_lemma =>
                  have A3 : Hid (p.t = ⟨#[]⟩ ↔ k + 1 = d.length) := Lib.hid ⟨fun h => absurd h a3, fun h => by rw [HN.out] at h; exact absurd h (of_decide_eq_false HLB.out.symm)⟩
                  clear a3
                  by_cases a4 : 1 ≤ p.g ∧ p.g < 8
                  · have A4 := Lib.hid a4
                    have GI := Lib.hid (fun W => by have := GI.out W; rw [decide_eq_true a4] at this; exact this)
                    clear a4
                    by_cases a5 : p.e < 1
                    · go_wp2_with fail
                      refine (GI.out _).mono ?_
                      rintro e w3 ⟨rfl, rfl⟩
                      go_wp2_with fail
                      go_meet
                      exact ⟨true, rfl, ⟨fun _ h => by have := h.2.2.2.2.1; omega, fun _ => rfl⟩, HB2⟩
                    · by_cases a6 : p.e > 2147483648
                      · go_wp2_with fail
                        refine (GI.out _).mono ?_
                        rintro e w3 ⟨rfl, rfl⟩
                        go_wp2_with fail
                        go_meet
                        exact ⟨true, rfl, ⟨fun _ h => by have := h.2.2.2.2.2; omega, fun _ => rfl⟩, HB2⟩
                      · go_wp2_with fail
                        refine (GI.out _).mono ?_
                        rintro e w3 ⟨rfl, rfl⟩
                        go_wp2_with fail
                        go_meet
                        exact ⟨false, congrArg Value.bool (by rw [decide_eq_false (show ¬ p.e < 1 by omega), decide_eq_false (show ¬ 2147483648 < p.e by omega)]; rfl), ⟨fun h => (by cases h), fun h => absurd (show RstI d k p from ⟨A1.out, A2.out, A3.out, A4.out, by omega, by omega⟩) h⟩, HB2⟩
                  · have A4 := Lib.hid a4
                    have GI := Lib.hid (fun W => by have := GI.out W; rw [decide_eq_false a4] at this; exact this)
                    clear a4
                    go_wp2_with fail
                    refine (GI.out _).mono ?_
                    rintro e w3 ⟨rfl, rfl⟩
                    go_wp2_with fail
                    go_meet
                    exact ⟨true, rfl, ⟨fun _ h => A4.out h.2.2.2.1, fun _ => rfl⟩, HB2⟩
                | true => as_aux_lemma =>
                  have A3 : Hid (RstI d k p → False) := Lib.hid (fun h => a3 (h.2.2.1.2 (by rw [HN.out]; exact of_decide_eq_true HLB.out.symm)))
                  clear a3
                  go_wp2_with fail
                  go_meet
                  exact ⟨true, rfl, ⟨fun _ h => A3.out h, fun _ => rfl⟩, HB2⟩
            · have a2' : (p.f.toList == (befD ⟨#[]⟩ d k).toList) = false := beq_eq_false_iff_ne.2 (fun h => a2 (ba_eq h))
              have A2 : Hid (RstI d k p → False) := Lib.hid (fun h => a2 h.2.1)
              clear a2
              go_wp2_with fail
              go_meet
              exact ⟨true, rfl, ⟨fun _ h => A2.out h, fun _ => rfl⟩, HB2⟩
          · have A1 : Hid (RstI d k p → False) := Lib.hid (fun h => a1 h.1)
            rw [ckI_no a1]
            clear a1
            go_wp2_with fail
            go_meet
            exact ⟨true, rfl, ⟨fun _ h => A1.out h, fun _ => rfl⟩, HB2⟩
        case rest =>
          obtain ⟨b, rfl, hb, HBL⟩ := hcut
          generalize wc = w6 at HBL ⊢
          cases b with
          | true => as_aux_lemma =>
            have HN2 : Hid (¬ RstOK d) := Lib.hid (NR.out (hb.1 rfl))
            have BE := Lib.hid (L1.out.b.trans (HBL.out.mono L1.out.b.size))
            clear hb HBL L1 R1 y1 x1 H1 H2 H3
            go_wp2
            go_ret2
            exact ⟨Or.inr ⟨HN2.out, rfl⟩, BE.out⟩
          | false => as_aux_lemma =>
            have hI : Hid (RstI d k p) := Lib.hid (Classical.byContradiction fun h => by cases hb.2 h)
            have L6 := Lib.hid (L1.out.keep HBL.out)
            have R6 := R1.out.below HBL.out R1.out.lt
            have y6 := (HBL.out.cell (lt_of_cellR y1)).trans y1
            have x6 := (HBL.out.cell (lt_of_cellR x1)).trans x1
            clear hb HBL L1 R1 y1 x1 CK GI NR HLB H1 H2 H3
            have r0 := (R6.cell 0).trans (show _ = some (Value.string p.f) from rfl)
            have r1 := (R6.cell 1).trans (show _ = some (Value.string p.t) from rfl)
            obtain ⟨v, v1, v2⟩ := L6.out.v
            have bz := L6.out.b.size
            have hv2lt := fun q e => (v2.lt q e).1
            have own2 : ((w6.alloc (.cells #[.string p.f, .string p.t, .int .i64 p.g, .int .i64 p.e] 89)).drew).ownsRow w.heap.size 89 4 v k (flatP (d.take k)) := (v2.alloc (.cells #[.string p.f, .string p.t, .int .i64 p.g, .int .i64 p.e] 89)).kept (below_grown (Below.refl _ _).drew) (Classical.em _)
            obtain ⟨v', w', hrun, hown', hgrow⟩ := run_app_pt _ _ _ _ _ own2 ⟨w6.heap.size, 0, none⟩ 1 1 [.string p.f, .string p.t, .int .i64 p.g, .int .i64 p.e] rfl (news_at w6 89 [.string p.f, .string p.t, .int .i64 p.g, .int .i64 p.e] _ rfl) (by intro u hu; simp at hu; rcases hu with rfl | rfl | rfl | rfl <;> rfl) (by omega) (by simp; omega)
            have v1' : Boxed w6.drew w.heap.size 74 v := boxed_keep v1 (Below.refl _ _).drew
            have v2' : (w6.drew).ownsRow w.heap.size 89 4 v k (flatP (d.take k)) := v2.kept (below_grown (Below.refl _ _).drew) (Classical.em _)
            have hgrow' : ((w6.drew).alloc (.cells #[.string p.f, .string p.t, .int .i64 p.g, .int .i64 p.e] 89)).grownBy w' v.ownBlock := hgrow
            obtain ⟨b1, b2, b3, _, b5⟩ := Boxed.appended v1' (by decide) v2' (by simp; omega) (Nat.le_refl _) hown' hgrow'
            have hrow := row_apart v2 R6 (by decide)
            have hRlt := R6.lt
            have hRne : wr.heap.size ≠ w.heap.size := by have := L6.out.v; have := hRB.out; omega
            have R7 : Whole w' wr.heap.size 30 #[.string p.f, .string p.t] := (hgrow.block wr.heap.size (by simp; omega) hrow).trans (R6.alloc (.cells #[.string p.f, .string p.t, .int .i64 p.g, .int .i64 p.e] 89))
            have b6 : Below w.heap.size w6 w' := (((Below.refl _ _).alloc bz (.cells #[.string p.f, .string p.t, .int .i64 p.g, .int .i64 p.e] 89)).drew).grown hgrow (by simp; omega) hv2lt
            obtain ⟨g4, k4, rfl⟩ := ownsRow_succ hown'
            have e0 : flatP (d.take k) ++ [.string p.f, .string p.t, .int .i64 p.g, .int .i64 p.e] = flatP (d.take (k + 1)) := by
              rw [List.take_add_one, HP.out]; simp [flatP, ptC]
            have b7 : Below w.heap.size w6 (w'.setCell ⟨w.heap.size, 0, none⟩ (.slice (some ⟨g4, 0, none⟩) (k + 1) k4)) := ((Below.refl _ _).drew).trans b5
            have R8 : Whole (w'.setCell ⟨w.heap.size, 0, none⟩ (.slice (some ⟨g4, 0, none⟩) (k + 1) k4)) wr.heap.size 30 #[.string p.f, .string p.t] := whole_set R7 hRne _
            have LN : Hid (RsL w (w'.setCell ⟨w.heap.size, 0, none⟩ (.slice (some ⟨g4, 0, none⟩) (k + 1) k4)) d (k + 1)) := Lib.hid ⟨⟨_, b2, by rw [← e0]; exact b3⟩, L6.out.b.trans b7, fun i q hi hq => by
              by_cases e : i = k
              · subst e
                rw [HP.out] at hq
                cases hq
                exact hI.out
              · exact L6.out.i i q (by omega) hq⟩
            have R := Lib.hid hrun
            have c0 := v1.cell
            have c1 := b1.cell
            have c2 := b1.frozen
            have d0 := cell_al (.cells #[.string p.f, .string p.t, .int .i64 p.g, .int .i64 p.e] 89) c0
            have SA : Hid (w6.cell? ⟨wr.heap.size, 0, none⟩ = some (.string p.f) ∧ w6.cell? ⟨wr.heap.size, 1, none⟩ = some (.string p.t) ∧ w6.cell? ⟨g2, og2 + k, none⟩ = some (.int .i64 p.g) ∧ w6.cell? ⟨g3, og3 + k, none⟩ = some (.int .i64 p.e)) := Lib.hid ⟨r0, r1, y6, x6⟩
            have SB : Hid ((w6.alloc (.cells #[.string p.f, .string p.t, .int .i64 p.g, .int .i64 p.e] 89)).cell? ⟨wr.heap.size, 0, none⟩ = some (.string p.f) ∧ (w6.alloc (.cells #[.string p.f, .string p.t, .int .i64 p.g, .int .i64 p.e] 89)).cell? ⟨wr.heap.size, 1, none⟩ = some (.string p.t) ∧ (w6.alloc (.cells #[.string p.f, .string p.t, .int .i64 p.g, .int .i64 p.e] 89)).cell? ⟨g2, og2 + k, none⟩ = some (.int .i64 p.g) ∧ (w6.alloc (.cells #[.string p.f, .string p.t, .int .i64 p.g, .int .i64 p.e] 89)).cell? ⟨g3, og3 + k, none⟩ = some (.int .i64 p.e)) := Lib.hid ⟨cell_al _ r0, cell_al _ r1, cell_al _ y6, cell_al _ x6⟩
            have SC : Hid (w'.cell? ⟨wr.heap.size, 0, none⟩ = some (.string p.f) ∧ w'.cell? ⟨wr.heap.size, 1, none⟩ = some (.string p.t) ∧ w'.cell? ⟨g2, og2 + k, none⟩ = some (.int .i64 p.g) ∧ w'.cell? ⟨g3, og3 + k, none⟩ = some (.int .i64 p.e)) := Lib.hid ⟨R7.cell 0, R7.cell 1, (b6.cell HGL.out.1).trans y6, (b6.cell HGL.out.2).trans x6⟩
            have SD : Hid ((w'.setCell ⟨w.heap.size, 0, none⟩ (.slice (some ⟨g4, 0, none⟩) (k + 1) k4)).cell? ⟨wr.heap.size, 0, none⟩ = some (.string p.f) ∧ (w'.setCell ⟨w.heap.size, 0, none⟩ (.slice (some ⟨g4, 0, none⟩) (k + 1) k4)).cell? ⟨wr.heap.size, 1, none⟩ = some (.string p.t) ∧ (w'.setCell ⟨w.heap.size, 0, none⟩ (.slice (some ⟨g4, 0, none⟩) (k + 1) k4)).cell? ⟨g2, og2 + k, none⟩ = some (.int .i64 p.g) ∧ (w'.setCell ⟨w.heap.size, 0, none⟩ (.slice (some ⟨g4, 0, none⟩) (k + 1) k4)).cell? ⟨g3, og3 + k, none⟩ = some (.int .i64 p.e)) := Lib.hid ⟨R8.cell 0, R8.cell 1, (b7.cell HGL.out.1).trans y6, (b7.cell HGL.out.2).trans x6⟩
            clear hrun own2 hown' hgrow hgrow' b1 b2 b3 b5 b6 b7 e0 v1 v2 v1' v2' bz L6 R6 R7 R8 r0 r1 y6 x6 hv2lt hrow hRlt hRne
            go_wp2_with fail
            refine wp_region_held_drew (S := fun wx => wx.cell? ⟨wr.heap.size, 0, none⟩ = some (.string p.f) ∧ wx.cell? ⟨wr.heap.size, 1, none⟩ = some (.string p.t) ∧ wx.cell? ⟨g2, og2 + k, none⟩ = some (.int .i64 p.g) ∧ wx.cell? ⟨g3, og3 + k, none⟩ = some (.int .i64 p.e)) (by kernel_rfl) SA.out (fun hHeld => ?_)
            refine wpAnyH_take (i := 0) (v := ?_) rfl (by kernel_rfl) (by kernel_rfl) (by kernel_rfl) (fun _ _ _ h => h) (Or.inl ⟨by rfl, ?_⟩) (by assumption) ?_
            rotate_left
            · intro w hSw
              go_simp
              try with_reducible rfl
            simp only [Act.put, List.getElem_toArray, List.getElem_cons_zero, List.setIfInBounds_toArray, List.set_cons_zero, List.set_cons_succ]
            refine wpAnyH_take (i := 1) (v := ?_) rfl (by kernel_rfl) (by kernel_rfl) (by kernel_rfl) (fun _ _ _ h => h) (Or.inl ⟨by rfl, ?_⟩) (by assumption) ?_
            rotate_left
            · intro w hSw
              go_simp
              try with_reducible rfl
            simp only [Act.put, List.getElem_toArray, List.getElem_cons_succ, List.getElem_cons_zero, List.setIfInBounds_toArray, List.set_cons_zero, List.set_cons_succ]
            refine wpAnyH_take (i := 2) (v := ?_) rfl (by kernel_rfl) (by kernel_rfl) (by kernel_rfl) (fun _ _ _ h => h) (Or.inl ⟨by rfl, ?_⟩) (by assumption) ?_
            rotate_left
            · intro w hSw
              go_simp
              try with_reducible rfl
            simp only [Act.put, List.getElem_toArray, List.getElem_cons_succ, List.getElem_cons_zero, List.setIfInBounds_toArray, List.set_cons_zero, List.set_cons_succ]
            refine wpAnyH_take (i := 3) (v := ?_) rfl (by kernel_rfl) (by kernel_rfl) (by kernel_rfl) (fun _ _ _ h => h) (Or.inl ⟨by rfl, ?_⟩) (by assumption) ?_
            rotate_left
            · intro w hSw
              go_simp
              try with_reducible rfl
            simp only [Act.put, List.getElem_toArray, List.getElem_cons_succ, List.getElem_cons_zero, List.setIfInBounds_toArray, List.set_cons_zero, List.set_cons_succ]
            refine wpAnyH_take (i := 5) (v := ?_) rfl (by kernel_rfl) (by kernel_rfl) (by kernel_rfl) (fun _ _ _ h => h) (Or.inl ⟨by rfl, ?_⟩) (by assumption) ?_
            rotate_left
            · intro w hSw
              go_simp
              try with_reducible rfl
            simp only [Act.put, List.getElem_toArray, List.getElem_cons_succ, List.getElem_cons_zero, List.setIfInBounds_toArray, List.set_cons_zero, List.set_cons_succ]
            refine wpAnyH_take (i := 6) (v := ?_) rfl (by kernel_rfl) (by kernel_rfl) (by kernel_rfl) (fun _ _ _ h => h) (Or.inl ⟨by rfl, ?_⟩) (by assumption) ?_
            rotate_left
            · intro w hSw
              go_simp
              try with_reducible rfl
            simp only [Act.put, List.getElem_toArray, List.getElem_cons_succ, List.getElem_cons_zero, List.setIfInBounds_toArray, List.set_cons_zero, List.set_cons_succ]
            refine wpAnyH_take (i := 7) (v := ?_) rfl (by kernel_rfl) (by kernel_rfl) (by kernel_rfl) (fun _ _ _ h => h) (Or.inl ⟨by rfl, ?_⟩) (by assumption) ?_
            rotate_left
            · intro w hSw
              go_simp
              try with_reducible rfl
            simp only [Act.put, List.getElem_toArray, List.getElem_cons_succ, List.getElem_cons_zero, List.setIfInBounds_toArray, List.set_cons_zero, List.set_cons_succ]
            refine wpAnyH_take (i := 8) (v := ?_) rfl (by kernel_rfl) (by kernel_rfl) (by kernel_rfl) (fun _ _ _ h => h) (Or.inl ⟨by rfl, ?_⟩) (by assumption) ?_
            rotate_left
            · intro w hSw
              go_simp
              try with_reducible rfl
            simp only [Act.put, List.getElem_toArray, List.getElem_cons_succ, List.getElem_cons_zero, List.setIfInBounds_toArray, List.set_cons_zero, List.set_cons_succ]
            refine wpAnyH_take (i := 9) (v := ?_) rfl (by kernel_rfl) (by kernel_rfl) (by kernel_rfl) (fun _ _ _ h => h) (Or.inl ⟨by rfl, ?_⟩) (by assumption) ?_
            rotate_left
            · intro w hSw
              go_simp
              try with_reducible rfl
            simp only [Act.put, List.getElem_toArray, List.getElem_cons_succ, List.getElem_cons_zero, List.setIfInBounds_toArray, List.set_cons_zero, List.set_cons_succ]
            refine wpAnyH_take (i := 10) (v := ?_) rfl (by kernel_rfl) (by kernel_rfl) (by kernel_rfl) (fun _ _ _ h => h) (Or.inl ⟨by rfl, ?_⟩) (by assumption) ?_
            rotate_left
            · intro w hSw
              go_simp
              try with_reducible rfl
            simp only [Act.put, List.getElem_toArray, List.getElem_cons_succ, List.getElem_cons_zero, List.setIfInBounds_toArray, List.set_cons_zero, List.set_cons_succ]
            refine wpAnyH_take (i := 11) (v := ?_) rfl (by kernel_rfl) (by kernel_rfl) (by kernel_rfl) (fun _ _ _ h => h) (Or.inl ⟨by rfl, ?_⟩) (by assumption) ?_
            rotate_left
            · intro w hSw
              go_simp
              try with_reducible rfl
            simp only [Act.put, List.getElem_toArray, List.getElem_cons_succ, List.getElem_cons_zero, List.setIfInBounds_toArray, List.set_cons_zero, List.set_cons_succ]
            refine wpAnyH_take (i := 12) (v := ?_) rfl (by kernel_rfl) (by kernel_rfl) (by kernel_rfl) (fun _ _ _ h => h) (Or.inl ⟨by rfl, ?_⟩) (by assumption) ?_
            rotate_left
            · intro w hSw
              go_simp
              try with_reducible rfl
            simp only [Act.put, List.getElem_toArray, List.getElem_cons_succ, List.getElem_cons_zero, List.setIfInBounds_toArray, List.set_cons_zero, List.set_cons_succ]
            refine wpAnyH_take (i := 13) (v := ?_) rfl (by kernel_rfl) (by kernel_rfl) (by kernel_rfl) (fun _ _ _ h => h) (Or.inl ⟨by rfl, ?_⟩) (by assumption) ?_
            rotate_left
            · intro w hSw
              go_simp
              try with_reducible rfl
            simp only [Act.put, List.getElem_toArray, List.getElem_cons_succ, List.getElem_cons_zero, List.setIfInBounds_toArray, List.set_cons_zero, List.set_cons_succ]
            refine wpAnyH_take (i := 14) (v := ?_) rfl (by kernel_rfl) (by kernel_rfl) (by kernel_rfl) (fun _ _ _ h => h) (Or.inl ⟨by rfl, ?_⟩) (by assumption) ?_
            rotate_left
            · intro w hSw
              go_simp
              try with_reducible rfl
            simp only [Act.put, List.getElem_toArray, List.getElem_cons_succ, List.getElem_cons_zero, List.setIfInBounds_toArray, List.set_cons_zero, List.set_cons_succ]
            refine wpAnyH_ready (rs := [4, 15]) (by kernel_rfl) (by simp) ?_
            refine AllReadyH.cons rfl (fun K hK => ?_) (AllReadyH.cons rfl (fun K hK => ?_) AllReadyH.nil)
            · go_simp
              refine hK.out _ _ ?_ (fun hHeld' => ?_)
              · exact SA.out
              clear hK K hHeld
              have hHeld := hHeld'
              clear hHeld'
              try simp only [Act.put, List.getElem_toArray, List.getElem_cons_succ, List.getElem_cons_zero, List.setIfInBounds_toArray, List.set_cons_zero, List.set_cons_succ]
              refine wpAnyH_ready (rs := [15]) (by kernel_rfl) (by simp) ?_
              refine AllReadyH.cons rfl (fun K hK => ?_) AllReadyH.nil
              go_simp
              refine hK.out _ _ ?_ (fun hHeld' => ?_)
              · exact SB.out
              clear hK K hHeld
              have hHeld := hHeld'
              clear hHeld'
              try simp only [Act.put, List.getElem_toArray, List.getElem_cons_succ, List.getElem_cons_zero, List.setIfInBounds_toArray, List.set_cons_zero, List.set_cons_succ]
              refine wpAnyH_ready (rs := [16]) (by kernel_rfl) (by simp) ?_
              refine AllReadyH.cons rfl (fun K hK => ?_) AllReadyH.nil
              refine step_append_run (by rfl) (.tmp 99) (.tmp 110) 72 (by rfl) (by rfl) (by rfl) R.out ?_
              refine hK.out _ _ ?_ (fun hHeld' => ?_)
              · exact SC.out
              clear hK K hHeld
              have hHeld := hHeld'
              clear hHeld'
              try simp only [Act.put, List.getElem_toArray, List.getElem_cons_succ, List.getElem_cons_zero, List.setIfInBounds_toArray, List.set_cons_zero, List.set_cons_succ]
              refine wpAnyH_take (i := 17) (v := ?_) rfl (by kernel_rfl) (by kernel_rfl) (by kernel_rfl) (fun _ _ _ h => h) (Or.inl ⟨by rfl, ?_⟩) (by assumption) ?_
              rotate_left
              · intro w hSw
                go_simp
                try with_reducible rfl
              simp only [Act.put, List.getElem_toArray, List.getElem_cons_succ, List.getElem_cons_zero, List.setIfInBounds_toArray, List.set_cons_zero, List.set_cons_succ]
              refine wpAnyH_take (i := 18) (v := ?_) rfl (by kernel_rfl) (by kernel_rfl) (by kernel_rfl) (fun _ _ _ h => h) (Or.inl ⟨by rfl, ?_⟩) (by assumption) ?_
              rotate_left
              · intro w hSw
                go_simp
                try with_reducible rfl
              simp only [Act.put, List.getElem_toArray, List.getElem_cons_succ, List.getElem_cons_zero, List.setIfInBounds_toArray, List.set_cons_zero, List.set_cons_succ]
              refine wpAnyH_ready (rs := [19]) (by kernel_rfl) (by simp) ?_
              refine AllReadyH.cons rfl (fun K hK => ?_) AllReadyH.nil
              go_simp
              refine hK.out _ _ ?_ (fun hHeld' => ?_)
              · exact SD.out
              clear hK K hHeld
              have hHeld := hHeld'
              clear hHeld'
              try simp only [Act.put, List.getElem_toArray, List.getElem_cons_succ, List.getElem_cons_zero, List.setIfInBounds_toArray, List.set_cons_zero, List.set_cons_succ]
              refine wpAnyH_done (by kernel_rfl) ?_ _
              clear hHeld SA SB SC SD R c0 c1 c2 d0
              go_wp2_with fail
              go_roundw
              case rel => exact ⟨k + 1, by omega, by go_num, LN⟩
              case measure => simp [intOf]; omega
            · go_simp
              refine hK.out _ _ ?_ (fun hHeld' => ?_)
              · exact SB.out
              clear hK K hHeld
              have hHeld := hHeld'
              clear hHeld'
              try simp only [Act.put, List.getElem_toArray, List.getElem_cons_succ, List.getElem_cons_zero, List.setIfInBounds_toArray, List.set_cons_zero, List.set_cons_succ]
              refine wpAnyH_ready (rs := [4]) (by kernel_rfl) (by simp) ?_
              refine AllReadyH.cons rfl (fun K hK => ?_) AllReadyH.nil
              go_simp
              refine hK.out _ _ ?_ (fun hHeld' => ?_)
              · exact SB.out
              clear hK K hHeld
              have hHeld := hHeld'
              clear hHeld'
              try simp only [Act.put, List.getElem_toArray, List.getElem_cons_succ, List.getElem_cons_zero, List.setIfInBounds_toArray, List.set_cons_zero, List.set_cons_succ]
              refine wpAnyH_ready (rs := [16]) (by kernel_rfl) (by simp) ?_
              refine AllReadyH.cons rfl (fun K hK => ?_) AllReadyH.nil
              refine step_append_run (by rfl) (.tmp 99) (.tmp 110) 72 (by rfl) (by rfl) (by rfl) R.out ?_
              refine hK.out _ _ ?_ (fun hHeld' => ?_)
              · exact SC.out
              clear hK K hHeld
              have hHeld := hHeld'
              clear hHeld'
              try simp only [Act.put, List.getElem_toArray, List.getElem_cons_succ, List.getElem_cons_zero, List.setIfInBounds_toArray, List.set_cons_zero, List.set_cons_succ]
              refine wpAnyH_take (i := 17) (v := ?_) rfl (by kernel_rfl) (by kernel_rfl) (by kernel_rfl) (fun _ _ _ h => h) (Or.inl ⟨by rfl, ?_⟩) (by assumption) ?_
              rotate_left
              · intro w hSw
                go_simp
                try with_reducible rfl
              simp only [Act.put, List.getElem_toArray, List.getElem_cons_succ, List.getElem_cons_zero, List.setIfInBounds_toArray, List.set_cons_zero, List.set_cons_succ]
              refine wpAnyH_take (i := 18) (v := ?_) rfl (by kernel_rfl) (by kernel_rfl) (by kernel_rfl) (fun _ _ _ h => h) (Or.inl ⟨by rfl, ?_⟩) (by assumption) ?_
              rotate_left
              · intro w hSw
                go_simp
                try with_reducible rfl
              simp only [Act.put, List.getElem_toArray, List.getElem_cons_succ, List.getElem_cons_zero, List.setIfInBounds_toArray, List.set_cons_zero, List.set_cons_succ]
              refine wpAnyH_ready (rs := [19]) (by kernel_rfl) (by simp) ?_
              refine AllReadyH.cons rfl (fun K hK => ?_) AllReadyH.nil
              go_simp
              refine hK.out _ _ ?_ (fun hHeld' => ?_)
              · exact SD.out
              clear hK K hHeld
              have hHeld := hHeld'
              clear hHeld'
              try simp only [Act.put, List.getElem_toArray, List.getElem_cons_succ, List.getElem_cons_zero, List.setIfInBounds_toArray, List.set_cons_zero, List.set_cons_succ]
              refine wpAnyH_done (by kernel_rfl) ?_ _
              clear hHeld SA SB SC SD R c0 c1 c2 d0
              go_wp2_with fail
              go_roundw
              case rel => exact ⟨k + 1, by omega, by go_num, LN⟩
              case measure => simp [intOf]; omega
    · obtain rfl : k = n := by omega
      have hR : Hid (RstOK d) := Lib.hid ⟨by rw [HN.out]; have := HB.out.1; omega, by rw [HN.out]; have := HB.out.2; omega, fun i p hi => L.out.i i p (by rw [← HN.out]; exact (List.getElem?_eq_some_iff.1 hi).1) hi⟩
      obtain ⟨v, hv1, hv2⟩ := L.out.v
      rw [List.take_of_length_le (by rw [HN.out]; exact Nat.le_refl _)] at hv2
      have hM : Hid (Boxed wr w.heap.size 74 v ∧ wr.ownsRow w.heap.size 89 4 v d.length (flatP d)) := Lib.hid ⟨hv1, by rw [HN.out]; exact hv2⟩
      have hBl := Lib.hid L.out.b
      clear hv1 hv2
      go_wp2
      go_ret2
      exact ⟨Or.inl ⟨hR.out, _, v, rfl, Nat.le_refl _, hM.out.1, hM.out.2⟩, hBl.out⟩
theorem restore_any (d : List Pt) (a b c : Option Addr) (n c1 c2 c3 : Nat) (w : World) (hn : d.length = n) (h1 : SlR w (.slice a n c1) (rgs d)) (h2 : SlI w (.slice b n c2) (grs d)) (h3 : SlI w (.slice c n c3) (eps d)) (hsz : SmallP d) :
    Calls Tryd.prog 30 #[.slice a n c1, .slice b n c2, .slice c n c3] w fun e w' => RstR w w' d e ∧ Below w.heap.size w w' :=
  (restore_fresh d a b c n c1 c2 c3 w hn h1 h2 h3 hsz).mono (fun _ _ ⟨h, hb⟩ => ⟨h.rst, hb⟩)
end Go.Proofs.YtkkkppbcjmeapaaDoor
