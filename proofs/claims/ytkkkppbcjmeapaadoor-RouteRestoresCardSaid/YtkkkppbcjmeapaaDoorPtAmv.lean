/- A move of the account, as it is called. Condition: groups and epochs are small. -/
import Derived.Test.YtkkkppbcjmeapaaDoorPtAcc
namespace Go.Proofs.YtkkkppbcjmeapaaDoor
open Go.RowKit

theorem gb_refl (W : World) (r : Option Nat) : W.grownBy W r := ⟨rfl, rfl, rfl, Nat.le_refl _, fun _ _ _ => rfl⟩
theorem gb_below {W W' W'' : World} {r : Option Nat} (h : W.grownBy W' r) (hb : Below W'.heap.size W' W'') : W.grownBy W'' r :=
  ⟨hb.os.trans h.os, hb.tape.trans h.tape, hb.output.trans h.output, Nat.le_trans h.size hb.size, fun k hk hne => (hb.block k (Nat.lt_of_lt_of_le hk h.size)).trans (h.block k hk hne)⟩
theorem gb_low {W W' W'' : World} {r : Option Nat} (hb : Below W.heap.size W W') (h : W'.grownBy W'' r) : W.grownBy W'' r :=
  ⟨h.os.trans hb.os, h.tape.trans hb.tape, h.output.trans hb.output, Nat.le_trans hb.size h.size, fun k hk hne => (h.block k (Nat.lt_of_lt_of_le hk hb.size) hne).trans (hb.block k hk)⟩
theorem gb_set {W W' : World} {A : Nat} (h : W.grownBy W' (some A)) (i : Nat) (v : Value) : W.grownBy (W'.setCell ⟨A, i, none⟩ v) (some A) :=
  ⟨h.os, h.tape, h.output, by rw [World.size_setCell]; exact h.size, fun k hk hne => by
    have := Below.heap_setCell W' ⟨A, i, none⟩ v k (by simpa using hne)
    exact this.trans (h.block k hk hne)⟩
theorem gb_drew {W W' : World} {r : Option Nat} (h : W.grownBy W' r) : W.grownBy W'.drew r := ⟨h.os, h.tape, h.output, h.size, h.block⟩
theorem below_none {W W' : World} (hb : Below W.heap.size W W') (r : Option Nat) : W.grownBy W' r := ⟨hb.os, hb.tape, hb.output, hb.size, fun k hk _ => hb.block k hk⟩
theorem accL_none_up {acc : Nat → Int × Int} {x y : ByteArray} {g : Int} {k : Nat} (h : accL acc x y g k = none) : ∀ m, accL acc x y g (k + m) = none
  | 0 => h
  | m + 1 => by rw [Nat.add_succ, accL, accL_none_up h m]
theorem accL_up {acc : Nat → Int × Int} {x y : ByteArray} {g : Int} {k : Nat} {o e : Int} (h : accL acc x y g k = some (o, e)) : accL acc x y g (k + 1) = if hasR x y (nmS k) = true then (if (o ≠ 0 ∧ o ≠ (acc k).1) ∨ (acc k).1 = g then none else some ((acc k).1, max e ((acc k).2 + 1))) else some (o, e) := by
  rw [accL, h]
/-- What the range's box and the start say. -/
theorem rkeep {W0 W W' : World} {R : Nat} {x y : ByteArray} (h : W.cell? ⟨R, 0, none⟩ = some (.string x) ∧ W.cell? ⟨R, 1, none⟩ = some (.string y) ∧ Below W0.heap.size W0 W) (hb : Below W.heap.size W W') :
    W'.cell? ⟨R, 0, none⟩ = some (.string x) ∧ W'.cell? ⟨R, 1, none⟩ = some (.string y) ∧ Below W0.heap.size W0 W' :=
  ⟨(hb.cell (lt_of_cellR h.1)).trans h.1, (hb.cell (lt_of_cellR h.2.1)).trans h.2.1, h.2.2.trans (hb.mono h.2.2.size)⟩
theorem rkeepA {W0 W W' : World} {R A : Nat} {x y : ByteArray} {acc : Nat → Int × Int} (h : W.cell? ⟨R, 0, none⟩ = some (.string x) ∧ W.cell? ⟨R, 1, none⟩ = some (.string y) ∧ W0.grownBy W (some A) ∧ AccM W A acc ∧ Whole W R 30 #[.string x, .string y]) (hb : Below W.heap.size W W') :
    W'.cell? ⟨R, 0, none⟩ = some (.string x) ∧ W'.cell? ⟨R, 1, none⟩ = some (.string y) ∧ W0.grownBy W' (some A) ∧ AccM W' A acc ∧ Whole W' R 30 #[.string x, .string y] :=
  ⟨(hb.cell (lt_of_cellR h.1)).trans h.1, (hb.cell (lt_of_cellR h.2.1)).trans h.2.1, gb_below h.2.2.1 hb, h.2.2.2.1.keep hb, h.2.2.2.2.below hb h.2.2.2.2.lt⟩
theorem AccM.congr {W : World} {A : Nat} {acc acc' : Nat → Int × Int} (h : AccM W A acc) (he : ∀ k, k < 64 → acc k = acc' k) : AccM W A acc' := by
  obtain ⟨cs, h1, h2, h3⟩ := h
  exact ⟨cs, h1, h2, fun k hk => by rw [← he k hk]; exact h3 k hk⟩
theorem AccM.put {W : World} {A : Nat} {acc : Nat → Int × Int} (h : AccM W A acc) {k : Nat} (hk : k < 64) (a b : Int) : AccM ((W.setCell ⟨A, k, none⟩ (.int .i64 a)).setCell ⟨A, 64 + k, none⟩ (.int .i64 b)).drew A (fun j => if j = k then (a, b) else acc j) := by
  obtain ⟨cs, h1, h2, h3⟩ := h
  have P := put2 h2 hk (.int .i64 a) (.int .i64 b)
  refine ⟨_, (h1.put k (.int .i64 a)).put (64 + k) (.int .i64 b), P.1, fun j hj => ?_⟩
  obtain ⟨p1, p2⟩ := P.2 j hj
  rw [p1, p2]
  by_cases e : j = k
  · simp [e]
  · simp only [if_neg e]; exact h3 j hj
/-- What a move of the account answers. -/
def AmvR (W W' : World) (A : Nat) (acc : Nat → Int × Int) (x y : ByteArray) (g : Int) (e : Ending) : Prop :=
  (accL acc x y g 64 = none ∧ e = .returned (.tuple #[.int .i64 0, .bool false]) ∧ Below W.heap.size W W') ∨ ∃ o ep, accL acc x y g 64 = some (o, ep) ∧ e = .returned (.tuple #[.int .i64 ep, .bool true]) ∧ AccM W' A (accSet acc x y g ep) ∧ W.grownBy W' (some A)
set_option maxRecDepth 100000 in
set_option maxHeartbeats 4000000 in
theorem amv_any (A : Nat) (acc : Nat → Int × Int) (a b c : Nat) (W : World) (hA : AccM W A acc) (hbd : ∀ k, k < 64 → 1 ≤ (acc k).1 ∧ (acc k).1 < 8 ∧ 1 ≤ (acc k).2 ∧ (acc k).2 ≤ 1000000) (ha : a < 256) (hb : b < 256) (hc : c < 256) :
    Calls Tryd.prog 14 #[.pointer (some ⟨A, 0, none⟩), .agg #[.int .u8 (a : Int), .int .u8 (b : Int), .int .u8 (c : Int)]] W fun e W' => AmvR W W' A acc (spF a b) (spT a b) (spG c) e := by
  have SP := Lib.hid (fun W => span_any a b c W ha hb hc)
  have HSZ := Lib.hid (sp_size a b)
  have A1 := Lib.hid (fun o => hA.keep ((Below.refl W.heap.size W).alloc (Nat.le_refl _) o))
  have B1 := Lib.hid (fun o => (Below.refl W.heap.size W).alloc (Nat.le_refl _) o)
  have HBD := Lib.hid hbd
  generalize spF a b = x at SP HSZ ⊢
  generalize spT a b = y at SP HSZ ⊢
  generalize spG c = g at SP ⊢
  clear ha hb hc hbd hA
  go_enter Tryd.func14, Tryd.ntmps14
  go_wp2_with fail
  refine (SP.out _).mono ?_
  rintro e w2 ⟨rfl, hb2⟩
  have A2 := Lib.hid (((A1.out _).keep hb2).keep ((Below.refl w2.heap.size w2).alloc (Nat.le_refl _) (.cells #[.string x, .string y] 30)))
  have B2 := Lib.hid (((B1.out _).trans (hb2.mono (B1.out _).size)).alloc (Nat.le_trans (B1.out _).size hb2.size) (.cells #[.string x, .string y] 30))
  have R2 := Lib.hid (Whole.new w2 30 #[.string x, .string y])
  have HAR : Hid (A ≠ w2.heap.size) := Lib.hid (by have := ((A1.out _).keep hb2).lt; omega)
  have HH := Lib.hid (fun (k : Nat) W => has_any x y (nmS k) W (by have := HSZ.out; omega) (by have := HSZ.out; omega) (by rw [nm_size]; omega))
  have NN := Lib.hid (fun (k : Nat) (hk : k < 64) W => nm_nat k (by omega) W)
  clear hb2 A1 B1 SP HSZ
  go_wp2_with fail
  generalize w2.alloc (.cells #[.string x, .string y] 30) = W0 at A2 B2 R2 ⊢
  generalize w2.heap.size = R at R2 HAR ⊢
  go_loopw [17, 8, 9] (fun i o e wr => ∃ (k : Nat) (o' e' : Int), k ≤ 64 ∧ i = .int .i64 k ∧ o = .int .i64 o' ∧ e = .int .i64 e' ∧ Hid (accL acc x y g k = some (o', e')) ∧ Hid (Below W0.heap.size W0 wr)) (fun i _ _ _ => 64 - (intOf i).toNat)
  case atStart => exact ⟨0, 0, 0, Nat.zero_le _, rfl, rfl, rfl, Lib.hid rfl, Lib.hid (Below.refl _ _)⟩
  case round =>
    obtain ⟨k, o', e', hk, rfl, rfl, rfl, HL, BW⟩ := hrel
    by_cases hlt : k < 64
    · have hki : (k : Int) < 64 := by omega
      have hk0 : (0 : Int) ≤ k := by omega
      have hu : IntKind.u8.wrap (k : Int) = k := IntWalk.u8_in _ (by omega)
      have NK := Lib.hid (NN.out k hlt)
      have HK := Lib.hid (HH.out k)
      have RR := R2.out.below BW.out R2.out.lt
      have hS : wr.cell? ⟨R, 0, none⟩ = some (.string x) ∧ wr.cell? ⟨R, 1, none⟩ = some (.string y) ∧ Below W0.heap.size W0 wr := ⟨RR.cell 0, RR.cell 1, BW.out⟩
      have HS := Lib.hid hS
      have HS' : Hid (wr.drew.cell? ⟨R, 0, none⟩ = some (.string x) ∧ wr.drew.cell? ⟨R, 1, none⟩ = some (.string y) ∧ Below W0.heap.size W0 wr.drew) := Lib.hid ⟨RR.cell 0, RR.cell 1, BW.out.drew⟩
      have HU := accL_up HL.out
      have HBK := Lib.hid (HBD.out k hlt)
      clear hS RR BW
      cases hh : hasR x y (nmS k) with
      | false =>
        rw [hh] at HK HU
        go_wp2_with fail
        go_region_held3 (fun w' => w'.cell? ⟨R, 0, none⟩ = some (.string x) ∧ w'.cell? ⟨R, 1, none⟩ = some (.string y) ∧ Below W0.heap.size W0 w')
          (first | exact HS.out | exact HS'.out | (refine rkeep ?_ hb2; assumption) | assumption)
          (first | (go_at_call 18; refine (NK.out _).mono ?_; rintro e w2 ⟨rfl, hb2⟩) | (go_at_call 17; refine (HK.out _).mono ?_; rintro e w2 ⟨rfl, hb2⟩))
        rename_i hF
        have BW := Lib.hid hF.2.2
        have HX := Lib.hid HU
        clear hF HU
        go_wp2_with fail
        go_roundw
        case rel => exact ⟨k + 1, o', e', by omega, by go_num, rfl, rfl, HX, BW⟩
        case measure => simp [intOf]; omega
      | true =>
        rw [hh] at HK HU
        simp only [if_true] at HU
        go_wp2_with fail
        go_region_held3 (fun w' => w'.cell? ⟨R, 0, none⟩ = some (.string x) ∧ w'.cell? ⟨R, 1, none⟩ = some (.string y) ∧ Below W0.heap.size W0 w')
          (first | exact HS.out | exact HS'.out | (refine rkeep ?_ hb2; assumption) | assumption)
          (first | (go_at_call 18; refine (NK.out _).mono ?_; rintro e w2 ⟨rfl, hb2⟩) | (go_at_call 17; refine (HK.out _).mono ?_; rintro e w2 ⟨rfl, hb2⟩))
        rename_i hF
        have BW := Lib.hid hF.2.2
        have hAc := A2.out.keep BW.out
        obtain ⟨x0, x1⟩ := hAc.cell hlt
        have hwr : IntKind.i64.wrap ((acc k).2 + 1) = (acc k).2 + 1 := IntWalk.i64_in _ (by have := HBK.out; omega)
        clear hF hAc HBK HBD
        generalize (acc k).1 = gk at x0 HU
        generalize (acc k).2 = ek at x1 HU hwr
        by_cases q0 : o' = 0
        · subst q0
          by_cases q2 : gk = g
          · subst q2
            have HX := Lib.hid (HU.trans (if_pos (Or.inr rfl)))
            clear HU
            go_wp2_with fail
            go_ret2
            exact Or.inl ⟨by have := accL_none_up HX.out (63 - k); rwa [show k + 1 + (63 - k) = 64 by omega] at this, rfl, B2.out.trans (BW.out.mono B2.out.size)⟩
          · have HX := Lib.hid (HU.trans (if_neg (fun h => by rcases h with h | h; exact h.1 rfl; exact q2 h)))
            have e1 : (gk == g) = false := beq_eq_false_iff_ne.2 q2
            have e2 : (gk = g) = False := eq_false q2
            clear HU
            go_wp2_with fail
            go_region
            go_wp2_with fail
            go_roundw
            case rel => exact ⟨k + 1, _, _, by omega, by go_num, rfl, rfl, HX, Lib.hid (BW.out.drew)⟩
            case measure => simp [intOf]; omega
        · have e3 : (o' != 0) = true := bne_iff_ne.2 q0
          have e4 : (o' == 0) = false := beq_eq_false_iff_ne.2 q0
          have e5 : (o' = 0) = False := eq_false q0
          by_cases q1 : o' = gk
          · subst q1
            by_cases q2 : o' = g
            · subst q2
              have HX := Lib.hid (HU.trans (if_pos (Or.inr rfl)))
              clear HU
              go_wp2_with fail
              go_ret2
              exact Or.inl ⟨by have := accL_none_up HX.out (63 - k); rwa [show k + 1 + (63 - k) = 64 by omega] at this, rfl, B2.out.trans (BW.out.mono B2.out.size)⟩
            · have HX := Lib.hid (HU.trans (if_neg (fun h => by rcases h with h | h; exact h.2 rfl; exact q2 h)))
              have e1 : (o' == g) = false := beq_eq_false_iff_ne.2 q2
              have e2 : (o' = g) = False := eq_false q2
              clear HU
              go_wp2_with fail
              go_region
              go_wp2_with fail
              go_roundw
              case rel => exact ⟨k + 1, _, _, by omega, by go_num, rfl, rfl, HX, Lib.hid (BW.out.drew)⟩
              case measure => simp [intOf]; omega
          · have HX := Lib.hid (HU.trans (if_pos (Or.inl ⟨q0, q1⟩)))
            have e6 : (o' != gk) = true := bne_iff_ne.2 q1
            have e7 : (o' == gk) = false := beq_eq_false_iff_ne.2 q1
            have e8 : (o' = gk) = False := eq_false q1
            clear HU
            go_wp2_with fail
            go_ret2
            exact Or.inl ⟨by have := accL_none_up HX.out (63 - k); rwa [show k + 1 + (63 - k) = 64 by omega] at this, rfl, B2.out.trans (BW.out.mono B2.out.size)⟩
    · obtain rfl : k = 64 := by omega
      clear hlt hk
      rw [show ((64 : Nat) : Int) = 64 from rfl]
      go_wp2_with fail
      go_loopw [64] (fun i wq => ∃ k : Nat, k ≤ 64 ∧ i = .int .i64 k ∧ Hid (AccM wq A (fun j => if j < k then accSet acc x y g e' j else acc j)) ∧ Hid (W0.grownBy wq (some A)) ∧ Hid (Whole wq R 30 #[.string x, .string y])) (fun i _ => 64 - (intOf i).toNat)
      case atStart => exact ⟨0, Nat.zero_le _, rfl, Lib.hid ((A2.out.keep BW.out).congr (fun k _ => by simp)), Lib.hid (below_none BW.out _), Lib.hid (R2.out.below BW.out R2.out.lt)⟩
      case round =>
        obtain ⟨k, hk, rfl, HA, HG, HR⟩ := hrel
        by_cases hlt : k < 64
        · have hki : (k : Int) < 64 := by omega
          have hk0 : (0 : Int) ≤ k := by omega
          have hu : IntKind.u8.wrap (k : Int) = k := IntWalk.u8_in _ (by omega)
          have NK := Lib.hid (NN.out k hlt)
          have HK := Lib.hid (HH.out k)
          generalize hacc : (fun j => if j < k then accSet acc x y g e' j else acc j) = ack at HA
          have hS : wr.cell? ⟨R, 0, none⟩ = some (.string x) ∧ wr.cell? ⟨R, 1, none⟩ = some (.string y) ∧ W0.grownBy wr (some A) ∧ AccM wr A ack ∧ Whole wr R 30 #[.string x, .string y] := ⟨HR.out.cell 0, HR.out.cell 1, HG.out, HA.out, HR.out⟩
          have HS := Lib.hid hS
          have HS' : Hid (wr.drew.cell? ⟨R, 0, none⟩ = some (.string x) ∧ wr.drew.cell? ⟨R, 1, none⟩ = some (.string y) ∧ W0.grownBy wr.drew (some A) ∧ AccM wr.drew A ack ∧ Whole wr.drew R 30 #[.string x, .string y]) := Lib.hid ⟨HR.out.cell 0, HR.out.cell 1, gb_drew HG.out, HA.out, HR.out⟩
          have HQ : Hid (∀ j, ack j = if j < k then accSet acc x y g e' j else acc j) := Lib.hid (fun j => by rw [← hacc])
          clear hS hacc HA HG HR
          cases hh : hasR x y (nmS k) with
          | false =>
            have HN : Hid (∀ j, j < 64 → ack j = if j < k + 1 then accSet acc x y g e' j else acc j) := Lib.hid (fun j hj => by
              rw [HQ.out]
              by_cases e : j = k
              · subst e; rw [if_neg (by omega), if_pos (by omega)]; unfold accSet; rw [if_neg (by rw [hh]; simp)]
              · by_cases e2 : j < k
                · rw [if_pos e2, if_pos (by omega)]
                · rw [if_neg e2, if_neg (by omega)])
            rw [hh] at HK
            clear HQ
            go_wp2_with fail
            go_region_held3 (fun w' => w'.cell? ⟨R, 0, none⟩ = some (.string x) ∧ w'.cell? ⟨R, 1, none⟩ = some (.string y) ∧ W0.grownBy w' (some A) ∧ AccM w' A ack ∧ Whole w' R 30 #[.string x, .string y])
              (first | exact HS.out | exact HS'.out | (refine rkeepA ?_ hb2; assumption) | assumption)
              (first | (go_at_call 18; refine (NK.out _).mono ?_; rintro e w2 ⟨rfl, hb2⟩) | (go_at_call 17; refine (HK.out _).mono ?_; rintro e w2 ⟨rfl, hb2⟩))
            rename_i hF
            have F1 := Lib.hid (hF.2.2.2.1.congr HN.out)
            have F2 := Lib.hid hF.2.2.1
            have F3 := Lib.hid hF.2.2.2.2
            clear hF HS HS' HN
            go_wp2_with fail
            go_roundw
            case rel => exact ⟨k + 1, by omega, by go_num, F1, F2, F3⟩
            case measure => simp [intOf]; omega
          | true =>
            have HN : Hid (∀ j, j < 64 → (if j = k then (g, e') else ack j) = if j < k + 1 then accSet acc x y g e' j else acc j) := Lib.hid (fun j hj => by
              rw [HQ.out]
              by_cases e : j = k
              · subst e; rw [if_pos rfl, if_pos (by omega)]; unfold accSet; rw [if_pos hh]
              · rw [if_neg e]
                by_cases e2 : j < k
                · rw [if_pos e2, if_pos (by omega)]
                · rw [if_neg e2, if_neg (by omega)])
            rw [hh] at HK
            clear HQ
            go_wp2_with fail
            go_region_held3 (fun w' => w'.cell? ⟨R, 0, none⟩ = some (.string x) ∧ w'.cell? ⟨R, 1, none⟩ = some (.string y) ∧ W0.grownBy w' (some A) ∧ AccM w' A ack ∧ Whole w' R 30 #[.string x, .string y])
              (first | exact HS.out | exact HS'.out | (refine rkeepA ?_ hb2; assumption) | assumption)
              (first | (go_at_call 18; refine (NK.out _).mono ?_; rintro e w2 ⟨rfl, hb2⟩) | (go_at_call 17; refine (HK.out _).mono ?_; rintro e w2 ⟨rfl, hb2⟩))
            rename_i hF
            obtain ⟨x0, x1⟩ := hF.2.2.2.1.cell hlt
            have f0 := hF.2.2.2.1.fr k
            have f1 := hF.2.2.2.1.fr (64 + k)
            have F1 := Lib.hid ((hF.2.2.2.1.put hlt g e').congr HN.out)
            have F2 := Lib.hid (gb_drew (gb_set (gb_set hF.2.2.1 k (.int .i64 g)) (64 + k) (.int .i64 e')))
            have F3 : Hid (Whole ((w2.setCell ⟨A, k, none⟩ (.int .i64 g)).setCell ⟨A, 64 + k, none⟩ (.int .i64 e')).drew R 30 #[.string x, .string y]) := Lib.hid ((hF.2.2.2.2.far (p := ⟨A, k, none⟩) (fun e => HAR.out e.symm) (.int .i64 g)).far (p := ⟨A, 64 + k, none⟩) (fun e => HAR.out e.symm) (.int .i64 e'))
            clear hF HS HS' HN
            go_wp2_with fail
            go_region
            clear x0 x1 f0 f1
            go_wp2_with fail
            go_roundw
            case rel => exact ⟨k + 1, by omega, by go_num, F1, F2, F3⟩
            case measure => simp [intOf]; omega
        · obtain rfl : k = 64 := by omega
          clear hlt hk NN HH
          go_wp2_with fail
          go_ret2
          exact Or.inr ⟨o', e', HL.out, rfl, HA.out.congr (fun j hj => by rw [if_pos hj]), gb_low B2.out HG.out⟩
end Go.Proofs.YtkkkppbcjmeapaaDoor
