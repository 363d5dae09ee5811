/- works: some examples of the chapter. Condition: the program's own variables lie as its start lays them. -/
import Derived.Test.YtojodekmmkemgaaGreatDoorScPall
import Derived.Test.YtojodekmmkemgaaGreatDoorScPr
namespace Go.Proofs.YtojodekmmkemgaaGreatDoor
open Go.RowKit Go.Shelf

def wkM : Ov := { zeroO 12 0 with m := 2, f := ⟨#[97]⟩, t := ⟨#[109]⟩ }
theorem wkM_ok : opOk wkM := ⟨show ((0 : Int) ≤ 0 ∧ (0 : Int) ≤ 55) ∧ ((1 : Int) ≤ 2 ∧ (2 : Int) ≤ 7) ∧ okR _ _ = true from ⟨by decide, by decide, by decide +kernel⟩, rfl⟩
theorem wkM_text : textO wkM = [109, 111, 118, 101, 32, 48, 32, 91, 97, 44, 109, 41, 32, 50] := by decide +kernel
def wkD : Dv := ⟨⟨#[112, 97, 121]⟩, 2, 0, [⟨⟨#[97]⟩, 3⟩, ⟨⟨#[98]⟩, -4⟩]⟩
theorem wkD_ok : defOk wkD := ⟨by decide +kernel, by decide, by decide, by decide, by decide, by decide, by decide, fun i p hp => by
  match i with
  | 0 =>
    cases hp
    exact ⟨by decide +kernel, fun j q hj => absurd hj (Nat.not_lt_zero _)⟩
  | 1 =>
    cases hp
    refine ⟨by decide +kernel, fun j q hj hq => ?_⟩
    obtain rfl : j = 0 := by omega
    cases hq
    decide +kernel
  | i + 2 => simp [wkD] at hp⟩
def wkS : Ov := { zeroO 8 4 with m := 7, d := wkD }
theorem wkS_ok : opOk wkS := ⟨show ((0 : Int) ≤ 4 ∧ (4 : Int) ≤ 55) ∧ ((1 : Int) ≤ 7 ∧ (7 : Int) ≤ 9999) ∧ defOk wkD from ⟨by decide, by decide, wkD_ok⟩, rfl⟩
def wkSt : List UInt8 := [115, 116, 97, 114, 116, 32, 52, 32, 55, 32, 112, 97, 121, 32, 50, 32, 48, 32, 97, 43, 51, 32, 98, 45, 52]
theorem wkS_text : textO wkS = wkSt := by decide +kernel
theorem wkS_par : parOV wkSt = (wkS, 0) := by rw [← wkS_text]; exact parOV_text wkS_ok
theorem wkB_par : parOV [116, 105, 99, 107, 32, 48, 53] = (zeroO 0 0, 10) := parOV_of (Or.inr ⟨rfl, rfl, fun o h e => by
  have hn := num_of h e
  have hc := text_cut e
  have hn : o.n = 5 := hn.trans (by decide +kernel)
  have hc : [48, 53] = dgs o.n := hc.2.1
  rw [hn] at hc
  exact absurd hc (by decide +kernel)⟩)
theorem tk_ok (k n : Int) (hk : k = 4 ∨ k = 5) (h0 : 0 ≤ n) (h1 : n ≤ 55) : opOk (zeroO k n) := by
  rcases hk with rfl | rfl
  · exact ⟨show (0 : Int) ≤ n ∧ n ≤ 55 from ⟨h0, h1⟩, rfl⟩
  · exact ⟨show (0 : Int) ≤ n ∧ n ≤ 55 from ⟨h0, h1⟩, rfl⟩
def wkA : List UInt8 := [116, 105, 99, 107, 32, 49, 10, 10, 35, 32, 120, 10, 99, 114, 97, 115, 104, 32, 50, 10]
theorem wkA_top : paTop wkA = ([zeroO 4 1, zeroO 5 2], 0, 0) := by
  unfold paTop
  rw [if_neg (by decide), show linesL wkA = [[116, 105, 99, 107, 32, 49], [], [35, 32, 120], [99, 114, 97, 115, 104, 32, 50], []] by decide +kernel]
  exact paAll_filter _ [zeroO 4 1, zeroO 5 2] [] 0 (by decide +kernel) (fun o ho => by
    rcases List.mem_cons.1 ho with rfl | ho
    · exact tk_ok 4 1 (.inl rfl) (by decide) (by decide)
    · obtain rfl := List.mem_singleton.1 ho
      exact tk_ok 5 2 (.inr rfl) (by decide) (by decide)) (by decide)
def wkC : List UInt8 := [116, 105, 99, 107, 32, 49, 10, 10, 116, 105, 99, 107]
theorem wkC_top : paTop wkC = ([], 3, 10) := by
  unfold paTop
  rw [if_neg (by decide), show linesL wkC = [textO (zeroO 4 1), [], badL 0] by decide +kernel]
  have h1 := tk_ok 4 1 (.inl rfl) (by decide) (by decide)
  rw [paAll_op (textO_pass h1) _ _ _ (by decide) (by rw [parOV_text h1]), paAll_pass rfl, paAll_bad (badL_pass 0) _ _ _ (by simp) (by rw [badL_par 0]; decide)]
theorem wkL_calm : calmV [zeroO 4 1, zeroO 3 0] = (true, 0) := by
  rw [calmV_yes (wrongL_ok (by decide) (fun o ho => by
    rcases List.mem_cons.1 ho with rfl | ho
    · exact tk_ok 4 1 (.inl rfl) (by decide) (by decide)
    · obtain rfl := List.mem_singleton.1 ho
      exact ⟨show (0 : Int) ≤ 0 ∧ (0 : Int) ≤ 511 by decide, rfl⟩))]
  rfl
def wkQ : List Oq := [⟨zeroO 4 1, none, 0, 0⟩, ⟨zeroO 3 0, none, 0, 0⟩]
def wkCs : Array Value := #[.int .i64 4, .int .i64 1, .int .i64 0, .string ⟨#[]⟩, .string ⟨#[]⟩, .string ⟨#[]⟩, .string ⟨#[]⟩, .int .i64 0, .int .i64 0, .slice none 0 0, .int .i64 3, .int .i64 0, .int .i64 0, .string ⟨#[]⟩, .string ⟨#[]⟩, .string ⟨#[]⟩, .string ⟨#[]⟩, .int .i64 0, .int .i64 0, .slice none 0 0]
theorem wkQ_calm (W : World) : Calls Tryz.prog 34 #[.slice (some ⟨W.heap.size, 0, none⟩) 2 2] (W.alloc (.cells wkCs 34)) fun e w' => e = .returned (.tuple #[.bool true, .int .i64 0]) ∧ Below W.heap.size W w' := by
  have ba := (Below.refl W.heap.size W).alloc (Nat.le_refl _) (.cells wkCs 34)
  have ow : (W.alloc (.cells wkCs 34)).ownsRow W.heap.size 34 10 (.slice (some ⟨W.heap.size, 0, none⟩) 2 2) 2 (wkQ.flatMap qL) := ⟨rfl, .inr ⟨W.heap.size, 2, wkCs, rfl, Nat.le_refl _, World.alloc_heap_new W _, by decide, by unfold maxLen; decide, rfl, rfl⟩⟩
  have z : ∀ o : Ov, o.d = zeroD → OpZ o → OpIn (W.alloc (.cells wkCs 34)) o none 0 0 := fun o h hz => ⟨by rw [h]; exact defAt_zeroO _, hz⟩
  have hs := slO_own ow rfl (fun q hq => by
    rcases List.mem_cons.1 hq with rfl | hq
    · exact z _ rfl (opok_z (k := 4) (n := 1) (by decide) (by decide))
    · obtain rfl := List.mem_singleton.1 hq
      exact z _ rfl (opok_z (k := 3) (n := 0) (by decide) (by decide)))
  have := calm_any (some ⟨W.heap.size, 0, none⟩) 2 2 wkQ _ hs rfl (by decide)
  rw [show wkQ.map (·.o) = [zeroO 4 1, zeroO 3 0] from rfl, wkL_calm] at this
  exact this.mono (fun e w' ⟨he, hb⟩ => ⟨he, ba.trans (hb.mono ba.size)⟩)
set_option maxRecDepth 100000 in
set_option maxHeartbeats 4000000 in
theorem works_any (w : World) (hE : DfE w) :
    Calls Tryz.prog 20 #[] w fun e w' => e = .returned (.bool true) ∧ Below w.heap.size w w' := by
  have P1 : Hid (∀ W : World, DfE W → Calls Tryz.prog 22 #[.agg #[.int .i64 12, .int .i64 0, .int .i64 2, .string ⟨#[]⟩, .string ⟨#[97]⟩, .string ⟨#[109]⟩, .string ⟨#[]⟩, .int .i64 0, .int .i64 0, .slice none 0 0]] W fun e w' => e = .returned (.tuple #[.string ⟨#[109, 111, 118, 101, 32, 48, 32, 91, 97, 44, 109, 41, 32, 50]⟩, .int .i64 0]) ∧ Below W.heap.size W w') := Lib.hid (fun W hW => by
    have := oprint_any wkM none 0 0 W hW ⟨defAt_zeroO W, ⟨by unfold In64; decide, by unfold In64; decide, by unfold In64; decide, Nat.zero_le _, by decide, by decide⟩⟩
    rw [txtO_yes wkM_ok, ckO_yes wkM_ok, wkM_text] at this
    exact this)
  have Q1 : Hid (∀ W : World, DfE W → Calls Tryz.prog 28 #[.string ⟨#[115, 116, 97, 114, 116, 32, 52, 32, 55, 32, 112, 97, 121, 32, 50, 32, 48, 32, 97, 43, 51, 32, 98, 45, 52]⟩] W fun e w' => (∃ A m, e = .returned (.tuple #[.agg (oA wkS A 2 m), .int .i64 0])) ∧ Below W.heap.size W w') := Lib.hid (fun W hW => (oparse_any ⟨wkSt.toArray⟩ W hW (by decide)).mono (fun e w' ⟨o, er, A, n, m, he, hp, hi, hb, _⟩ => by
    have h1 := (parOV_of hp).symm.trans wkS_par
    obtain ⟨rfl, rfl⟩ := Prod.mk.inj h1
    have h2 : n = 2 := hi.d.len.symm
    subst h2
    exact ⟨⟨A, m, he⟩, hb⟩))
  have Q2 : Hid (∀ W : World, DfE W → Calls Tryz.prog 28 #[.string ⟨#[116, 105, 99, 107, 32, 48, 53]⟩] W fun e w' => (∃ A n m, e = .returned (.tuple #[.agg (oA (zeroO 0 0) A n m), .int .i64 10])) ∧ Below W.heap.size W w') := Lib.hid (fun W hW => (oparse_any ⟨#[116, 105, 99, 107, 32, 48, 53]⟩ W hW (by decide)).mono (fun e w' ⟨o, er, A, n, m, he, hp, hi, hb, _⟩ => by
    have h1 := (parOV_of hp).symm.trans wkB_par
    obtain ⟨rfl, rfl⟩ := Prod.mk.inj h1
    exact ⟨⟨A, n, m, he⟩, hb⟩))
  have R1 : Hid (∀ W : World, DfE W → Calls Tryz.prog 13 #[.string ⟨#[116, 105, 99, 107, 32, 49, 10, 10, 35, 32, 120, 10, 99, 114, 97, 115, 104, 32, 50, 10]⟩] W fun e w' => (∃ A c, e = .returned (.tuple #[.slice A 2 c, .int .i64 0, .int .i64 0])) ∧ Below W.heap.size W w') := Lib.hid (fun W hW => (pall_any ⟨wkA.toArray⟩ W hW (by decide)).mono (fun e w' ⟨l, A, c, m, er, he, hp, _, _, hb⟩ => by
    rw [show (⟨wkA.toArray⟩ : ByteArray).data.toList = wkA from rfl, wkA_top] at hp
    obtain ⟨h1, h2⟩ := Prod.mk.inj hp
    obtain ⟨h2, h3⟩ := Prod.mk.inj h2
    have h4 := congrArg List.length h1
    rw [List.length_map] at h4
    rw [← h4, ← h2, ← h3] at he
    exact ⟨⟨A, c, he⟩, hb⟩))
  have R2 : Hid (∀ W : World, DfE W → Calls Tryz.prog 13 #[.string ⟨#[116, 105, 99, 107, 32, 49, 10, 10, 116, 105, 99, 107]⟩] W fun e w' => (∃ A c, e = .returned (.tuple #[.slice A 0 c, .int .i64 3, .int .i64 10])) ∧ Below W.heap.size W w') := Lib.hid (fun W hW => (pall_any ⟨wkC.toArray⟩ W hW (by decide)).mono (fun e w' ⟨l, A, c, m, er, he, hp, _, _, hb⟩ => by
    rw [show (⟨wkC.toArray⟩ : ByteArray).data.toList = wkC from rfl, wkC_top] at hp
    obtain ⟨h1, h2⟩ := Prod.mk.inj hp
    obtain ⟨h2, h3⟩ := Prod.mk.inj h2
    have h4 := congrArg List.length h1
    rw [List.length_map] at h4
    rw [← h4, ← h2, ← h3] at he
    exact ⟨⟨A, c, he⟩, hb⟩))
  have HE := Lib.hid hE
  clear hE
  go_enter Tryz.func20, Tryz.ntmps20
  go_upto_region 6 with (first
    | (go_at_call 22; refine (P1.out _ HE.out).mono ?_; rintro e w1 ⟨rfl, hb⟩; have B1 := Lib.hid hb; clear hb)
    | (go_at_call 28; refine (Q1.out _ (HE.out.keep B1.out)).mono ?_; rintro e w2 ⟨⟨A1, m1, rfl⟩, hb⟩; have B2 := Lib.hid (B1.out.trans (hb.mono B1.out.size)); clear hb Q1)
    | (refine wpList_store_row rfl 34 (.tmp 3) (.tmp 23) rfl _ (oA wkS A1 2 m1) rfl rfl 34 _ (heap_alloc_new _ _) (info10 _ _ _ _) rfl (all10 _ _ _ _) ?_; rw [World.setRow_alloc_new]; have RW := Lib.hid (Whole.new w2 34 (oA wkS A1 2 m1)); have B3 := Lib.hid (B2.out.alloc B2.out.size (.cells (oA wkS A1 2 m1) 34)); generalize w2.alloc (.cells (oA wkS A1 2 m1) 34) = w3 at RW B3 ⊢)
    | (go_at_call 28; refine (Q2.out _ (HE.out.keep B3.out)).mono ?_; rintro e w4 ⟨⟨A2, n2, m2, rfl⟩, hb⟩; have B4 := Lib.hid (B3.out.trans (hb.mono B3.out.size)); have RW4 := Lib.hid (RW.out.keep hb); clear hb)
    | (refine wpList_store_row rfl 34 (.tmp 5) (.tmp 27) rfl _ (oA (zeroO 0 0) A2 n2 m2) rfl rfl 34 _ (heap_alloc_new _ _) (info10 _ _ _ _) rfl (all10 _ _ _ _) ?_; rw [World.setRow_alloc_new]; have RW5 := Lib.hid (RW4.out.alloc (.cells (oA (zeroO 0 0) A2 n2 m2) 34)); have B5 := Lib.hid (B4.out.alloc B4.out.size (.cells (oA (zeroO 0 0) A2 n2 m2) 34)); generalize w4.alloc (.cells (oA (zeroO 0 0) A2 n2 m2) 34) = w5 at RW5 B5 ⊢)
    | (go_at_call 13; refine (R1.out _ (HE.out.keep B5.out)).mono ?_; rintro e w6 ⟨⟨A3, c3, rfl⟩, hb⟩; have B6 := Lib.hid (B5.out.trans (hb.mono B5.out.size)); have RW6 := Lib.hid (RW5.out.keep hb); clear hb R1)
    | (go_at_call 13; refine (R2.out _ (HE.out.keep B6.out)).mono ?_; rintro e w7 ⟨⟨A4, c4, rfl⟩, hb⟩; have B7 := Lib.hid (B6.out.trans (hb.mono B6.out.size)); have RW7 := Lib.hid (RW6.out.keep hb); clear hb))
  have z0 : w7.cell? ⟨w2.heap.size, 0, none⟩ = some (.int .i64 8) := RW7.out.cell 0
  have z1 : w7.cell? ⟨w2.heap.size, 1, none⟩ = some (.int .i64 4) := RW7.out.cell 1
  have z2 : w7.cell? ⟨w2.heap.size, 2, none⟩ = some (.int .i64 7) := RW7.out.cell 2
  have z9 : w7.cell? ⟨w2.heap.size, 9, none⟩ = some (.slice A1 2 m1) := RW7.out.cell 9
  generalize w2.heap.size = R at RW7 z0 z1 z2 z9 ⊢
  clear RW RW4 RW5 RW6 P1 Q2 R2
  have CL := Lib.hid (wkQ_calm w7)
  unfold wkCs at CL
  go_wp2_with (go_at_call 34; refine CL.out.mono ?_; rintro e w8 ⟨rfl, hb⟩; have B8 := Lib.hid (B7.out.trans (hb.mono B7.out.size)); have y0 := bcell z0 hb; have y1 := bcell z1 hb; have y2 := bcell z2 hb; have y9 := bcell z9 hb; clear hb z0 z1 z2 z9 CL)
  go_ret
  exact ⟨rfl, B8.out⟩
end Go.Proofs.YtojodekmmkemgaaGreatDoor
