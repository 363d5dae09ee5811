/- The examples of the chapter hold. Condition: the program's own variables lie as its start lays them. -/
import Derived.Test.YtgeljnjcpkmlmaaGreatDoorDfPrs
import Derived.Test.YtgeljnjcpkmlmaaGreatDoorDfEq
import Derived.Test.YtgeljnjcpkmlmaaGreatDoorRdr2
namespace Go.Proofs.YtgeljnjcpkmlmaaGreatDoor
open Go.RowKit Go.Shelf

def payD : Dv := ⟨⟨#[112, 97, 121]⟩, 2, 0, [⟨⟨#[97]⟩, 3⟩, ⟨⟨#[98]⟩, -4⟩]⟩
theorem pay_ok : defOk payD := by
  refine ⟨by decide, by decide, by decide, by decide, by decide, by decide, by decide, fun i p hp => ?_⟩
  match i with
  | 0 => cases hp; exact ⟨by decide, fun j q hj _ => absurd hj (by omega)⟩
  | 1 =>
    cases hp
    refine ⟨by decide, fun j q hj hq => ?_⟩
    obtain rfl : j = 0 := by omega
    cases hq
    decide
  | i + 2 => simp [payD] at hp
abbrev payT : ByteArray := ⟨#[112, 97, 121, 32, 50, 32, 48, 32, 97, 43, 51, 32, 98, 45, 52]⟩
abbrev badT : ByteArray := ⟨#[112, 97, 121, 32, 50, 32, 48, 32, 97, 43, 51, 32, 97, 45, 52]⟩
theorem pay_text : textD payD = payT.data.toList := by decide +kernel
theorem pay_bytes : bytesD payD = [3, 112, 97, 121, 2, 0, 2, 1, 97, 6, 1, 98, 7] := by decide +kernel
theorem bad_text : ∀ d, defOk d → textD d ≠ badT.data.toList := fun d hd ht => by
  have h1 := wordsR_text hd
  rw [ht] at h1
  have h2 : wordsR badT.data.toList = [[112, 97, 121], [50], [48], [97, 43, 51], [97, 45, 52]] := by decide +kernel
  rw [h2] at h1
  have h3 : d.s.map spW = [[97, 43, 51], [97, 45, 52]] := by
    have := congrArg (List.drop 3) h1
    exact this.symm
  have h4 : (d.s.map spW).map pStep = d.s := by
    rw [List.map_map]
    conv => rhs; rw [← List.map_id d.s]
    exact List.map_congr_left fun p hp => pStep_spW (hd.2.2.2.2.2.2.2.all hp)
  rw [h3] at h4
  have e0 : (pStep [97, 43, 51]).k = ⟨#[97]⟩ := by decide +kernel
  have e1 : (pStep [97, 45, 52]).k = ⟨#[97]⟩ := by decide +kernel
  have h5 := hd.2.2.2.2.2.2.2
  rw [← h4] at h5
  exact (h5 1 _ rfl).2 0 _ (by omega) rfl (e0.trans e1.symm)
theorem par_pay {d : Dv} {e : Int} (h : ParR payT.data.toList d e) : d = payD ∧ e = 0 := h.same (Or.inl ⟨rfl, pay_ok, pay_text⟩)
theorem par_bad {d : Dv} {e : Int} (h : ParR badT.data.toList d e) : d = zeroD ∧ e = 10 := h.same (Or.inr ⟨rfl, rfl, bad_text⟩)
theorem spz_pay : ∀ p ∈ payD.s, SpZ p := by
  intro p hp
  simp only [payD, List.mem_cons, List.not_mem_nil, or_false] at hp
  rcases hp with rfl | rfl
  · exact ⟨by decide, by decide, by decide⟩
  · exact ⟨by decide, by decide, by decide⟩
set_option maxHeartbeats 2000000 in
theorem pay_any (w : World) : Calls Tryz.prog 31 #[] w fun e w' => (∃ A c, e = .returned (.agg #[.string ⟨#[112, 97, 121]⟩, .int .i64 2, .int .i64 0, .slice A 2 c]) ∧ DefAt w' A 2 c payD) ∧ Below w.heap.size w w' := by
  have HF : Hid (∀ (W : World) (c : Nat), 2 ≤ c → (∀ (j : Nat) u, (payD.s.flatMap stC)[j]? = some u → W.cell? ⟨w.heap.size + 1, j, none⟩ = some u) → DefAt W (some ⟨w.heap.size + 1, 0, none⟩) 2 c payD) := Lib.hid (fun W c hc h => ⟨rfl, hc, by decide, ⟨by decide, by decide, by decide, fun i p hi => spz_pay p (List.mem_of_getElem? hi)⟩, fun i p hi => by
    obtain ⟨a, b⟩ := cells_stC payD.s i p hi
    exact ⟨_, _, rfl, by rw [Nat.zero_add]; exact h _ _ a, by rw [Nat.zero_add]; exact h _ _ b⟩⟩)
  go_enter Tryz.func31, Tryz.ntmps31
  go_wp2
  refine bodyPost_ret (v := .agg #[.string ⟨#[112, 97, 121]⟩, .int .i64 2, .int .i64 0, .slice (some ⟨w.heap.size + 1, 0, none⟩) 2 2]) (by simp [results, Tryz.results31, go_sem]) rfl ⟨⟨_, _, rfl, HF.out _ 2 (Nat.le_refl _) (fun j u hu => ?_)⟩, ?_⟩
  · have h := (Whole.new (w.alloc (.cells #[.string ⟨#[112, 97, 121]⟩, .int .i64 2, .int .i64 0, .slice (some ⟨w.heap.size + 1, 0, none⟩) 2 2] 24)) 37 #[.string ⟨#[97]⟩, .int .i64 3, .string ⟨#[98]⟩, .int .i64 (-4)]).cell j
    rw [World.size_alloc] at h
    exact h.trans (by rw [← hu]; simp [payD, stC])
  · exact ((Below.refl _ w).alloc (Nat.le_refl _) _).alloc (by simp) _
theorem wkeep {w wc w2 : World} {t0 t1 t2 t3 : Value} {B : Nat} {A : Option Addr} {n c : Nat} {l : List UInt8} (hH : wc.cell? ⟨B, 0, none⟩ = some t0 ∧ wc.cell? ⟨B, 1, none⟩ = some t1 ∧ wc.cell? ⟨B, 2, none⟩ = some t2 ∧ wc.cell? ⟨B, 3, none⟩ = some t3 ∧ (convert 38 9 (.slice A n c)).run Tryz.prog wc = .ok (.string ⟨l.toArray⟩) wc ∧ SlB wc A n l ∧ Below w.heap.size w wc)
    (hb : Below wc.heap.size wc w2) : w2.cell? ⟨B, 0, none⟩ = some t0 ∧ w2.cell? ⟨B, 1, none⟩ = some t1 ∧ w2.cell? ⟨B, 2, none⟩ = some t2 ∧ w2.cell? ⟨B, 3, none⟩ = some t3 ∧ (convert 38 9 (.slice A n c)).run Tryz.prog w2 = .ok (.string ⟨l.toArray⟩) w2 ∧ SlB w2 A n l ∧ Below w.heap.size w w2 := by
  obtain ⟨h0, h1, h2, h3, _, h5, h6⟩ := hH
  exact ⟨bcell h0 hb, bcell h1 hb, bcell h2 hb, bcell h3 hb, conv_bytes (h5.keep hb) c, h5.keep hb, h6.trans (hb.mono h6.size)⟩
set_option maxRecDepth 100000 in
set_option maxHeartbeats 4000000 in
theorem works_any (w : World) (hE : DfE w) : Calls Tryz.prog 12 #[] w fun e w' => e = .returned (.bool true) ∧ Below w.heap.size w w' := by
  have HE := Lib.hid hE
  clear hE
  go_enter Tryz.func12, Tryz.ntmps12
  go_upto_region 2 with (first
    | (go_at_call 31; go_fit (pay_any w); rintro e w1 ⟨⟨A1, c1, rfl, hd1⟩, hb1⟩; have T1 := Lib.hid ((defText_any payD A1 2 c1 w1 hd1 (HE.out.keep hb1)).mono (fun e w' ⟨h, hb⟩ => And.intro (h.resolve_right (fun h => h.1 pay_ok)).2 hb)); have B1 := Lib.hid hb1; clear hd1 hb1)
    | (go_at_call 23; go_fit T1.out; rintro e w2 ⟨rfl, hb2⟩; have B2 := Lib.hid (B1.out.trans (hb2.mono B1.out.size)); clear hb2))
  rw [pay_text]
  clear T1 B1
  go_upto_region 3 with (first
    | (go_at_call 31; go_fit (pay_any w2); rintro e w3 ⟨⟨A3, c3, rfl, hd3⟩, hb3⟩; have T3 := Lib.hid ((defEncode_any payD A3 2 c3 w3 hd3).mono (fun e w' ⟨h, hb⟩ => And.intro (h.resolve_right (fun h => h.1 pay_ok)).2 hb)); have B3 := Lib.hid (B2.out.trans (hb3.mono B2.out.size)); clear hd3 hb3)
    | (go_at_call 21; go_fit T3.out; rintro e w4 ⟨⟨v4, rfl, ho4⟩, hb4⟩; obtain ⟨A4, c4, rfl, _⟩ := own_slice2 ho4; have B4 := Lib.hid (B3.out.trans (hb4.mono B3.out.size)); have S4 := Lib.hid (SlB.of_own ho4); clear hb4 ho4))
  clear T3 B3 B2
  have hbl : (bytesD payD).length = 13 := by rw [pay_bytes]; rfl
  rw [hbl] at S4 ⊢
  rw [pay_bytes] at S4
  clear hbl
  have P1 := Lib.hid ((defParse_any payT w4 (by decide) (HE.out.keep B4.out)).mono (R' := fun e w' => (∃ A c, e = .returned (.tuple #[.agg #[.string ⟨#[112, 97, 121]⟩, .int .i64 2, .int .i64 0, .slice A 2 c], .int .i64 0]) ∧ DefAt w' A 2 c payD) ∧ Below w4.heap.size w4 w') (fun e w' ⟨⟨d, A, n, c, er, he, hp, hd⟩, hb⟩ => by
    obtain ⟨rfl, rfl⟩ := par_pay hp
    obtain rfl : 2 = n := hd.len
    exact ⟨⟨A, c, he, hd⟩, hb⟩))
  have P2 := Lib.hid (fun (W : World) (hE : DfE W) => (defParse_any badT W (by decide) hE).mono (R' := fun e w' => (∃ A n c, e = .returned (.tuple #[.agg #[.string ⟨#[]⟩, .int .i64 0, .int .i64 0, .slice A n c], .int .i64 10])) ∧ Below W.heap.size W w') (fun e w' ⟨⟨d, A, n, c, er, he, hp, hd⟩, hb⟩ => by
    obtain ⟨rfl, rfl⟩ := par_bad hp
    exact ⟨⟨A, n, c, he⟩, hb⟩))
  go_upto_region 4 with (go_at_call 27; go_fit P1.out; rintro e w5 ⟨⟨A5, c5, rfl, hd5⟩, hb5⟩)
  have BA := (Below.refl _ w5).alloc (Nat.le_refl _) (.cells #[.string ⟨#[112, 97, 121]⟩, .int .i64 2, .int .i64 0, .slice A5 2 c5] 24)
  have B5 := Lib.hid (B4.out.trans ((hb5.trans (BA.mono hb5.size)).mono B4.out.size))
  have H5 := Lib.hid (hd5.keep BA)
  have S5 := Lib.hid ((S4.out.keep hb5).keep BA)
  have N5 := Lib.hid (Whole.new w5 24 #[.string ⟨#[112, 97, 121]⟩, .int .i64 2, .int .i64 0, .slice A5 2 c5])
  clear hb5 BA hd5 S4 P1
  generalize hwa : w5.alloc (.cells #[.string ⟨#[112, 97, 121]⟩, .int .i64 2, .int .i64 0, .slice A5 2 c5] 24) = wa at B5 H5 S5 N5 ⊢
  clear hwa
  generalize w5.heap.size = B at N5 ⊢
  go_upto_region 5 with (go_at_call 27; go_fit (P2.out wa (HE.out.keep B5.out)); rintro e w6 ⟨⟨A6, n6, c6, rfl⟩, hb6⟩)
  have BB := hb6.trans (((Below.refl _ w6).alloc (Nat.le_refl _) (.cells #[.string ⟨#[]⟩, .int .i64 0, .int .i64 0, .slice A6 n6 c6] 24)).mono hb6.size)
  have H7 := Lib.hid (H5.out.keep BB)
  have S7 := Lib.hid (S5.out.keep BB)
  have N7 := Lib.hid (N5.out.keep BB)
  have B7 := Lib.hid (B5.out.trans (BB.mono B5.out.size))
  generalize w6.alloc (.cells #[.string ⟨#[]⟩, .int .i64 0, .int .i64 0, .slice A6 n6 c6] 24) = wb at B7 H7 S7 N7 ⊢
  clear BB hb6 B5 H5 S5 N5 P2
  have SA : Hid (wb.drew.cell? ⟨B, 0, none⟩ = some (.string ⟨#[112, 97, 121]⟩) ∧ wb.drew.cell? ⟨B, 1, none⟩ = some (.int .i64 2) ∧ wb.drew.cell? ⟨B, 2, none⟩ = some (.int .i64 0) ∧ wb.drew.cell? ⟨B, 3, none⟩ = some (.slice A5 2 c5) ∧ (convert 38 9 (.slice A4 13 c4)).run Tryz.prog wb.drew = .ok (.string ⟨#[3, 112, 97, 121, 2, 0, 2, 1, 97, 6, 1, 98, 7]⟩) wb.drew ∧ SlB wb.drew A4 13 [3, 112, 97, 121, 2, 0, 2, 1, 97, 6, 1, 98, 7] ∧ Below w.heap.size w wb.drew) :=
    Lib.hid ⟨N7.out.cell 0, N7.out.cell 1, N7.out.cell 2, N7.out.cell 3, conv_bytes (S7.out.keep (Below.refl _ wb).drew) c4, S7.out.keep (Below.refl _ wb).drew, B7.out.drew⟩
  go_wp2_with fail
  go_region_held3 (fun wx => wx.cell? ⟨B, 0, none⟩ = some (.string ⟨#[112, 97, 121]⟩) ∧ wx.cell? ⟨B, 1, none⟩ = some (.int .i64 2) ∧ wx.cell? ⟨B, 2, none⟩ = some (.int .i64 0) ∧ wx.cell? ⟨B, 3, none⟩ = some (.slice A5 2 c5) ∧ (convert 38 9 (.slice A4 13 c4)).run Tryz.prog wx = .ok (.string ⟨#[3, 112, 97, 121, 2, 0, 2, 1, 97, 6, 1, 98, 7]⟩) wx ∧ SlB wx A4 13 [3, 112, 97, 121, 2, 0, 2, 1, 97, 6, 1, 98, 7] ∧ Below w.heap.size w wx)
    (first | exact SA.out | assumption | exact SB.out | exact SC.out)
    (first
      | (go_at_call 31; go_fit (pay_any wb.drew); rintro e w8 ⟨⟨A8, c8, rfl, hd8⟩, hb8⟩; have SB := Lib.hid (wkeep SA.out hb8); have H8 := Lib.hid (H7.out.keep ((Below.refl _ wb).drew.trans hb8)); have D8 := Lib.hid hd8; clear hd8 hb8)
      | (go_at_call 17; go_fit (defEqual_any payD payD A5 A8 2 2 c5 c8 w8 H8.out D8.out); rintro e w9 ⟨⟨q, rfl, hq⟩, hb9⟩; obtain rfl : q = true := hq.2 rfl; have SC := Lib.hid (wkeep SB.out hb9); clear hb9 hq))
  have HZ := Lib.hid SC.out.2.2.2.2.2.2
  clear SA SB SC
  go_wp2_with fail
  go_ret
  exact ⟨rfl, HZ.out⟩
end Go.Proofs.YtgeljnjcpkmlmaaGreatDoor
