/- What the program's Parse makes of a text. Conditions: the text is short; the program's own variables lie as its start lays them. -/
import Derived.Test.YtgeljnjcpkmlmaaGreatDoorDfPar
import Derived.Deep.DeepFit
namespace Go.Proofs.YtgeljnjcpkmlmaaGreatDoor
open Go.RowKit Go.Shelf

theorem par_ws {s : List UInt8} {ws : List ByteArray} (hws : wL ws = Lib.splitK [32] 0 (min 12 (s.length + 1) - 1) s) {d0 : Dv} (h0 : defOk d0) (h1 : textD d0 = s) : wL ws = wordsD d0 := by
  rw [hws, ← h1]; exact split_text h0
theorem par_short {s : List UInt8} {ws : List ByteArray} (hws : wL ws = Lib.splitK [32] 0 (min 12 (s.length + 1) - 1) s) (hl : ws.length < 4) : ∀ d0, defOk d0 → textD d0 ≠ s := fun d0 h0 h1 => by
  have h2 := congrArg List.length (par_ws hws h0 h1)
  rw [wordsD_len, wL, List.length_map] at h2
  have := h0.2.2.2.2.2.1; omega
theorem par_num {s : List UInt8} {ws : List ByteArray} {x : ByteArray} (hws : wL ws = Lib.splitK [32] 0 (min 12 (s.length + 1) - 1) s) {k : Nat} (hk : k = 1 ∨ k = 2) (hx : ws[k]? = some x) (hn : ∀ u, Lib.atoiAll x.data.toList ≠ .ok u) : ∀ d0, defOk d0 → textD d0 ≠ s := fun d0 h0 h1 => by
  have h2 : (wL ws)[k]? = (wordsD d0)[k]? := by rw [par_ws hws h0 h1]
  rw [wL, List.getElem?_map, hx] at h2
  rcases hk with rfl | rfl
  · have e : x.data.toList = dgs d0.r := by simpa [wordsD] using h2
    exact hn d0.r (by rw [e]; exact atoiAll_dgs h0.2.1 (by have := h0.2.2.1; omega))
  · have e : x.data.toList = dgs d0.dl := by simpa [wordsD] using h2
    exact hn d0.dl (by rw [e]; exact atoiAll_dgs h0.2.2.2.1 (by have := h0.2.2.2.2.1; omega))
theorem par_d {s : List UInt8} {ws : List ByteArray} {x0 x1 x2 : ByteArray} {r dl : Int} {xs : List Sp} (hws : wL ws = Lib.splitK [32] 0 (min 12 (s.length + 1) - 1) s) (h0 : ws[0]? = some x0) (h1 : ws[1]? = some x1) (h2 : ws[2]? = some x2)
    (hr : Lib.atoiAll x1.data.toList = .ok r) (hd : Lib.atoiAll x2.data.toList = .ok dl) (hl : xs.length = (ws.drop 3).length) (hk : StepsK (ws.drop 3) xs) {d0 : Dv} (hok : defOk d0) (ht : textD d0 = s) : (⟨x0, r, dl, xs⟩ : Dv) = d0 := by
  have hw := par_ws hws hok ht
  have g : ∀ k : Nat, (ws[k]?).map (·.data.toList) = (wordsD d0)[k]? := fun k => by rw [← hw, wL, List.getElem?_map]
  have g0 := g 0
  have g1 := g 1
  have g2 := g 2
  rw [h0] at g0; rw [h1] at g1; rw [h2] at g2
  have e0 : x0.data.toList = d0.n.data.toList := by simpa [wordsD] using g0
  have e1 : x1.data.toList = dgs d0.r := by simpa [wordsD] using g1
  have e2 : x2.data.toList = dgs d0.dl := by simpa [wordsD] using g2
  rw [e1, atoiAll_dgs hok.2.1 (by have := hok.2.2.1; omega)] at hr
  rw [e2, atoiAll_dgs hok.2.2.2.1 (by have := hok.2.2.2.2.1; omega)] at hd
  injection hr with hr
  injection hd with hd
  have hs : wL (ws.drop 3) = d0.s.map spW := by
    have := congrArg (List.drop 3) hw
    rw [wL, ← List.map_drop] at this
    exact this
  have hx := steps_rel (fun p hp => hok.2.2.2.2.2.2.2.all hp) (by rw [← hs]; exact hk.rel hl)
  have en : x0 = d0.n := by rw [← ba_eta x0, e0, ba_eta]
  obtain ⟨n', r', dl', s'⟩ := d0
  dsimp only at hx en hr hd
  rw [hx, en, hr, hd]
theorem defAt_zero (w : World) : DefAt w none 0 0 zeroD := ⟨rfl, Nat.le_refl _, Nat.zero_le _, ⟨by decide, by decide, by decide, fun i p h => by simp [zeroD] at h⟩, fun i p h => by simp [zeroD] at h⟩
def ParseR (s : List UInt8) (w w' : World) (e : Ending) : Prop := (∃ d A n c er, e = .returned (.tuple #[dV d A n c, .int .i64 er]) ∧ ParR s d er ∧ DefAt w' A n c d) ∧ Below w.heap.size w w'
theorem parse_zero {s : List UInt8} {w w' : World} (h : ∀ d0, defOk d0 → textD d0 ≠ s) (hb : Below w.heap.size w w') : ParseR s w w' (.returned (.tuple #[.agg #[.string ⟨#[]⟩, .int .i64 0, .int .i64 0, .slice none 0 0], .int .i64 10])) :=
  ⟨⟨zeroD, none, 0, 0, 10, rfl, Or.inr ⟨rfl, rfl, h⟩, defAt_zero w'⟩, hb⟩
theorem whole4 {W : World} {R : Nat} {t : TypeId} {a b c d : Value} (h : Whole W R t #[a, b, c, d]) : (W.cell? ⟨R, 0, none⟩ = some a ∧ W.cell? ⟨R, 1, none⟩ = some b ∧ W.cell? ⟨R, 2, none⟩ = some c ∧ W.cell? ⟨R, 3, none⟩ = some d) ∧ (W.frozen? ⟨R, 0, none⟩ = false ∧ W.frozen? ⟨R, 1, none⟩ = false ∧ W.frozen? ⟨R, 2, none⟩ = false ∧ W.frozen? ⟨R, 3, none⟩ = false) :=
  ⟨⟨h.cell 0, h.cell 1, h.cell 2, h.cell 3⟩, h.fr 0, h.fr 1, h.fr 2, h.fr 3⟩
theorem whole_put4 {W : World} {D : Nat} {t : TypeId} {a b c d : Value} (h : Whole W D t #[a, b, c, d]) (a' b' c' d' : Value) : Whole ((((W.setCell ⟨D, 0, none⟩ a').setCell ⟨D, 1, none⟩ b').setCell ⟨D, 2, none⟩ c').setCell ⟨D, 3, none⟩ d') D t #[a', b', c', d'] := by
  have := (((h.put 0 a').put 1 b').put 2 c').put 3 d'
  simpa using this
theorem put4_grown (W : World) (D : Nat) (a' b' c' d' : Value) : W.grownBy ((((W.setCell ⟨D, 0, none⟩ a').setCell ⟨D, 1, none⟩ b').setCell ⟨D, 2, none⟩ c').setCell ⟨D, 3, none⟩ d') (some D) :=
  grown_set (grown_set (grown_set (grown_set (World.grownBy.refl W (some D)) 0 a') 1 b') 2 c') 3 d'
/-- The definition has been built behind the steps. -/
theorem prs_new {w3 w7 : World} {m c9 : Nat} {A9 : Option Addr} {ws : List ByteArray} {xs : List Sp} {x0 : ByteArray} {v1 v2 : Int} {base : Nat} (ho : w7.ownsRow base 37 2 (.slice A9 m c9) m (xs.flatMap stC)) (hl : xs.length = m) (hk : StepsK ws xs) (hc : m ≤ c9) (hb : Below w3.heap.size w3 w7) (hbase : w3.heap.size ≤ base) :
    Whole (w7.alloc (.cells #[.string x0, .int .i64 v1, .int .i64 v2, .slice A9 m c9] 24)) w7.heap.size 24 #[.string x0, .int .i64 v1, .int .i64 v2, .slice A9 m c9] ∧ xs.length = m ∧ StepsK ws xs ∧ SlD (w7.alloc (.cells #[.string x0, .int .i64 v1, .int .i64 v2, .slice A9 m c9] 24)) A9 xs ∧ m ≤ c9 ∧ Below w3.heap.size w3 (w7.alloc (.cells #[.string x0, .int .i64 v1, .int .i64 v2, .slice A9 m c9] 24)) ∧ ∀ a : Addr, A9 = some a → w3.heap.size ≤ a.block :=
  ⟨Whole.new _ _ _, hl, hk, (slD_own ho hl).keep ((Below.refl _ _).alloc (Nat.le_refl _) _), hc, hb.alloc hb.size _, fun a ea => Nat.le_trans hbase ((ho.lt a.block (by rw [ea]; rfl)).1)⟩
/-- It is laid into a block that was there. -/
theorem prs_put {w3 w7 : World} {m c9 D : Nat} {A9 : Option Addr} {ws : List ByteArray} {xs : List Sp} {a b c d : Value} {base : Nat} (x0 : ByteArray) (v1 v2 : Int) (ho : w7.ownsRow base 37 2 (.slice A9 m c9) m (xs.flatMap stC)) (hl : xs.length = m) (hk : StepsK ws xs) (hc : m ≤ c9) (hb : Below w3.heap.size w3 w7) (hD : Whole w7 D 24 #[a, b, c, d]) (h3 : w3.heap.size ≤ D) (hbase : w3.heap.size ≤ base) :
    Whole ((((w7.setCell ⟨D, 0, none⟩ (.string x0)).setCell ⟨D, 1, none⟩ (.int .i64 v1)).setCell ⟨D, 2, none⟩ (.int .i64 v2)).setCell ⟨D, 3, none⟩ (.slice A9 m c9)) D 24 #[.string x0, .int .i64 v1, .int .i64 v2, .slice A9 m c9] ∧ xs.length = m ∧ StepsK ws xs ∧ SlD ((((w7.setCell ⟨D, 0, none⟩ (.string x0)).setCell ⟨D, 1, none⟩ (.int .i64 v1)).setCell ⟨D, 2, none⟩ (.int .i64 v2)).setCell ⟨D, 3, none⟩ (.slice A9 m c9)) A9 xs ∧ m ≤ c9 ∧ Below w3.heap.size w3 ((((w7.setCell ⟨D, 0, none⟩ (.string x0)).setCell ⟨D, 1, none⟩ (.int .i64 v1)).setCell ⟨D, 2, none⟩ (.int .i64 v2)).setCell ⟨D, 3, none⟩ (.slice A9 m c9)) ∧ ∀ a : Addr, A9 = some a → w3.heap.size ≤ a.block := by
  have hg := put4_grown w7 D (.string x0) (.int .i64 v1) (.int .i64 v2) (.slice A9 m c9)
  refine ⟨whole_put4 hD _ _ _ _, hl, hk, (slD_own ho hl).grown hg (fun a ea _ e => own_ne ho hD (by decide) ?_), hc, hb.grown hg hb.size (fun k e => by cases e; exact h3), fun a ea => Nat.le_trans hbase ((ho.lt a.block (by rw [ea]; rfl)).1)⟩
  rw [← e, ea]; rfl
set_option maxRecDepth 100000 in
set_option maxHeartbeats 1000000 in
theorem defParse_any (s : ByteArray) (w : World) (hs : s.size ≤ 1000000) (hE : DfE w) :
    Calls Tryz.prog 27 #[.string s] w fun e w' => ParseR s.data.toList w w' e := by
  have R1 := Lib.hid (Whole.new w 24 #[.string ⟨#[]⟩, .int .i64 0, .int .i64 0, .slice none 0 0])
  have b1 := Lib.hid ((Below.refl w.heap.size w).alloc (Nat.le_refl _) (.cells #[.string ⟨#[]⟩, .int .i64 0, .int .i64 0, .slice none 0 0] 24))
  have SP := Lib.hid (splitN_any s _ hs (hE.keep b1.out))
  have HE := Lib.hid hE
  clear hE hs
  go_enter Tryz.func27, Tryz.ntmps27
  go_upto_region 2 with (go_at_call 56; refine SP.out.mono ?_; rintro e w1 ⟨⟨ws, G, m, c, rfl, hwm, hwc, hw12, hws, hsl, hsz⟩, hb1⟩)
  have R2 := Lib.hid (R1.out.keep hb1)
  have BW1 := Lib.hid (b1.out.trans (hb1.mono b1.out.size))
  have HWS := Lib.hid hws
  have HSL := Lib.hid hsl
  have HSZ := Lib.hid hsz
  have HWM := Lib.hid hwm
  clear R1 b1 SP hb1 hws hsl hsz hwm
  have hRlt := R2.out.lt
  by_cases hlen : m < 4
  case pos =>
    have HB := Lib.hid (par_short HWS.out (by rw [HWM.out]; exact hlen))
    obtain ⟨⟨r0, r1, r2, r3⟩, s0, s1, s2, s3⟩ := whole4 R2.out
    go_wp2_with fail
    refine bodyPost_ret (v := .tuple #[.agg #[.string ⟨#[]⟩, .int .i64 0, .int .i64 0, .slice none 0 0], .int .i64 10]) ?_ rfl ?_
    · simp [results, Tryz.results27, go_sem, r0, r1, r2, r3]
    · exact parse_zero HB.out ((((BW1.out.setCell (p := ⟨w.heap.size, 0, none⟩) (Nat.le_refl _) _).setCell (p := ⟨w.heap.size, 1, none⟩) (Nat.le_refl _) _).setCell (p := ⟨w.heap.size, 2, none⟩) (Nat.le_refl _) _).setCell (p := ⟨w.heap.size, 3, none⟩) (Nat.le_refl _) _)
  obtain ⟨x0, hx0⟩ : ∃ x, ws[0]? = some x := ⟨_, List.getElem?_eq_getElem (by rw [HWM.out]; omega)⟩
  obtain ⟨x1, hx1⟩ : ∃ x, ws[1]? = some x := ⟨_, List.getElem?_eq_getElem (by rw [HWM.out]; omega)⟩
  obtain ⟨x2, hx2⟩ : ∃ x, ws[2]? = some x := ⟨_, List.getElem?_eq_getElem (by rw [HWM.out]; omega)⟩
  have hC : ∀ (k : Nat) x, ws[k]? = some x → w1.cell? ⟨G, k, none⟩ = some (.string x) := fun k x hx => by
    obtain ⟨g, o, e, h⟩ := HSL.out k x hx
    cases e; rw [Nat.zero_add] at h; exact h
  have y1 := hC 1 x1 hx1
  have y2 := hC 2 x2 hx2
  have HY0 := Lib.hid (hC 0 x0 hx0)
  have HX := Lib.hid (And.intro hx0 (And.intro hx1 hx2))
  have AT1 := Lib.hid (fun W hE => atoi2_any x1 W (HSZ.out x1 (List.mem_of_getElem? hx1)) hE)
  have AT2 := Lib.hid (fun W hE => atoi2_any x2 W (HSZ.out x2 (List.mem_of_getElem? hx2)) hE)
  have HE1 := Lib.hid (HE.out.keep BW1.out)
  have h1m : (1 : Int) < (m : Int) := by omega
  have h2m : (2 : Int) < (m : Int) := by omega
  clear hC hx0 hx1 hx2
  go_upto_region 6 with (first
    | (go_at_call 57; go_fit (AT1.out _ HE1.out); rintro e w2 ⟨(⟨v1, rfl, hv1⟩ | ⟨v1, N1, rfl, hv1⟩), hb2⟩; all_goals (have y2 := bcell y2 hb2; have B2 := Lib.hid hb2; have HE2 := Lib.hid (HE1.out.keep hb2); have HV1 := Lib.hid hv1; clear hb2 hv1))
    | (go_at_call 57; go_fit (AT2.out _ HE2.out); rintro e w3 ⟨(⟨v2, rfl, hv2⟩ | ⟨v2, N2, rfl, hv2⟩), hb3⟩; all_goals (have B3 := Lib.hid (B2.out.trans (hb3.mono B2.out.size)); have HV2 := Lib.hid hv2; clear hb3 hv2)))
  rotate_left
  · have HB := Lib.hid (par_num HWS.out (Or.inr rfl) (HX.out.2.2) HV2.out)
    have R3 := Lib.hid (R2.out.keep B3.out)
    have BW3 := Lib.hid (BW1.out.trans (B3.out.mono BW1.out.size))
    obtain ⟨⟨r0, r1, r2, r3⟩, s0, s1, s2, s3⟩ := whole4 R3.out
    have hRl3 := R3.out.lt
    clear y1 h1m h2m
    go_wp2_with fail
    refine bodyPost_ret (v := .tuple #[.agg #[.string ⟨#[]⟩, .int .i64 0, .int .i64 0, .slice none 0 0], .int .i64 10]) ?_ rfl ?_
    · simp [results, Tryz.results27, go_sem, r0, r1, r2, r3]
    · exact parse_zero HB.out ((((BW3.out.setCell (p := ⟨w.heap.size, 0, none⟩) (Nat.le_refl _) _).setCell (p := ⟨w.heap.size, 1, none⟩) (Nat.le_refl _) _).setCell (p := ⟨w.heap.size, 2, none⟩) (Nat.le_refl _) _).setCell (p := ⟨w.heap.size, 3, none⟩) (Nat.le_refl _) _)
  · have HB := Lib.hid (par_num HWS.out (Or.inl rfl) (HX.out.2.1) HV1.out)
    have R3 := Lib.hid (R2.out.keep B3.out)
    have BW3 := Lib.hid (BW1.out.trans (B3.out.mono BW1.out.size))
    obtain ⟨⟨r0, r1, r2, r3⟩, s0, s1, s2, s3⟩ := whole4 R3.out
    have hRl3 := R3.out.lt
    clear y1 h1m h2m
    go_wp2_with fail
    refine bodyPost_ret (v := .tuple #[.agg #[.string ⟨#[]⟩, .int .i64 0, .int .i64 0, .slice none 0 0], .int .i64 10]) ?_ rfl ?_
    · simp [results, Tryz.results27, go_sem, r0, r1, r2, r3]
    · exact parse_zero HB.out ((((BW3.out.setCell (p := ⟨w.heap.size, 0, none⟩) (Nat.le_refl _) _).setCell (p := ⟨w.heap.size, 1, none⟩) (Nat.le_refl _) _).setCell (p := ⟨w.heap.size, 2, none⟩) (Nat.le_refl _) _).setCell (p := ⟨w.heap.size, 3, none⟩) (Nat.le_refl _) _)
  · have HB := Lib.hid (par_num HWS.out (Or.inl rfl) (HX.out.2.1) HV1.out)
    have R3 := Lib.hid (R2.out.keep B3.out)
    have BW3 := Lib.hid (BW1.out.trans (B3.out.mono BW1.out.size))
    obtain ⟨⟨r0, r1, r2, r3⟩, s0, s1, s2, s3⟩ := whole4 R3.out
    have hRl3 := R3.out.lt
    clear y1 h1m h2m
    go_wp2_with fail
    refine bodyPost_ret (v := .tuple #[.agg #[.string ⟨#[]⟩, .int .i64 0, .int .i64 0, .slice none 0 0], .int .i64 10]) ?_ rfl ?_
    · simp [results, Tryz.results27, go_sem, r0, r1, r2, r3]
    · exact parse_zero HB.out ((((BW3.out.setCell (p := ⟨w.heap.size, 0, none⟩) (Nat.le_refl _) _).setCell (p := ⟨w.heap.size, 1, none⟩) (Nat.le_refl _) _).setCell (p := ⟨w.heap.size, 2, none⟩) (Nat.le_refl _) _).setCell (p := ⟨w.heap.size, 3, none⟩) (Nat.le_refl _) _)
  have R3 := Lib.hid (R2.out.keep B3.out)
  have BW3 := Lib.hid (BW1.out.trans (B3.out.mono BW1.out.size))
  have HE3 := Lib.hid (HE.out.keep BW3.out)
  have SL3 : Hid (SlW w3 (some ⟨G, 3, none⟩) (ws.drop 3)) := Lib.hid (fun k x hx => by
    rw [List.getElem?_drop] at hx
    obtain ⟨g, o, e, h⟩ := HSL.out.keep B3.out (3 + k) x hx
    cases e
    exact ⟨G, 3, rfl, by rw [show 3 + k = 0 + (3 + k) by omega]; exact h⟩)
  have SA : Hid (w3.drew.cell? ⟨G, 0, none⟩ = some (.string x0) ∧ Below w3.heap.size w3 w3.drew) := Lib.hid ⟨bcell (w' := w3) HY0.out B3.out, (Below.refl _ _).drew⟩
  clear y1 y2 h1m h2m HY0
  go_upto_region 8 with fail
  go_cut [9] from 39 (fun s9 wx => ∃ (D c9 : Nat) (A9 : Option Addr) (xs : List Sp), s9 = .pointer (some ⟨D, 0, none⟩) ∧ Hid (Whole wx D 24 #[.string x0, .int .i64 v1, .int .i64 v2, .slice A9 (m - 3) c9] ∧ xs.length = m - 3 ∧ StepsK (ws.drop 3) xs ∧ SlD wx A9 xs ∧ m - 3 ≤ c9 ∧ Below w3.heap.size w3 wx ∧ ∀ a : Addr, A9 = some a → w3.heap.size ≤ a.block))
  case first =>
    have h3m : (3 : Int) ≤ (m : Int) := by omega
    have h3c : 3 ≤ c := by omega
    have h0m : 0 < m := by omega
    have h3n : 3 ≤ m := by omega
    go_wp2_with fail
    refine wp_region_held_drew (S := fun wx => wx.cell? ⟨G, 0, none⟩ = some (.string x0) ∧ Below w3.heap.size w3 wx) (by kernel_rfl) SA.out (fun hHeld => ?_)
    refine wpAnyH_take (i := 0) (v := ?_) rfl (by kernel_rfl) (by kernel_rfl) (by kernel_rfl) (fun _ _ _ h => h) (Or.inl ⟨by rfl, ?_⟩) (by assumption) ?_
    rotate_left
    · intro w hSw
      go_simp
      try with_reducible rfl
    simp only [Act.put, List.getElem_toArray, List.getElem_cons_zero, List.setIfInBounds_toArray, List.set_cons_zero, List.set_cons_succ]
    refine wpAnyH_take (i := 1) (v := ?_) rfl (by kernel_rfl) (by kernel_rfl) (by kernel_rfl) (fun _ _ _ h => h) (Or.inl ⟨by rfl, ?_⟩) (by assumption) ?_
    rotate_left
    · intro w hSw
      go_simp
      try with_reducible rfl
    simp only [Act.put, List.getElem_toArray, List.getElem_cons_succ, List.getElem_cons_zero, List.setIfInBounds_toArray, List.set_cons_zero, List.set_cons_succ]
    refine wpAnyH_take (i := 2) (v := ?_) rfl (by kernel_rfl) (by kernel_rfl) (by kernel_rfl) (fun _ _ _ h => h) (Or.inl ⟨by rfl, ?_⟩) (by assumption) ?_
    rotate_left
    · intro w hSw
      go_simp
      try with_reducible rfl
    simp only [Act.put, List.getElem_toArray, List.getElem_cons_succ, List.getElem_cons_zero, List.setIfInBounds_toArray, List.set_cons_zero, List.set_cons_succ]
    refine wpAnyH_take (i := 3) (v := ?_) rfl (by kernel_rfl) (by kernel_rfl) (by kernel_rfl) (fun _ _ _ h => h) (Or.inl ⟨by rfl, ?_⟩) (by assumption) ?_
    rotate_left
    · intro w hSw
      go_simp
      try with_reducible rfl
    simp only [Act.put, List.getElem_toArray, List.getElem_cons_succ, List.getElem_cons_zero, List.setIfInBounds_toArray, List.set_cons_zero, List.set_cons_succ]
    refine wpAnyH_take (i := 4) (v := ?_) rfl (by kernel_rfl) (by kernel_rfl) (by kernel_rfl) (fun _ _ _ h => h) (Or.inl ⟨by rfl, ?_⟩) (by assumption) ?_
    rotate_left
    · intro w hSw
      go_simp
      try with_reducible rfl
    simp only [Act.put, List.getElem_toArray, List.getElem_cons_succ, List.getElem_cons_zero, List.setIfInBounds_toArray, List.set_cons_zero, List.set_cons_succ]
    refine wpAnyH_take (i := 5) (v := ?_) rfl (by kernel_rfl) (by kernel_rfl) (by kernel_rfl) (fun _ _ _ h => h) (Or.inl ⟨by rfl, ?_⟩) (by assumption) ?_
    rotate_left
    · intro w hSw
      go_simp
      try with_reducible rfl
    simp only [Act.put, List.getElem_toArray, List.getElem_cons_succ, List.getElem_cons_zero, List.setIfInBounds_toArray, List.set_cons_zero, List.set_cons_succ]
    refine wpAnyH_take (i := 6) (v := ?_) rfl (by kernel_rfl) (by kernel_rfl) (by kernel_rfl) (fun _ _ _ h => h) (Or.inl ⟨by rfl, ?_⟩) (by assumption) ?_
    rotate_left
    · intro w hSw
      go_simp
      try with_reducible rfl
    simp only [Act.put, List.getElem_toArray, List.getElem_cons_succ, List.getElem_cons_zero, List.setIfInBounds_toArray, List.set_cons_zero, List.set_cons_succ]
    have HWD : Hid ((ws.drop 3).length = m - 3) := Lib.hid (by rw [List.length_drop, HWM.out])
    have HZD : Hid (∀ x ∈ ws.drop 3, x.size ≤ 1000000) := Lib.hid (fun x hx => HSZ.out x (List.mem_of_mem_drop hx))
    have hGl : G < w3.heap.size := lt_cell SA.out.1
    have hc3 : ¬ c = 3 := by omega
    refine wpAnyH_ready (rs := [7, 10]) (by kernel_rfl) (by simp) ?_
    refine AllReadyH.cons rfl (fun K hK => ?_) (AllReadyH.cons rfl (fun K hK => ?_) AllReadyH.nil)
    · go_simp
      refine (steps_any (some ⟨G, 3, none⟩) (m - 3) (c - 3) _).mono ?_
      rintro e w6 ⟨⟨Bx, rfl, hbx⟩, hb6⟩
      try go_wp2_with fail
      refine hK.out _ _ ?_ (fun hHeld' => ?_)
      · exact ⟨bcell hHeld.1 hb6, hHeld.2.trans (hb6.mono hHeld.2.size)⟩
      clear hK K hHeld
      have hHeld := hHeld'
      clear hHeld'
      try simp only [Act.put, List.getElem_toArray, List.getElem_cons_succ, List.getElem_cons_zero, List.setIfInBounds_toArray, List.set_cons_zero, List.set_cons_succ]
      have h6 := hHeld.2.size
      refine wpAnyH_ready (rs := [8, 10]) (by kernel_rfl) (by simp) ?_
      refine AllReadyH.cons rfl (fun K hK => ?_) (AllReadyH.cons rfl (fun K hK => ?_) AllReadyH.nil)
      · go_simp
        refine (collect_any (some ⟨G, 3, none⟩) (m - 3) (c - 3) Bx (ws.drop 3) _ (HE3.out.keep hHeld.2) hbx (SL3.out.keep hHeld.2) HWD.out (by omega) HZD.out).mono ?_
        rintro e w7 ⟨⟨v, xs, rfl, hl, hk, ho⟩, hb7⟩
        obtain ⟨A9, c9, rfl, hc9⟩ := own_slice2 ho
        have hbs := hHeld.2.size
        try go_wp2_with fail
        refine hK.out _ _ ?_ (fun hHeld' => ?_)
        · exact ⟨bcell hHeld.1 hb7, hHeld.2.trans (hb7.mono hHeld.2.size)⟩
        clear hK K hHeld
        have hHeld := hHeld'
        clear hHeld'
        try simp only [Act.put, List.getElem_toArray, List.getElem_cons_succ, List.getElem_cons_zero, List.setIfInBounds_toArray, List.set_cons_zero, List.set_cons_succ]
        have h7 := Lib.hid hHeld
        refine wpAnyH_take (i := 9) (v := ?_) rfl (by kernel_rfl) (by kernel_rfl) (by kernel_rfl) (fun _ _ _ h => h) (Or.inl ⟨by rfl, ?_⟩) (by assumption) ?_
        rotate_left
        · intro w hSw
          go_simp
          try with_reducible rfl
        simp only [Act.put, List.getElem_toArray, List.getElem_cons_succ, List.getElem_cons_zero, List.setIfInBounds_toArray, List.set_cons_zero, List.set_cons_succ]
        refine wpAnyH_ready (rs := [10]) (by kernel_rfl) (by simp) ?_
        refine AllReadyH.cons rfl (fun K hK => ?_) AllReadyH.nil
        go_simp
        refine hK.out _ _ ?_ (fun hHeld' => ?_)
        · exact ⟨acell _ hHeld.1, hHeld.2.alloc hHeld.2.size _⟩
        clear hK K hHeld
        have hHeld := hHeld'
        clear hHeld'
        try simp only [Act.put, List.getElem_toArray, List.getElem_cons_succ, List.getElem_cons_zero, List.setIfInBounds_toArray, List.set_cons_zero, List.set_cons_succ]
        refine wpAnyH_ready (rs := [11]) (by kernel_rfl) (by simp) ?_
        refine AllReadyH.cons rfl (fun K hK => ?_) AllReadyH.nil
        go_simp
        refine hK.out _ _ ?_ (fun hHeld' => ?_)
        · exact ⟨acell _ h7.out.1, h7.out.2.alloc h7.out.2.size _⟩
        clear hK K hHeld
        have hHeld := hHeld'
        clear hHeld'
        try simp only [Act.put, List.getElem_toArray, List.getElem_cons_succ, List.getElem_cons_zero, List.setIfInBounds_toArray, List.set_cons_zero, List.set_cons_succ]
        refine wpAnyH_done (by kernel_rfl) ?_ _
        have HF := Lib.hid (prs_new (x0 := x0) (v1 := v1) (v2 := v2) ho hl hk hc9 h7.out.2 hbs)
        clear hHeld SA ho
        go_wp2_with fail
        go_meet
        case rel => exact ⟨_, _, _, _, rfl, HF⟩
      · have hN := Whole.new w6 24 #[.string ⟨#[]⟩, .int .i64 0, .int .i64 0, .slice none 0 0]
        go_simp
        refine hK.out _ _ ?_ (fun hHeld' => ?_)
        · exact ⟨acell _ hHeld.1, hHeld.2.alloc hHeld.2.size _⟩
        clear hK K hHeld
        have hHeld := hHeld'
        clear hHeld'
        try simp only [Act.put, List.getElem_toArray, List.getElem_cons_succ, List.getElem_cons_zero, List.setIfInBounds_toArray, List.set_cons_zero, List.set_cons_succ]
        refine wpAnyH_ready (rs := [8]) (by kernel_rfl) (by simp) ?_
        refine AllReadyH.cons rfl (fun K hK => ?_) AllReadyH.nil
        go_simp
        refine (collect_any (some ⟨G, 3, none⟩) (m - 3) (c - 3) Bx (ws.drop 3) _ (HE3.out.keep hHeld.2) (hbx.alloc _) (SL3.out.keep hHeld.2) HWD.out (by omega) HZD.out).mono ?_
        rintro e w7 ⟨⟨v, xs, rfl, hl, hk, ho⟩, hb7⟩
        obtain ⟨A9, c9, rfl, hc9⟩ := own_slice2 ho
        have hbs := hHeld.2.size
        have N7 := hN.keep hb7
        obtain ⟨⟨n0, n1, n2, n3⟩, g0, g1, g2, g3⟩ := whole4 N7
        try go_wp2_with fail
        refine hK.out _ _ ?_ (fun hHeld' => ?_)
        · exact ⟨bcell hHeld.1 hb7, hHeld.2.trans (hb7.mono hHeld.2.size)⟩
        clear hK K hHeld
        have hHeld := hHeld'
        clear hHeld'
        try simp only [Act.put, List.getElem_toArray, List.getElem_cons_succ, List.getElem_cons_zero, List.setIfInBounds_toArray, List.set_cons_zero, List.set_cons_succ]
        have h7 := Lib.hid hHeld
        refine wpAnyH_take (i := 9) (v := ?_) rfl (by kernel_rfl) (by kernel_rfl) (by kernel_rfl) (fun _ _ _ h => h) (Or.inl ⟨by rfl, ?_⟩) (by assumption) ?_
        rotate_left
        · intro w hSw
          go_simp
          try with_reducible rfl
        simp only [Act.put, List.getElem_toArray, List.getElem_cons_succ, List.getElem_cons_zero, List.setIfInBounds_toArray, List.set_cons_zero, List.set_cons_succ]
        refine wpAnyH_ready (rs := [11]) (by kernel_rfl) (by simp) ?_
        refine AllReadyH.cons rfl (fun K hK => ?_) AllReadyH.nil
        go_simp
        refine hK.out _ _ ?_ (fun hHeld' => ?_)
        · exact ⟨gcell hHeld.1 (put4_grown _ _ _ _ _ _) (by simp; omega), hHeld.2.grown (put4_grown _ _ _ _ _ _) hHeld.2.size (fun k e => by cases e; omega)⟩
        clear hK K hHeld
        have hHeld := hHeld'
        clear hHeld'
        try simp only [Act.put, List.getElem_toArray, List.getElem_cons_succ, List.getElem_cons_zero, List.setIfInBounds_toArray, List.set_cons_zero, List.set_cons_succ]
        refine wpAnyH_done (by kernel_rfl) ?_ _
        have HF := Lib.hid (prs_put x0 v1 v2 ho hl hk hc9 h7.out.2 N7 h6 hbs)
        clear hHeld SA ho
        go_wp2_with fail
        go_meet
        case rel => exact ⟨_, _, _, _, rfl, HF⟩
    · have hN : Whole (w3.drew.alloc (.cells #[.string ⟨#[]⟩, .int .i64 0, .int .i64 0, .slice none 0 0] 24)) w3.heap.size 24 #[.string ⟨#[]⟩, .int .i64 0, .int .i64 0, .slice none 0 0] := Whole.new w3.drew _ _
      go_simp
      refine hK.out _ _ ?_ (fun hHeld' => ?_)
      · exact ⟨acell _ hHeld.1, hHeld.2.alloc hHeld.2.size _⟩
      clear hK K hHeld
      have hHeld := hHeld'
      clear hHeld'
      try simp only [Act.put, List.getElem_toArray, List.getElem_cons_succ, List.getElem_cons_zero, List.setIfInBounds_toArray, List.set_cons_zero, List.set_cons_succ]
      refine wpAnyH_ready (rs := [7]) (by kernel_rfl) (by simp) ?_
      refine AllReadyH.cons rfl (fun K hK => ?_) AllReadyH.nil
      go_simp
      refine (steps_any (some ⟨G, 3, none⟩) (m - 3) (c - 3) _).mono ?_
      rintro e w6 ⟨⟨Bx, rfl, hbx⟩, hb6⟩
      try go_wp2_with fail
      refine hK.out _ _ ?_ (fun hHeld' => ?_)
      · exact ⟨bcell hHeld.1 hb6, hHeld.2.trans (hb6.mono hHeld.2.size)⟩
      clear hK K hHeld
      have hHeld := hHeld'
      clear hHeld'
      try simp only [Act.put, List.getElem_toArray, List.getElem_cons_succ, List.getElem_cons_zero, List.setIfInBounds_toArray, List.set_cons_zero, List.set_cons_succ]
      have h6 := hHeld.2.size
      have hN := hN.keep hb6
      refine wpAnyH_ready (rs := [8]) (by kernel_rfl) (by simp) ?_
      refine AllReadyH.cons rfl (fun K hK => ?_) AllReadyH.nil
      go_simp
      refine (collect_any (some ⟨G, 3, none⟩) (m - 3) (c - 3) Bx (ws.drop 3) _ (HE3.out.keep hHeld.2) hbx (SL3.out.keep hHeld.2) HWD.out (by omega) HZD.out).mono ?_
      rintro e w7 ⟨⟨v, xs, rfl, hl, hk, ho⟩, hb7⟩
      obtain ⟨A9, c9, rfl, hc9⟩ := own_slice2 ho
      have hbs := hHeld.2.size
      have N7 := hN.keep hb7
      obtain ⟨⟨n0, n1, n2, n3⟩, g0, g1, g2, g3⟩ := whole4 N7
      try go_wp2_with fail
      refine hK.out _ _ ?_ (fun hHeld' => ?_)
      · exact ⟨bcell hHeld.1 hb7, hHeld.2.trans (hb7.mono hHeld.2.size)⟩
      clear hK K hHeld
      have hHeld := hHeld'
      clear hHeld'
      try simp only [Act.put, List.getElem_toArray, List.getElem_cons_succ, List.getElem_cons_zero, List.setIfInBounds_toArray, List.set_cons_zero, List.set_cons_succ]
      have h7 := Lib.hid hHeld
      refine wpAnyH_take (i := 9) (v := ?_) rfl (by kernel_rfl) (by kernel_rfl) (by kernel_rfl) (fun _ _ _ h => h) (Or.inl ⟨by rfl, ?_⟩) (by assumption) ?_
      rotate_left
      · intro w hSw
        go_simp
        try with_reducible rfl
      simp only [Act.put, List.getElem_toArray, List.getElem_cons_succ, List.getElem_cons_zero, List.setIfInBounds_toArray, List.set_cons_zero, List.set_cons_succ]
      refine wpAnyH_ready (rs := [11]) (by kernel_rfl) (by simp) ?_
      refine AllReadyH.cons rfl (fun K hK => ?_) AllReadyH.nil
      go_simp
      refine hK.out _ _ ?_ (fun hHeld' => ?_)
      · exact ⟨gcell hHeld.1 (put4_grown _ _ _ _ _ _) (by simp; omega), hHeld.2.grown (put4_grown _ _ _ _ _ _) hHeld.2.size (fun k e => by cases e; omega)⟩
      clear hK K hHeld
      have hHeld := hHeld'
      clear hHeld'
      try simp only [Act.put, List.getElem_toArray, List.getElem_cons_succ, List.getElem_cons_zero, List.setIfInBounds_toArray, List.set_cons_zero, List.set_cons_succ]
      refine wpAnyH_done (by kernel_rfl) ?_ _
      have HF := Lib.hid (prs_put x0 v1 v2 ho hl hk hc9 h7.out.2 N7 (Nat.le_refl _) hbs)
      clear hHeld SA ho
      go_wp2_with fail
      go_meet
      case rel => exact ⟨_, _, _, _, rfl, HF⟩
  case rest =>
    obtain ⟨D, c9, A9, xs, rfl, HF⟩ := hcut
    have HD : Hid (DefAt wc A9 (m - 3) c9 ⟨x0, v1, v2, xs⟩) := Lib.hid ⟨HF.out.2.1, HF.out.2.2.2.2.1, by omega, ⟨by have := HSZ.out x0 (List.mem_of_getElem? HX.out.1); show x0.size ≤ _; omega, Lib.atoiAll_bounds HV1.out, Lib.atoiAll_bounds HV2.out, fun i p hi => by
      have hlt := (List.getElem?_eq_some_iff.1 hi).1
      have hlt2 : i < (ws.drop 3).length := by rw [List.length_drop, HWM.out]; have : xs.length = m - 3 := HF.out.2.1; have : i < xs.length := hlt; omega
      exact (HF.out.2.2.1 i _ p (List.getElem?_eq_getElem hlt2) hi).2⟩, HF.out.2.2.2.1⟩
    have BC := Lib.hid (BW3.out.trans (HF.out.2.2.2.2.2.1.mono BW3.out.size))
    have TX := Lib.hid (defText_any _ _ _ _ wc HD.out (HE.out.keep BC.out))
    have RC := Lib.hid (R3.out.keep HF.out.2.2.2.2.2.1)
    have PD := Lib.hid (fun (d0 : Dv) (h0 : defOk d0) (h1 : textD d0 = s.data.toList) => par_d HWS.out HX.out.1 HX.out.2.1 HX.out.2.2 HV1.out HV2.out (by rw [List.length_drop, HWM.out]; exact HF.out.2.1) HF.out.2.2.1 h0 h1)
    obtain ⟨⟨n0, n1, n2, n3⟩, _⟩ := whole4 HF.out.1
    have HAD : Hid (∀ a : Addr, A9 = some a → (xs : List Sp) ≠ [] → some a.block ≠ some w.heap.size) := Lib.hid (fun a ea _ e => by have h1 := HF.out.2.2.2.2.2.2 a ea; have h2 := R3.out.lt; injection e with e; omega)
    have HA9 : Hid (∀ a : Addr, A9 = some a → (xs : List Sp) ≠ [] → some a.block ≠ some w.heap.size) := Lib.hid (HAD.out)
    unfold dV at TX
    clear SA SL3 hlen
    by_cases hok : defOk ⟨x0, v1, v2, xs⟩
    · have TX1 := Lib.hid (TX.out.mono (fun e w' ⟨h, hb⟩ => And.intro (h.resolve_right (fun h => h.1 hok)).2 hb))
      by_cases ht : textD ⟨x0, v1, v2, xs⟩ = s.data.toList
      · rw [ht, ba_eta] at TX1
        have PR : Hid (ParR s.data.toList ⟨x0, v1, v2, xs⟩ 0) := Lib.hid (Or.inl ⟨rfl, hok, ht⟩)
        clear ht hok
        go_upto_region 10 with (go_at_call 23; refine TX1.out.mono ?_; rintro e w5 ⟨rfl, hb5⟩)
        have B5 := Lib.hid (BC.out.trans (hb5.mono BC.out.size))
        have HB5 := Lib.hid hb5
        have R5 := Lib.hid (RC.out.keep hb5)
        obtain ⟨⟨r0, r1, r2, r3⟩, s0, s1, s2, s3⟩ := whole4 R5.out
        obtain ⟨⟨n0, n1, n2, n3⟩, _⟩ := whole4 (HF.out.1.keep hb5)
        have hR5 := R5.out.lt
        clear hb5
        go_wp2_with fail
        refine bodyPost_ret (v := .tuple #[.agg #[.string x0, .int .i64 v1, .int .i64 v2, .slice A9 (m - 3) c9], .int .i64 0]) ?_ rfl ?_
        · simp [results, Tryz.results27, go_sem, r0, r1, r2, r3]
        · have D5 := HD.out.keep (show Below wc.heap.size wc w5 from HB5.out)
          exact ⟨⟨⟨x0, v1, v2, xs⟩, A9, m - 3, c9, 0, rfl, PR.out, D5.grown (put4_grown _ _ _ _ _ _) (fun a ea hne => HA9.out a ea hne)⟩, ((((B5.out.setCell (p := ⟨w.heap.size, 0, none⟩) (Nat.le_refl _) _).setCell (p := ⟨w.heap.size, 1, none⟩) (Nat.le_refl _) _).setCell (p := ⟨w.heap.size, 2, none⟩) (Nat.le_refl _) _).setCell (p := ⟨w.heap.size, 3, none⟩) (Nat.le_refl _) _)⟩
      · have hne : ((⟨(textD ⟨x0, v1, v2, xs⟩).toArray⟩ : ByteArray).toList == s.toList) = false := key_ne.2 (fun e => ht (by rw [← e]))
        have HB : Hid (∀ d0, defOk d0 → textD d0 ≠ s.data.toList) := Lib.hid (fun d0 h0 h1 => ht (by rw [PD.out d0 h0 h1]; exact h1))
        generalize (⟨(textD ⟨x0, v1, v2, xs⟩).toArray⟩ : ByteArray) = tb at TX1 hne
        clear ht hok
        go_upto_region 10 with (go_at_call 23; refine TX1.out.mono ?_; rintro e w5 ⟨rfl, hb5⟩)
        have B5 := Lib.hid (BC.out.trans (hb5.mono BC.out.size))
        have R5 := Lib.hid (RC.out.keep hb5)
        obtain ⟨⟨r0, r1, r2, r3⟩, s0, s1, s2, s3⟩ := whole4 R5.out
        obtain ⟨⟨n0, n1, n2, n3⟩, _⟩ := whole4 (HF.out.1.keep hb5)
        have hR5 := R5.out.lt
        clear hb5
        go_wp2_with fail
        refine bodyPost_ret (v := .tuple #[.agg #[.string ⟨#[]⟩, .int .i64 0, .int .i64 0, .slice none 0 0], .int .i64 10]) ?_ rfl ?_
        · simp [results, Tryz.results27, go_sem, r0, r1, r2, r3]
        · exact parse_zero HB.out ((((B5.out.setCell (p := ⟨w.heap.size, 0, none⟩) (Nat.le_refl _) _).setCell (p := ⟨w.heap.size, 1, none⟩) (Nat.le_refl _) _).setCell (p := ⟨w.heap.size, 2, none⟩) (Nat.le_refl _) _).setCell (p := ⟨w.heap.size, 3, none⟩) (Nat.le_refl _) _)
    · have TX1 := Lib.hid (TX.out.mono (fun e w' ⟨h, hb⟩ => And.intro (h.resolve_left (fun h => hok h.1)).2 hb))
      have HB : Hid (∀ d0, defOk d0 → textD d0 ≠ s.data.toList) := Lib.hid (fun d0 h0 h1 => hok (by rw [PD.out d0 h0 h1]; exact h0))
      clear hok
      go_upto_region 10 with (go_at_call 23; refine TX1.out.mono ?_; rintro e w5 ⟨rfl, hb5⟩)
      have B5 := Lib.hid (BC.out.trans (hb5.mono BC.out.size))
      have R5 := Lib.hid (RC.out.keep hb5)
      obtain ⟨⟨r0, r1, r2, r3⟩, s0, s1, s2, s3⟩ := whole4 R5.out
      obtain ⟨⟨n0, n1, n2, n3⟩, _⟩ := whole4 (HF.out.1.keep hb5)
      have hR5 := R5.out.lt
      clear hb5
      go_wp2_with fail
      refine bodyPost_ret (v := .tuple #[.agg #[.string ⟨#[]⟩, .int .i64 0, .int .i64 0, .slice none 0 0], .int .i64 10]) ?_ rfl ?_
      · simp [results, Tryz.results27, go_sem, r0, r1, r2, r3]
      · exact parse_zero HB.out ((((B5.out.setCell (p := ⟨w.heap.size, 0, none⟩) (Nat.le_refl _) _).setCell (p := ⟨w.heap.size, 1, none⟩) (Nat.le_refl _) _).setCell (p := ⟨w.heap.size, 2, none⟩) (Nat.le_refl _) _).setCell (p := ⟨w.heap.size, 3, none⟩) (Nat.le_refl _) _)
end Go.Proofs.YtgeljnjcpkmlmaaGreatDoor
