/- Which operations are valid, and their texts, by the program. Condition: the program's own variables lie as its start lays them. -/
import Derived.Test.YtojodekmmkemgaaGreatDoorScAl
import Derived.Deep.RegionHeld3
import Derived.Deep.AppendLies
namespace Go.Proofs.YtojodekmmkemgaaGreatDoor
open Go.RowKit Go.Shelf

theorem skeep1 {w0 wc w2 : World} {B : Nat} {a : Addr} {x : Value} (hH : wc.cell? a = some x ∧ Below B w0 wc ∧ B ≤ wc.heap.size) (hb : Below wc.heap.size wc w2) : w2.cell? a = some x ∧ Below B w0 w2 ∧ B ≤ w2.heap.size :=
  ⟨bcell hH.1 hb, hH.2.1.trans (hb.mono hH.2.2), Nat.le_trans hH.2.2 hb.size⟩
theorem skeep2 {w0 wc w2 : World} {B : Nat} {a b : Addr} {x y : Value} (hH : wc.cell? a = some x ∧ wc.cell? b = some y ∧ Below B w0 wc ∧ B ≤ wc.heap.size) (hb : Below wc.heap.size wc w2) : w2.cell? a = some x ∧ w2.cell? b = some y ∧ Below B w0 w2 ∧ B ≤ w2.heap.size :=
  ⟨bcell hH.1 hb, skeep1 hH.2 hb⟩
theorem ba_of {t : ByteArray} {l : List UInt8} (h : t.data.toList = l) : t = ⟨l.toArray⟩ := by rw [← h, ba_eta]
theorem joinW_leK {K : Nat} : ∀ (ws : List (List UInt8)), (∀ w ∈ ws, w.length ≤ K) → (joinW ws).length ≤ (K + 1) * ws.length
  | [], _ => by simp [joinW]
  | [a], h => by
    have := h a (by simp)
    rw [joinW]; simp; omega
  | a :: b :: l, h => by
    have h1 := h a (by simp)
    have h2 := joinW_leK (b :: l) (fun w hw => h w (by simp [hw]))
    have e : (K + 1) * (a :: b :: l).length = (K + 1) * (b :: l).length + (K + 1) := by rw [List.length_cons (a := a), Nat.mul_add, Nat.mul_one]
    rw [joinW, List.length_append, List.length_cons, e]
    omega
set_option maxRecDepth 100000 in
set_option maxHeartbeats 4000000 in
theorem ocheck_any (o : Ov) (A : Option Addr) (n m : Nat) (w : World) (h : OpIn w o A n m) :
    Calls Tryz.prog 24 #[.agg (oA o A n m)] w fun e w' => e = .returned (.int .i64 (ckO o)) ∧ Below w.heap.size w w' := by
  have US := fun V (hV : OpIn V o A n m) => alone_any o A n m V hV
  unfold AloR at US
  obtain ⟨u, hu⟩ : ∃ u, u = aloneO o := ⟨_, rfl⟩
  rw [← hu] at US
  have B1 := Lib.hid ((Below.refl w.heap.size w).alloc (Nat.le_refl _) (.cells (oA o A n m) 34))
  have C1 := Lib.hid (OpAt.new h)
  have US := Lib.hid US
  by_cases h1 : usedO o
  case neg =>
    have HV : Hid (ckO o = 2) := Lib.hid (ckO_no (fun e => h1 e.1))
    have H1 := Lib.hid h1
    clear h h1 hu
    go_enter Tryz.func24, Tryz.ntmps24
    go_upto_region 1 with fail
    generalize w.alloc (.cells (oA o A n m) 34) = w1 at B1 C1 ⊢
    go_upto_region 2 with (first
      | (refine wpList_load_row rfl 34 (.tmp 1) rfl _ rfl 34 (oA o A n m) (0, 0) _ C1.out.w Tryz.underlying34 rfl (info10 _ _ _ _) ?_)
      | (go_at_call 62; refine (US.out w1 C1.out.i).mono ?_; rintro e w2 ⟨⟨q, A2, n2, m2, rfl, hq, hin⟩, hb⟩; obtain rfl : q = false := Bool.eq_false_iff.2 (fun e => H1.out (hq.1 e)); have I2 := Lib.hid (B1.out.trans (hb.mono B1.out.size)); clear hq hin hb US)
      | (refine wpList_store_row rfl 34 (.tmp 3) (.tmp 8) rfl _ (oA u A2 n2 m2) rfl rfl 34 _ (heap_alloc_new _ _) (info10 _ _ _ _) rfl (all10 _ _ _ _) ?_; rw [World.setRow_alloc_new]))
    have I3 : Hid (Below w.heap.size w (w2.alloc (.cells (oA u A2 n2 m2) 34))) := Lib.hid (I2.out.trans (((Below.refl w2.heap.size w2).alloc (Nat.le_refl _) (.cells (oA u A2 n2 m2) 34)).mono I2.out.size))
    clear B1 C1 I2 H1
    generalize w2.alloc (.cells (oA u A2 n2 m2) 34) = w3 at I3 ⊢
    go_wp2_with fail
    go_ret
    exact ⟨by rw [HV.out]; rfl, I3.out⟩
  obtain ⟨q2, hq2⟩ : ∃ q2 : Bool, (q2 = true ↔ u = o) ∧ ckO o = (if q2 = true then 0 else 2) := by
    by_cases h2 : u = o
    · exact ⟨true, by simp [h2], by rw [ckO_yes ⟨h1, by rw [← hu]; exact h2⟩]; rfl⟩
    · exact ⟨false, by simp [h2], by rw [ckO_no (fun e => h2 (by rw [hu]; exact e.2))]; rfl⟩
  have H1 := Lib.hid h1
  have H2 := Lib.hid hq2
  clear h h1 hu hq2
  go_enter Tryz.func24, Tryz.ntmps24
  go_upto_region 1 with fail
  generalize w.alloc (.cells (oA o A n m) 34) = w1 at B1 C1 ⊢
  go_upto_region 2 with (first
    | (refine wpList_load_row rfl 34 (.tmp 1) rfl _ rfl 34 (oA o A n m) (0, 0) _ C1.out.w Tryz.underlying34 rfl (info10 _ _ _ _) ?_)
    | (go_at_call 62; refine (US.out w1 C1.out.i).mono ?_; rintro e w2 ⟨⟨q, A2, n2, m2, rfl, hq, hin⟩, hb⟩; obtain rfl : q = true := hq.2 H1.out; have I2 := Lib.hid (And.intro (B1.out.trans (hb.mono B1.out.size)) (And.intro (C1.out.keep hb) hin)); clear hq hin hb US)
    | (refine wpList_store_row rfl 34 (.tmp 3) (.tmp 8) rfl _ (oA u A2 n2 m2) rfl rfl 34 _ (heap_alloc_new _ _) (info10 _ _ _ _) rfl (all10 _ _ _ _) ?_; rw [World.setRow_alloc_new]))
  have I3 : Hid (Below w.heap.size w (w2.alloc (.cells (oA u A2 n2 m2) 34)) ∧ OpAt (w2.alloc (.cells (oA u A2 n2 m2) 34)) w.heap.size o A n m ∧ OpAt (w2.alloc (.cells (oA u A2 n2 m2) 34)) w2.heap.size u A2 n2 m2) := by
    have ba := (Below.refl w2.heap.size w2).alloc (Nat.le_refl _) (.cells (oA u A2 n2 m2) 34)
    exact Lib.hid ⟨I2.out.1.trans (ba.mono I2.out.1.size), I2.out.2.1.keep ba, OpAt.new I2.out.2.2⟩
  clear B1 C1 I2 H1
  generalize w2.alloc (.cells (oA u A2 n2 m2) 34) = w3 at I3 ⊢
  generalize w2.heap.size = O at I3 ⊢
  have EQ := Lib.hid ((oequal_any u o A2 A n2 n m2 m w3 I3.out.2.2.i I3.out.2.1.i).mono (R' := fun e w' => e = .returned (.bool q2) ∧ Below w3.heap.size w3 w') (fun e w' ⟨⟨b, he, hb⟩, hw⟩ => ⟨by rw [he, Bool.eq_iff_iff.2 (hb.trans H2.out.1.symm)], hw⟩))
  have H3 : Hid (ckO o = (if q2 = true then 0 else 2)) := Lib.hid H2.out.2
  clear H2
  cases q2
  all_goals
    go_wp2_with (first
      | (refine wpList_load_rowG (by rfl) 34 (.tmp 3) rfl _ rfl 34 (oA u A2 n2 m2) (0, 0) _ I3.out.2.2.w Tryz.underlying34 rfl (info10 _ _ _ _) ?_)
      | (refine wpList_load_rowG (by rfl) 34 (.tmp 1) rfl _ rfl 34 (oA o A n m) (0, 0) _ I3.out.2.1.w Tryz.underlying34 rfl (info10 _ _ _ _) ?_)
      | (go_at_call 26; refine EQ.out.mono ?_; rintro e w4 ⟨rfl, hb⟩; have BZ := Lib.hid (I3.out.1.trans (hb.mono I3.out.1.size)); clear hb EQ))
    go_ret
    exact ⟨by rw [H3.out]; rfl, BZ.out⟩
theorem wordO_len (k : Int) : (wordO k).length ≤ 7 := by
  by_cases h : 0 ≤ k ∧ k ≤ 12
  · have h2 : ∀ j < 13, (wordO ((j : Nat) : Int)).length ≤ 7 := by decide
    have h3 := h2 k.toNat (by omega)
    rw [show ((k.toNat : Nat) : Int) = k by omega] at h3
    exact h3
  · rw [wordO_out h]; exact Nat.zero_le _
/-- The words of an operation's text. -/
def wdsO (o : Ov) : List (List UInt8) := wordO o.k :: dgs o.n :: moreO o
theorem moreO_len {o : Ov} (h : opOk o) : (moreO o).length ≤ 2 ∧ ∀ w ∈ moreO o, w.length ≤ 460 := by
  have hm := opOk_m h
  have dm := dgs_le (a := o.m) (by omega)
  rcases opOk_cases h with ⟨g, _, _⟩ | ⟨g, _, _⟩ | ⟨g, _, _, _⟩ | ⟨g, _, _, gd, _⟩ | ⟨g, _, _, _⟩ | ⟨g, _, gk, _⟩ | ⟨g, _, _, gr, _⟩
  · rw [moreO_0 (by omega) (by omega) (by omega) (by omega)]; exact ⟨by decide, fun w hw => by cases hw⟩
  · rw [moreO_0 (by omega) (by omega) (by omega) (by omega)]; exact ⟨by decide, fun w hw => by cases hw⟩
  · rw [moreO_m (by omega)]; exact ⟨by simp, fun w hw => by rw [List.mem_singleton.1 hw]; omega⟩
  · rw [moreO_8 g]
    have := textD_le gd
    refine ⟨by simp, fun w hw => ?_⟩
    rcases List.mem_cons.1 hw with rfl | hw
    · omega
    · rw [List.mem_singleton.1 hw]; omega
  · rw [moreO_m (by omega)]; exact ⟨by simp, fun w hw => by rw [List.mem_singleton.1 hw]; omega⟩
  · rw [moreO_11 g]
    have := (isName_len gk).2.1
    exact ⟨by simp, fun w hw => by rw [List.mem_singleton.1 hw]; omega⟩
  · rw [moreO_12 g]
    have h1 := okS_len (okR_left gr)
    have h2 := okS_len (okR_right gr)
    refine ⟨by simp, fun w hw => ?_⟩
    rcases List.mem_cons.1 hw with rfl | hw
    · unfold rtxt
      simp only [List.length_append, List.length_cons, List.length_nil]
      omega
    · rw [List.mem_singleton.1 hw]; omega
theorem textO_len {o : Ov} (h : opOk o) : (textO o).length ≤ 2000 := by
  have hm := moreO_len h
  have hn := opOk_n h
  have dn := dgs_le (a := o.n) (by omega)
  have dw := wordO_len o.k
  have h1 := joinW_leK (K := 460) (wordO o.k :: dgs o.n :: moreO o) (fun v hv => by
    rcases List.mem_cons.1 hv with rfl | hv
    · omega
    · rcases List.mem_cons.1 hv with rfl | hv
      · omega
      · exact hm.2 v hv)
  have h2 : (wordO o.k :: dgs o.n :: moreO o).length ≤ 4 := by
    rw [List.length_cons, List.length_cons]
    omega
  have h3 : (460 + 1) * (wordO o.k :: dgs o.n :: moreO o).length ≤ 461 * 4 := Nat.mul_le_mul_left _ h2
  unfold textO
  omega
set_option maxRecDepth 100000 in
/-- The words joined. -/
theorem pr_join (o : Ov) (ho : opOk o) (base : Nat) (v : Value) (ws : List ByteArray) (W : World) (hown : W.ownsRow base 9 1 v ws.length (ws.map sV)) (h0 : 0 < ws.length) (h1 : ws.length ≤ 10) (hws : joinW (ws.map (·.data.toList)) = textO o) :
    Calls Tryz.prog 19 #[v, .string ⟨#[32]⟩] W fun e w' => e = .returned (.string ⟨(textO o).toArray⟩) ∧ Below W.heap.size W w' := by
  obtain ⟨g, cp, rfl, hg1, hg2⟩ := hown.form h0
  have hJ : Lib.join (ws.map (·.data.toList)) [32] = textO o := by rw [← joinW_eq]; exact hws
  have hcp : ws.length ≤ cp := by
    rcases hown.2 with ⟨e, _⟩ | ⟨g', cap, cur, e, _, _, hc, _⟩
    · cases e
    · cases e; exact hc
  have JN := Tryz.strings_Join g 0 cp ws ⟨#[32]⟩ W (fun i x hi => by
    have := hown.cells (g := g) rfl i (sV x) (by rw [List.getElem?_map, hi]; rfl)
    rw [show (⟨g, 0, none⟩ : Addr).add i = ⟨g, 0 + i, none⟩ by unfold Addr.add; split <;> simp_all] at this
    exact this) hg2 (by omega) hcp (by rw [show ((⟨#[32]⟩ : ByteArray).data.toList) = [32] from rfl, hJ]; have := textO_len ho; omega)
  rw [show ((⟨#[32]⟩ : ByteArray).data.toList) = [32] from rfl, hJ] at JN
  exact JN
/-- Words appended. -/
theorem app_words (base : Nat) (v : Value) (xs ys : List ByteArray) (W : World) (hown : W.ownsRow base 9 1 v xs.length (xs.map sV)) (hb : base ≤ W.heap.size) (hn : xs.length ≤ 10) (hy : ys.length ≤ 10) (hy0 : 0 < ys.length) :
    ∃ v' w', (Builtin.append_ #[43, 43] 43 #[v, .slice (some ⟨W.heap.size, 0, none⟩) ys.length ys.length]).run Tryz.prog (W.alloc (.cells (ys.map sV).toArray 9)) = .ok v' w' ∧ w'.ownsRow base 9 1 v' (xs ++ ys).length ((xs ++ ys).map sV) ∧ Below W.heap.size W (W.alloc (.cells (ys.map sV).toArray 9)) ∧ (W.alloc (.cells (ys.map sV).toArray 9)).grownBy w' v.ownBlock := by
  have ba := (Below.refl W.heap.size W).alloc (Nat.le_refl _) (.cells (ys.map sV).toArray 9)
  have ho := hown.kept (gbelow ba) (Classical.em _)
  obtain ⟨v', w', hrun, h1, h2⟩ := run_app_text _ base v xs.length (xs.map sV) ho ⟨W.heap.size, 0, none⟩ ys.length ys.length (ys.map sV) (by simp) (news_at W 9 (ys.map sV) W.heap.size rfl) (by intro u hu; obtain ⟨x, _, rfl⟩ := List.mem_map.1 hu; rfl) (by omega) (by have := ba.size; omega)
  refine ⟨v', w', hrun, ?_, ba, h2⟩
  rw [List.length_append, List.map_append]
  exact h1
end Go.Proofs.YtojodekmmkemgaaGreatDoor
