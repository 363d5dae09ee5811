/- RangesCoverKeys returns true; memory that lay stays. Conditions: the texts lie in memory, none longer than an int can say; what the shaped variables hold. -/
import Derived.Test.YthngliafkhalfaaDoorCovH
import Derived.Test.YthngliafkhalfaaDoorCoverSort
import Derived.Test.YthngliafkhalfaaDoorAB
import Derived.Deep.RegionHeld3
import Derived.Test.YthngliafkhalfaaDoorRText
namespace Go.Proofs.YthngliafkhalfaaDoor
open Go.RowKit

theorem flatR_snoc (d : List LR) (p : LR) : flatR (d ++ [p]) = flatR d ++ [.string ⟨p.1.toArray⟩, .string ⟨p.2.toArray⟩] := by
  unfold flatR
  rw [List.flatMap_append]
  simp [encR]
theorem own_belowR {w w2 : World} {B : Nat} {e : TypeId} {size : Nat} {v : Value} {n : Nat} {xs : List Value} (h : w.ownsRow B e size v n xs) (hb : Below w.heap.size w w2) : w2.ownsRow B e size v n xs := by
  rcases h with ⟨h1, h2 | ⟨g, cap, cur, h2, h3, h4, h5⟩⟩
  · exact ⟨h1, Or.inl h2⟩
  · have hg : g < w.heap.size := by
      rcases Nat.lt_or_ge g w.heap.size with hlt | hge
      · exact hlt
      · rw [Array.getElem?_eq_none hge] at h4; cases h4
    exact ⟨h1, Or.inr ⟨g, cap, cur, h2, h3, (hb.block g hg).trans h4, h5⟩⟩
theorem own_some {w : World} {B : Nat} {e : TypeId} {size : Nat} {v : Value} {n : Nat} {xs : List Value} (h : w.ownsRow B e size v (n + 1) xs) : ∃ g cap, v = .slice (some ⟨g, 0, none⟩) (n + 1) cap ∧ n + 1 ≤ cap := by
  rcases h.2 with ⟨_, h⟩ | ⟨g, cap, cur, h, _, _, h4, _⟩
  · cases h
  · exact ⟨g, cap, h, h4⟩
theorem rem_q {turn : Int} {m : Nat} (h1 : 0 ≤ turn) : ∃ q : Nat, turn % ((m : Int) + 1) = q ∧ turn.tmod ((m : Int) + 1) = q ∧ q < m + 1 := by
  have e1 := Int.emod_nonneg turn (show (m : Int) + 1 ≠ 0 by omega)
  have e2 := Int.emod_lt_of_pos turn (show (0 : Int) < (m : Int) + 1 by omega)
  exact ⟨(turn % ((m : Int) + 1)).toNat, by omega, by rw [Int.tmod_eq_emod_of_nonneg h1]; omega, by omega⟩
theorem ba_list (z : ByteArray) : ∃ e : List UInt8, (⟨e.toArray⟩ : ByteArray) = z := ⟨z.data.toList, by obtain ⟨⟨l⟩⟩ := z; rfl⟩

theorem fit_of {d : List LR} (h : ∀ p ∈ d, okR ⟨p.1.toArray⟩ ⟨p.2.toArray⟩ = true) : ∀ p ∈ d.map toBA, fitR p := fun p hp => by
  obtain ⟨x, hx, rfl⟩ := List.mem_map.1 hp
  have h2 := h x hx
  unfold okR at h2
  simp only [Bool.and_eq_true] at h2
  have e1 := okS_sz h2.1
  have e2 := okS_sz h2.2.1
  exact ⟨by show (⟨x.1.toArray⟩ : ByteArray).size ≤ _; omega, by show (⟨x.2.toArray⟩ : ByteArray).size ≤ _; omega⟩
/-- How many of the first ranges have a key. -/
def cntR (k : ByteArray) (d : List LR) : Nat := (d.filter fun p => hasR ⟨p.1.toArray⟩ ⟨p.2.toArray⟩ k).length
theorem cntR_snoc (k : ByteArray) (d : List LR) (p : LR) : cntR k (d ++ [p]) = cntR k d + if hasR ⟨p.1.toArray⟩ ⟨p.2.toArray⟩ k then 1 else 0 := by
  unfold cntR
  rw [List.filter_append, List.length_append]
  congr 1
  cases h : hasR ⟨p.1.toArray⟩ ⟨p.2.toArray⟩ k <;> simp [h]
theorem cntR_le (k : ByteArray) (d : List LR) : cntR k d ≤ d.length := List.length_filter_le _ _

set_option maxRecDepth 100000 in
set_option maxHeartbeats 4000000 in
theorem coverKeys_walk (p : Option Addr) (n cap : Nat) (zs : List ByteArray) (k : ByteArray) (turn : Int) (w : World) (hzn : zs.length = n) (hnc : n ≤ cap) (hn63 : n ≤ 63)
    (hcell : ∀ i z, zs[i]? = some z → ∃ a, p = some a ∧ w.cell? (a.add i) = some (.string z)) (hzs : ∀ z ∈ zs, z.size ≤ 9223372036854775807) (hk : k.size ≤ 100) (ht1 : 0 ≤ turn) (ht2 : turn ≤ 255) (hsh : w.ShapedOpen Tryd.prog) :
    Calls Tryd.prog 5 #[.slice p n cap, .string k, .int .u8 turn] w fun e w' => e = .returned (.bool true) ∧ Below w.heap.size w w' := by
  obtain ⟨i0, hi, hz0, hz1, hz2⟩ := info_parts infoR
  have HS := Lib.hid hsh
  have HZN := Lib.hid hzn
  have HC := Lib.hid hcell
  have HZS := Lib.hid hzs
  have hn63' : ((n : Nat) : Int) ≤ 63 := by omega
  have hks : ((k.size : Nat) : Int) ≤ 100 := by omega
  clear hsh hzn hcell hzs
  go_enter Tryd.func5, Tryd.ntmps5
  go_wp2_with fail
  go_loopw [7, 8, 9] (fun lv av iv wr => Below w.heap.size w wr ∧ ∃ (j : Nat) (es : List (List UInt8)), j ≤ n ∧ iv = .int .i64 j ∧ av = .string ⟨(lastE [] es).toArray⟩ ∧ wr.ownsRow w.heap.size 23 2 lv es.length (flatR (pfx [] es)) ∧ es.length ≤ j ∧ Hid (Asc [] es ∧ ∀ e ∈ es, isName e = true)) (fun _ _ iv _ => n - (intOf iv).toNat)
  case atStart => exact ⟨Below.refl _ _, 0, [], Nat.zero_le _, rfl, rfl, own_nil _ _ _ _, Nat.le_refl _, Lib.hid ⟨trivial, fun _ h => by cases h⟩⟩
  case round =>
    obtain ⟨bW, j, es, hj, rfl, rfl, hown, hej, hes⟩ := hrel
    by_cases hlt : j < n
    · have hlt' : j < zs.length := by rw [HZN.out]; exact hlt
      obtain ⟨a, rfl, hc0⟩ := HC.out j zs[j] (List.getElem?_eq_getElem hlt')
      have hzz := HZS.out zs[j] (List.getElem_mem hlt')
      have hc := (bW.cell (lt_of_cellR hc0)).trans hc0
      have HCL := Lib.hid (lt_of_cellR hc0)
      have hcw := hc0
      clear hc0
      generalize zs[j] = z at hc hzz hcw
      by_cases hz : z.size ≤ 100
      · have hz' : ((z.size : Nat) : Int) ≤ 100 := by omega
        have hAS : okS ⟨(lastE [] es).toArray⟩ = true := lastE_ok [] es okS_nil' hes.out.2
        have bn := bW.alloc bW.size (.cells #[.string ⟨(lastE [] es).toArray⟩, .string z] 23)
        have on := hown.alloc (.cells #[.string ⟨(lastE [] es).toArray⟩, .string z] 23)
        have rn := Whole.new wr 23 #[.string ⟨(lastE [] es).toArray⟩, .string z]
        generalize hat : (⟨(lastE [] es).toArray⟩ : ByteArray) = AT at *
        have HAT := Lib.hid hat
        have HAS := Lib.hid hAS
        have hcn := (((Below.refl _ wr).alloc (Nat.le_refl _) (.cells #[.string AT, .string z] 23)).cell (lt_of_cellR hc)).trans hc
        have r0 := rn.cell 0
        have r1 := rn.cell 1
        simp only [List.getElem?_toArray, List.getElem?_cons_succ, List.getElem?_cons_zero] at r0 r1
        clear hat hAS hown
        cases he : (z.toList == ([] : List UInt8)) with
        | true =>
          go_wp2_with fail
          exact ⟨⟨bn, j + 1, es, by omega, by go_num, by rw [HAT.out], on, by omega, hes⟩, by simp [intOf]; omega⟩
        | false =>
          have CK := fun W => check_any AT z W (by have := okS_sz HAS.out; omega) hzz
          cases hok : okR AT z with
          | false =>
            rw [hok] at CK
            simp only [ckI] at CK
            go_wp2_with fail
            refine (CK _).mono ?_
            rintro e w2 ⟨rfl, hb⟩
            have on2 := own_belowR on hb
            have b2 := bn.trans (hb.mono bn.size)
            clear hb on bn rn r0 r1
            go_wp2_with fail
            exact ⟨⟨b2, j + 1, es, by omega, by go_num, by rw [HAT.out], on2, by omega, hes⟩, by simp [intOf]; omega⟩
          | true =>
            obtain ⟨e, hze⟩ := ba_list z
            have HZE := Lib.hid hze
            have HE := Lib.hid (next_end (a := lastE [] es) (e := e) (by rw [HAT.out, hze]; exact hok) (fun h => by rw [← hze, h, ByteArray.toList_mk] at he; cases he))
            clear hze
            rw [hok] at CK
            simp only [ckI] at CK
            go_wp2_with fail
            refine (CK _).mono ?_
            rintro e' w2 ⟨rfl, hb⟩
            have on2 := own_belowR on hb
            have b2 := bn.trans (hb.mono bn.size)
            have r0 := (rn.below hb rn.lt).cell 0
            have r1 := (rn.below hb rn.lt).cell 1
            simp only [List.getElem?_toArray, List.getElem?_cons_succ, List.getElem?_cons_zero] at r0 r1
            have hc2 := (hb.cell (lt_of_cellR hcn)).trans hcn
            have hb2s := b2.size
            have hgo := on2.lt
            clear hb on bn rn hcn
            go_wp2_with (at_builtin; refine wpList_append_own _ rfl _ _ 29 rfl w.heap.size 23 i0 (.agg #[.string ⟨#[]⟩, .string ⟨#[]⟩]) 2 32 Tryd.underlying29 hi hz0 hz1 hz2 rfl (by decide) _ _ _ rfl (on2.alloc _) ⟨w2.heap.size, 0, none⟩ 1 1 [.string AT, .string z] rfl rfl (news_new (by simp)) cells_two (by unfold maxLen; omega) (by omega) (by simp <;> omega) ?_; intro v5 w5 hown5 hgrow5 hnil5; have b5 := (b2.alloc b2.size _).grown hgrow5 (by simp <;> omega) (fun jj hjj => (on2.lt jj hjj).1); have hc5 := (b5.cell (HCL.out)).trans hcw)
            have hfl : flatR (pfx [] (es ++ [e])) = flatR (pfx [] es) ++ [.string AT, .string z] := by
              rw [pfx_snoc, flatR_snoc, ← HAT.out, ← HZE.out]
            exact ⟨⟨b5, j + 1, es ++ [e], by omega, by go_num, by rw [lastE_snoc, HZE.out], by rw [hfl, List.length_append]; exact hown5, by rw [List.length_append, List.length_singleton]; omega, Lib.hid ⟨asc_snoc hes.out.1 HE.out.2, fun x hx => by
              rcases List.mem_append.1 hx with hx | hx
              · exact hes.out.2 x hx
              · rw [List.mem_singleton] at hx; rw [hx]; exact HE.out.1⟩⟩, by simp [intOf]; omega⟩
      · have hz' : ¬ ((z.size : Nat) : Int) ≤ 100 := by omega
        go_wp2_with (go_at_call 12; refine (works_any _ (shaped_below HS.out bW)).mono ?_; rintro e w2 ⟨rfl, hb2⟩; have bF := bW.trans (hb2.mono bW.size))
        go_ret
        exact ⟨rfl, bF⟩
    · obtain rfl : j = n := by omega
      have HAT := Lib.hid (rfl : (⟨(lastE [] es).toArray⟩ : ByteArray) = ⟨(lastE [] es).toArray⟩)
      have hbs := bW.size
      generalize hat : (⟨(lastE [] es).toArray⟩ : ByteArray) = AT at *
      replace HAT := Lib.hid hat
      clear hat
      go_wp2_with (at_builtin; refine wpList_append_own _ rfl _ _ 29 rfl w.heap.size 23 i0 (.agg #[.string ⟨#[]⟩, .string ⟨#[]⟩]) 2 32 Tryd.underlying29 hi hz0 hz1 hz2 rfl (by decide) _ _ _ rfl (hown.alloc _) ⟨wr.heap.size, 0, none⟩ 1 1 [.string AT, .string ⟨#[]⟩] rfl rfl (news_new (by simp)) cells_two (by unfold maxLen; omega) (by omega) (by simp <;> omega) ?_; intro v5 w5 hown5 hgrow5 hnil5; have b5 := (bW.alloc bW.size _).grown hgrow5 (by simp <;> omega) (fun jj hjj => (hown.lt jj hjj).1); obtain ⟨g5, cp5, rfl, hcp⟩ := own_some hown5; have hq0 := rem_q (turn := turn) (m := es.length) ht1; obtain ⟨q, hq1, hq2, hq3⟩ := hq0; have hq4 : (0 : Int) ≤ q := (by omega); have hq5 : (q : Int) ≤ (es.length : Int) + 1 := (by omega); have hq6 : (q : Int) ≤ (cp5 : Int) := (by omega); have hq7 : ¬ cp5 = q := (by omega))
      have hD : flatR (pfx [] es) ++ [.string AT, .string ⟨#[]⟩] = flatR (chainL [] es) := by rw [chain_pfx, flatR_snoc, HAT.out]
      rw [hD] at hown5
      have hDl := chain_len [] es
      have hallok := chain_ok hes.out.1 okS_nil' hes.out.2
      have hsrt := chain_srt hes.out.1
      have hcov := chain_cover hes.out.1
      have hera := fun (x : LR) hx => chain_erase (q := x) hes.out.1 hx
      have hcnt : cntR k (chainL [] es) = if (isName k.data.toList && !Op.bytesLess k.toList []) = true then 1 else 0 := chain_count (a := []) (es := es) k hes.out.1 okS_nil' hes.out.2
      generalize chainL [] es = D at *
      have hM64 : es.length + 1 ≤ 64 := by omega
      generalize es.length = m0 at *
      -- the rows that the two appends make
      have cD := cells_own hown5 hDl
      have bW0 : Below w5.heap.size w5 (w5.alloc (.cells #[] 23)).drew := ((Below.refl _ _).alloc (Nat.le_refl _) _).drew
      have own0 : ((w5.alloc (.cells #[] 23)).drew).ownsRow w5.heap.size 23 2 (.slice (some ⟨w5.heap.size, 0, none⟩) 0 0) 0 [] := World.ownsRow_lit w5 #[] 0 (Nat.le_refl _) (by unfold maxLen; omega) rfl
      obtain ⟨v6, w6, r6, own6, gr6⟩ := run_append_rng _ _ _ _ _ own0 ⟨g5, q * 2, none⟩ (m0 + 1 - q) (cp5 - q) (D.drop q) (by rw [List.length_drop, hDl]) (flat_at ((cD.keep bW0).drop q)) (by omega) (by simp)
      have b6 : Below w5.heap.size w5 w6 := bW0.grown gr6 bW0.size (fun k hk => (own0.lt k hk).1)
      obtain ⟨v7, w7, r7, own7, gr7⟩ := run_append_rng _ _ _ _ _ own6 ⟨g5, 0, none⟩ q cp5 (D.take q) (by rw [List.length_take, hDl]; omega) (flat_at ((cD.keep b6).take q)) (by omega) b6.size
      have b7 : Below w5.heap.size w5 w7 := b6.grown gr7 b6.size (fun k hk => (own6.lt k hk).1)
      have hfE : [] ++ flatR (D.drop q) ++ flatR (D.take q) = flatR (D.drop q ++ D.take q) := by unfold flatR; rw [List.nil_append, List.flatMap_append]
      rw [hfE, show 0 + (m0 + 1 - q) + q = m0 + 1 by omega] at own7
      have hEp : (D.drop q ++ D.take q).Perm D := List.perm_append_comm.trans (by rw [List.take_append_drop])
      generalize D.drop q ++ D.take q = E at *
      obtain ⟨g7, cp7, rfl, hcp7⟩ := own_some own7
      have hEl : E.length = m0 + 1 := by rw [hEp.length_eq, hDl]
      have cE := cells_own own7 hEl
      have hokE : ∀ p ∈ E, okR ⟨p.1.toArray⟩ ⟨p.2.toArray⟩ = true := fun p hp => hallok p (hEp.subset hp)
      obtain ⟨x, F, rfl⟩ : ∃ x F, E = x :: F := by
        cases E with
        | nil => simp at hEl
        | cons x F => exact ⟨x, F, rfl⟩
      have hFl : F.length = m0 := by simpa using hEl
      have hxD : x ∈ D := hEp.subset (List.mem_cons_self ..)
      have hFp : (D.erase x).Perm F := by
        have h := hEp.symm.erase x
        rwa [List.erase_cons_head] at h
      have hFsum : (decide (((m0 : Nat) : Int) > 0) && coverB [] (D.erase x)) = false := by
        have h := hera x hxD
        rw [hFp.length_eq, hFl] at h
        rw [← h]
        congr 1
        simp
      have hokF : ∀ p ∈ F, okR ⟨p.1.toArray⟩ ⟨p.2.toArray⟩ = true := fun p hp => hokE p (List.mem_cons_of_mem _ hp)
      have hpos : decide ((((m0 + 1 : Nat)) : Int) > 0) = true := decide_eq_true (by omega)
      -- the three covers
      have C1 := Lib.hid (fun (W : World) (hb : Below w7.heap.size w7 W) => cover_all sort_all g5 0 (m0 + 1) cp5 D D W hDl hM64 ((cD.keep b7).keep hb) (all_okP hallok) (fit_of hallok) hsrt (List.Perm.refl _))
      have C2 := Lib.hid (fun (W : World) (hb : Below w7.heap.size w7 W) => cover_all sort_all g7 0 (m0 + 1) cp7 (x :: F) D W hEl hM64 (cE.keep hb) (all_okP hokE) (fit_of hokE) hsrt hEp.symm)
      have c3 : ∀ W, Below w7.heap.size w7 W → CellsR W g7 (if cp7 = 1 then 0 else 2) (F.map toBA) := fun W hb => by
        by_cases e : cp7 = 1
        · have : F = [] := List.eq_nil_of_length_eq_zero (by omega)
          subst this
          exact fun i p hi => by simp at hi
        · rw [if_neg e]
          have h := (cE.keep hb).drop 1
          simpa using h
      have C3 := Lib.hid (fun (W : World) (hb : Below w7.heap.size w7 W) => cover_all sort_all g7 (if cp7 = 1 then 0 else 2) m0 (cp7 - 1) F (D.erase x) W hFl (by omega) (c3 W hb) (all_okP hokF) (fit_of hokF) (srt_erase x hsrt) hFp)
      rw [hpos, hcov] at C1 C2
      rw [hFsum] at C3
      have l1 := cut_from g5 q (m0 + 1) cp5 (by omega)
      rw [if_neg hq7] at l1
      have l2 := cut_to g5 q (m0 + 1) cp5 (by omega)
      have l3 := cut_from g7 1 (m0 + 1) cp7 (by omega)
      rw [Nat.one_mul, Nat.add_sub_cancel, show ((1 : Nat) : Int) = 1 from rfl] at l3
      generalize (if cp7 = 1 then 0 else 2) = o7 at l3 C3
      have R6 := Lib.hid r6
      have R7 := Lib.hid r7
      have B5 := Lib.hid b5
      have B7 := Lib.hid b7
      have HCD := Lib.hid cD
      have HCNT := Lib.hid hcnt
      have HDL := Lib.hid hDl
      have HOK := Lib.hid hallok
      have S0 := Lib.hid ((Below.refl w5.heap.size w5).drew)
      have S1 := Lib.hid bW0
      have S6 := Lib.hid b6
      have hq8 : (q : Int) < (m0 : Int) + 1 := by omega
      clear hD hDl hallok hsrt hcov hera hcnt cD bW0 own0 own6 gr6 b6 own7 gr7 b7 hfE hEp hEl cE hokE hFl hxD hFp hFsum hokF hpos c3 r6 r7 hes hown5 hgrow5 hnil5 hown HC HZS HZN b5 hq3
      go_region_held3 (fun w' => Below w5.heap.size w5 w')
        (first | exact S0.out | exact S1.out | exact S6.out | exact B7.out | assumption)
        (first
          | (refine step_append_run (by rfl) (.tmp 78) (.tmp 81) 29 (by rfl) (by rfl) (by rfl) R6.out ?_)
          | (refine step_append_run (by rfl) (.tmp 82) (.tmp 85) 29 (by rfl) (by rfl) (by rfl) R7.out ?_))
      go_wp2_with fail
      refine (C1.out _ (Below.refl _ _)).mono ?_
      rintro e w8 ⟨rfl, hb8⟩
      have B8 := Lib.hid hb8
      clear hb8 C1 l1 l2
      go_wp2_with fail
      refine (C2.out _ B8.out).mono ?_
      rintro e w9 ⟨rfl, hb9⟩
      have B9 := Lib.hid (B8.out.trans (hb9.mono B8.out.size))
      clear hb9 C2 B8
      go_wp2_with fail
      refine (C3.out _ B9.out).mono ?_
      rintro e w10 ⟨rfl, hb10⟩
      have B10 := Lib.hid (B9.out.trans (hb10.mono B9.out.size))
      clear hb10 C3 B9 l3
      have B11 := Lib.hid (B7.out.trans (B10.out.mono B7.out.size))
      clear B10 B7 S0 S1 S6 R6 R7
      go_wp2_with fail
      go_loopw [19, 20] (fun nv iv wr => ∃ kk c : Nat, kk ≤ m0 + 1 ∧ iv = .int .i64 kk ∧ nv = .int .i64 c ∧ c ≤ kk ∧ Hid (c = cntR k (D.take kk)) ∧ Hid (Below w5.heap.size w5 wr)) (fun _ iv _ => m0 + 1 - (intOf iv).toNat)
      case atStart => exact ⟨0, 0, Nat.zero_le _, rfl, rfl, Nat.le_refl _, Lib.hid rfl, B11⟩
      case round =>
        clear B11
        obtain ⟨kk, c, hkk, rfl, rfl, hck, HC, BW⟩ := hrel
        by_cases hlt2 : kk < m0 + 1
        · have hlt3 : kk < D.length := by rw [HDL.out]; exact hlt2
          obtain ⟨x0, x1⟩ := (HCD.out.keep BW.out) kk (toBA D[kk]) (by rw [List.getElem?_map, List.getElem?_eq_getElem hlt3]; rfl)
          have hfitp := fit_of HOK.out (toBA D[kk]) (List.mem_map.2 ⟨_, List.getElem_mem hlt3, rfl⟩)
          have hsn := cntR_snoc k (D.take kk) D[kk]
          rw [← List.take_succ_eq_append_getElem hlt3, ← HC.out] at hsn
          generalize D[kk] = p at x0 x1 hfitp hsn
          obtain ⟨f, t⟩ := p
          simp only [Nat.zero_add, toBA] at x0 x1 hfitp
          dsimp only at hsn
          generalize hfb : (⟨f.toArray⟩ : ByteArray) = FB at x0 hfitp hsn
          generalize htb : (⟨t.toArray⟩ : ByteArray) = TB at x1 hfitp hsn
          have H := Lib.hid (fun W => has_any FB TB k W hfitp.1 hfitp.2 (by omega))
          clear hfb htb hfitp
          have HSN := Lib.hid hsn
          have i0' : (0 : Int) ≤ (kk : Int) := by omega
          have i1' : (kk : Int) < (m0 : Int) + 1 := by omega
          cases hh : hasR FB TB k with
          | false =>
            rw [hh] at H HSN
            clear hh hsn
            go_wp2_with fail
            refine (H.out _).mono ?_
            rintro e w12 ⟨rfl, hb12⟩
            have BW2 := Lib.hid (BW.out.trans (hb12.mono BW.out.size))
            go_wp2_with fail
            go_roundw
            case rel => exact ⟨kk + 1, c, by omega, by go_num, rfl, by omega, Lib.hid (by rw [HSN.out]; rfl), BW2⟩
            case measure => simp [intOf]; omega
          | true =>
            rw [hh] at H HSN
            clear hh hsn
            go_wp2_with fail
            refine (H.out _).mono ?_
            rintro e w12 ⟨rfl, hb12⟩
            have BW2 := Lib.hid (BW.out.trans (hb12.mono BW.out.size))
            go_wp2_with fail
            go_roundw
            case rel => exact ⟨kk + 1, c + 1, by omega, by go_num, by go_num, by omega, Lib.hid (by rw [HSN.out]; rfl), BW2⟩
            case measure => simp [intOf]; omega
        · obtain rfl : kk = m0 + 1 := by omega
          have hc1 := HC.out
          rw [List.take_of_length_le (by rw [HDL.out]; exact Nat.le_refl _), HCNT.out] at hc1
          have hN : hasR ⟨#[]⟩ ⟨#[]⟩ k = (isName k.data.toList && !Op.bytesLess k.toList []) := hasR_last (a := []) (okR_chain okS_nil' okS_nil' (Or.inl rfl))
          have H := fun W => has_any ⟨#[]⟩ ⟨#[]⟩ k W (by decide) (by decide) (by omega)
          rw [hN] at H
          have HH := Lib.hid H
          generalize (isName k.data.toList && !Op.bytesLess k.toList []) = nb at hc1 HH
          have BWW := Lib.hid (B5.out.trans (BW.out.mono B5.out.size))
          clear HC HCNT HDL hN H BW B5 HCD
          cases nb
          · obtain rfl : c = 0 := by simpa using hc1
            clear hc1
            rw [show ((m0 + 1 : Nat) : Int) = (m0 : Int) + 1 from rfl, show ((0 : Nat) : Int) = 0 from rfl]
            go_wp2_with fail
            refine (HH.out _).mono ?_
            rintro e w12 ⟨rfl, hb12⟩
            have B12 := Lib.hid (BWW.out.trans (hb12.mono BWW.out.size))
            go_wp2_with fail
            refine (works_any _ (shaped_below HS.out B12.out)).mono ?_
            rintro e w13 ⟨rfl, hb13⟩
            go_wp2
            go_ret
            exact ⟨rfl, B12.out.trans (hb13.mono B12.out.size)⟩
          · obtain rfl : c = 1 := by simpa using hc1
            clear hc1
            rw [show ((m0 + 1 : Nat) : Int) = (m0 : Int) + 1 from rfl, show ((1 : Nat) : Int) = 1 from rfl]
            go_wp2_with fail
            refine (HH.out _).mono ?_
            rintro e w12 ⟨rfl, hb12⟩
            have B12 := Lib.hid (BWW.out.trans (hb12.mono BWW.out.size))
            go_wp2_with fail
            refine (works_any _ (shaped_below HS.out B12.out)).mono ?_
            rintro e w13 ⟨rfl, hb13⟩
            go_wp2
            go_ret
            exact ⟨rfl, B12.out.trans (hb13.mono B12.out.size)⟩

set_option maxRecDepth 100000 in
set_option maxHeartbeats 1000000 in
theorem coverKeys_any (p : Option Addr) (n cap : Nat) (zs : List ByteArray) (k : ByteArray) (turn : Int) (w : World) (hzn : zs.length = n) (hnc : n ≤ cap)
    (hcell : ∀ i z, zs[i]? = some z → ∃ a, p = some a ∧ w.cell? (a.add i) = some (.string z)) (hzs : ∀ z ∈ zs, z.size ≤ 9223372036854775807) (ht1 : 0 ≤ turn) (ht2 : turn ≤ 255) (hsh : w.ShapedOpen Tryd.prog) :
    Calls Tryd.prog 5 #[.slice p n cap, .string k, .int .u8 turn] w fun e w' => e = .returned (.bool true) ∧ Below w.heap.size w w' := by
  by_cases h63 : n ≤ 63
  · by_cases hk : k.size ≤ 100
    · exact coverKeys_walk p n cap zs k turn w hzn hnc h63 hcell hzs hk ht1 ht2 hsh
    · have h1 : ((n : Nat) : Int) ≤ 63 := by omega
      have h2 : ¬ ((k.size : Nat) : Int) ≤ 100 := by omega
      have HS := Lib.hid hsh
      clear hcell hzs hsh hzn
      go_enter Tryd.func5, Tryd.ntmps5
      go_wp2_with (go_at_call 12; refine (works_any _ HS.out).mono ?_; rintro e w2 ⟨rfl, hb2⟩)
      go_ret
      exact ⟨rfl, hb2⟩
  · have h1 : ¬ ((n : Nat) : Int) ≤ 63 := by omega
    have HS := Lib.hid hsh
    clear hcell hzs hsh hzn
    go_enter Tryd.func5, Tryd.ntmps5
    go_wp2_with (go_at_call 12; refine (works_any _ HS.out).mono ?_; rintro e w2 ⟨rfl, hb2⟩)
    go_ret
    exact ⟨rfl, hb2⟩
end Go.Proofs.YthngliafkhalfaaDoor
