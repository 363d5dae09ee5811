/- What the reference's ParseEffect returns: the same as the program's; memory that lay stays. Condition: the text is no longer than 1,000,000 bytes. -/
import Derived.Test.YtmbnhbocablgeaaDoorRefNumb
import Derived.Test.YtmbnhbocablgeaaDoorRefText
import Derived.Test.YtmbnhbocablgeaaDoorParseE
namespace Go.Proofs.YtmbnhbocablgeaaDoor
open Go.RowKit

theorem stop4_eq {s : ByteArray} {b j : Nat} {pre ds rest : List UInt8} {x : UInt8} (hs : s.data.toList = pre ++ (ds ++ x :: rest)) (hb : pre.length = b) (hd : ds.all isDig = true) (hl : ds.length ≤ 4) (hx : isDig x = false) (h : Stop4 s b j) :
    j = ds.length ∧ (s.data.toList.drop b).take j = ds := by
  have hsz : s.size = pre.length + (ds.length + (rest.length + 1)) := by rw [Lib.size_eq, hs]; simp
  have hj : j = ds.length := by
    rcases Nat.lt_trichotomy j ds.length with hlt | he | hgt
    · have h1 : b + j < s.size := by omega
      have h2 := h.stop (by omega) h1
      have h3 : some (s[b + j]'h1) = some (ds[j]) := by
        rw [← getI h1, hs, List.getElem?_append_right (by omega), List.getElem?_append_left (by omega), ← hb, Nat.add_sub_cancel_left, List.getElem?_eq_getElem hlt]
      rw [Option.some.inj h3] at h2
      exact absurd (List.all_eq_true.1 hd _ (List.getElem_mem hlt)) h2
    · exact he
    · have h1 : b + ds.length < s.size := by omega
      have h2 := h.dig ds.length hgt h1
      have h3 : some (s[b + ds.length]'h1) = some x := by
        rw [← getI h1, hs, List.getElem?_append_right (by omega), List.getElem?_append_right (by omega), ← hb, Nat.add_sub_cancel_left, Nat.sub_self]
        rfl
      rw [Option.some.inj h3, hx] at h2
      cases h2
  refine ⟨hj, ?_⟩
  rw [hs, ← hb, List.drop_left, hj, List.take_left]
theorem nv_eq {s : ByteArray} {b j : Nat} {pre rest : List UInt8} {x : UInt8} {n : Int} (h0 : 0 ≤ n) (h9 : n ≤ 9999) (hs : s.data.toList = pre ++ (dgs n ++ x :: rest)) (hb : pre.length = b) (hx : isDig x = false) (h : Stop4 s b j) :
    j = (dgs n).length ∧ nv s b j = n := by
  obtain ⟨k1, k2, k3⟩ := numOk_dgs h0 h9
  unfold numOk at k1
  simp only [Bool.and_eq_true, decide_eq_true_eq, Bool.not_eq_true'] at k1
  obtain ⟨l1, l2, l3⟩ := k1
  obtain ⟨e1, e2⟩ := stop4_eq hs hb k2 l2 hx h
  refine ⟨e1, ?_⟩
  rw [nv_yes (by omega), e2, k3]
  rintro ⟨h1, h2⟩
  have hh : s.data.toList[b]? = (dgs n).head? := by
    rw [hs, List.getElem?_append_right (by omega), ← hb, Nat.sub_self, List.getElem?_append_left (by omega), List.head?_eq_getElem?]
  rw [hh] at h2
  rw [decide_eq_true (show 1 < (dgs n).length by omega), decide_eq_true h2] at l3
  cases l3
/-- What the reference's numbers are, in the text of an effect. -/
theorem ref_whole {s : ByteArray} {j1 j2 : Nat} (h1 : Stop4 s 0 j1) (h2 : Stop4 s (j1 + 1) j2) : ∀ x, pEff s.data.toList = some x → nv s 0 j1 = x.a ∧ nv s (j1 + 1) j2 = x.b ∧ ((j1 + 1 + j2 : Nat) : Int) + 2 = s.size ∧ 1 ≤ x.c ∧ x.c ≤ 3 ∧ 1 ≤ x.a ∧ 0 ≤ x.b := by
  intro x hx
  obtain ⟨⟨a1, a2, b1, b2, c1, c2⟩, ht⟩ := pEff_some hx
  have hs1 : s.data.toList = [] ++ (dgs x.a ++ 47 :: (dgs x.b ++ ([47] ++ [phL x.c]))) := by rw [← ht]; simp [effText]
  obtain ⟨e1, e2⟩ := nv_eq (by omega) a2 hs1 rfl (by decide) h1
  have hs2 : s.data.toList = (dgs x.a ++ [47]) ++ (dgs x.b ++ 47 :: [phL x.c]) := by rw [← ht]; simp [effText]
  obtain ⟨e3, e4⟩ := nv_eq (by omega) (by omega) hs2 (by simp; omega) (by decide) h2
  have hsz : s.size = (dgs x.a).length + 1 + (dgs x.b).length + 2 := by rw [Lib.size_eq, ← ht]; simp [effText]; omega
  exact ⟨e2, e4, by omega, c1, c2, a1, b1⟩

theorem list_str' {s : ByteArray} {l : List UInt8} (h : l = s.data.toList) : (⟨l.toArray⟩ : ByteArray) = s := by subst h; rfl

theorem bytes_ne {t s : ByteArray} (h : ¬ t = s) : (t.toList == s.toList) = false := by
  rw [beq_eq_false_iff_ne]
  intro e
  rw [Lib.toList_data, Lib.toList_data] at e
  exact h (by cases t; cases s; congr 1; exact Array.toList_inj.1 e)

set_option maxHeartbeats 4000000 in
theorem refParseEffect_any (s : ByteArray) (w : World) (hs : s.size ≤ 1000000) :
    Calls Tryd.prog 17 #[.string s] w (EffOut (pEffR s.data.toList) w) := by
  generalize hq : pEffR s.data.toList = q
  have HQ := Lib.hid hq
  clear hq
  have h0 := Lib.hid (fun W => refNumb_any s 0 W hs (by omega))
  have h1 := Lib.hid (fun (j : Nat) (hj : j ≤ 4) W => refNumb_any s (j + 1) W hs (by omega))
  have b0 : Below w.heap.size w (w.alloc (.cells #[.int .i64 0, .int .i64 0, .int .i64 0] 23)) := by go_grown
  have B0 := Whole.new w 23 #[.int .i64 0, .int .i64 0, .int .i64 0]
  go_enter Tryd.func17, Tryd.ntmps17
  go_wp2_with fail
  refine (h0.out _).mono ?_
  rintro e w1 ⟨⟨j1, rfl, hS1⟩, rfl⟩
  have l1 := hS1.le
  have h2 := Lib.hid (h1.out j1 l1)
  simp only [Int.natCast_add, Int.cast_ofNat_Int] at h2
  clear h0 h1
  go_wp2_with fail
  refine (h2.out _).mono ?_
  rintro e w2 ⟨⟨j2, rfl, hS2⟩, rfl⟩
  have l2 := hS2.le
  have hR := Lib.hid (ref_whole hS1 hS2)
  clear h2 hS1 hS2
  generalize nv s 0 j1 = n1 at hR ⊢
  generalize nv s (j1 + 1) j2 = n2 at hR ⊢
  have c0 := B0.cell 0
  have c1 := B0.cell 1
  have c2 := B0.cell 2
  have f0 := B0.fr 0
  have f1 := B0.fr 1
  have f2 := B0.fr 2
  simp only [List.getElem?_toArray, List.getElem?_cons_succ, List.getElem?_cons_zero] at c0 c1 c2
  by_cases hA : n1 < 0 ∨ (0 ≤ n1 ∧ n2 < 0) ∨ (0 ≤ n1 ∧ 0 ≤ n2 ∧ ¬ ((j1 : Int) + 1 + j2 + 2 = s.size))
  · obtain rfl : q = (⟨0, 0, 0⟩, 10) := by
      rw [← HQ.out]
      cases hp : pEff s.data.toList with
      | none => exact pEffR_none hp
      | some x => have := hR.out x hp; omega
    clear HQ hR
    have hA' : n1 < 0 ∨ (0 ≤ n1 ∧ n2 < 0) ∨ (0 ≤ n1 ∧ 0 ≤ n2 ∧ ((j1 : Int) + 1 + j2 + 2 != (s.size : Int)) = true) := by
      rcases hA with hA | hA | ⟨hA1, hA2, hA⟩
      · exact .inl hA
      · exact .inr (.inl hA)
      · exact .inr (.inr ⟨hA1, hA2, by simpa using hA⟩)
    clear hA
    rcases hA' with hA | ⟨hA1, hA⟩ | ⟨hA1, hA2, hA⟩
    all_goals
      go_wp2
      refine bodyPost_ret (v := .tuple #[.agg #[.int .i64 0, .int .i64 0, .int .i64 0], .int .i64 10]) (by simp [results, Tryd.results17, go_sem]) rfl ⟨rfl, ?_⟩
      go_grown
  · have hn1 : 0 ≤ n1 := by omega
    have hn2 : 0 ≤ n2 := by omega
    have hend : (j1 : Int) + 1 + j2 + 2 = s.size := by omega
    clear hA
    have hp0 : Hid (∀ x, pEff s.data.toList = some x → ∃ c : Int, x = ⟨n1, n2, c⟩ ∧ 1 ≤ c ∧ c ≤ 3) := Lib.hid (fun x hx => by
      obtain ⟨g1, g2, _, g3, g4, _, _⟩ := hR.out x hx
      exact ⟨x.c, by rw [g1, g2], g3, g4⟩)
    clear hR c0 c1 c2 f0 f1 f2
    go_wp2
    go_loopw [8] (fun v wr => ∃ p : Int, 1 ≤ p ∧ p ≤ 4 ∧ v = .int .i64 p ∧ Whole wr w.heap.size 23 #[.int .i64 0, .int .i64 0, .int .i64 0] ∧ Below w.heap.size w wr ∧ Hid (∀ c : Int, 1 ≤ c → c < p → pEff s.data.toList ≠ some ⟨n1, n2, c⟩)) (fun v _ => (4 - intOf v).toNat)
    case atStart => exact ⟨1, by omega, by omega, rfl, B0, b0, Lib.hid (fun c h1 h2 => by omega)⟩
    case round =>
      obtain ⟨p, hp1, hp4, rfl, BW, bW, hT⟩ := hrel
      have hsz := BW.lt
      by_cases hp3 : p ≤ 3
      · have e1 := Whole.new wr 23 #[.int .i64 n1, .int .i64 n2, .int .i64 p]
        have BW1 := BW.alloc (.cells #[.int .i64 n1, .int .i64 n2, .int .i64 p] 23)
        have bW1 := bW.alloc bW.size (.cells #[.int .i64 n1, .int .i64 n2, .int .i64 p] 23)
        by_cases hv : effOk n1 n2 p
        · have hE := Lib.hid (fun W => refEffect_yes n1 n2 p W hv)
          by_cases ht : effText n1 n2 p = s.data.toList
          · rw [list_str' ht] at hE
            obtain rfl : q = (⟨n1, n2, p⟩, 0) := by rw [← HQ.out]; exact pEffR_some (by rw [← ht]; exact pEff_text hv)
            clear ht hv HQ hT
            go_wp2_with fail
            refine (hE.out _).mono ?_
            rintro e w3 ⟨rfl, hb3⟩
            have e2 := e1.below hb3 e1.lt
            have B2 := BW1.below hb3 BW1.lt
            have b3 := bW1.trans (hb3.mono bW1.size)
            have x0 := e2.cell 0
            have x1 := e2.cell 1
            have x2 := e2.cell 2
            have y0 := B2.cell 0
            have y1 := B2.cell 1
            have y2 := B2.cell 2
            have f0 := B2.fr 0
            have f1 := B2.fr 1
            have f2 := B2.fr 2
            simp only [List.getElem?_toArray, List.getElem?_cons_succ, List.getElem?_cons_zero] at x0 x1 x2 y0 y1 y2
            clear e1 e2 B2 BW BW1 bW1 hb3
            go_wp2
            refine bodyPost_ret (v := .tuple #[.agg #[.int .i64 n1, .int .i64 n2, .int .i64 p], .int .i64 0]) (by simp [results, Tryd.results17, go_sem, y0, y1, y2]) rfl ⟨rfl, ?_⟩
            exact ((b3.setCell (Nat.le_refl _) _).setCell (Nat.le_refl _) _).setCell (Nat.le_refl _) _
          · have hT2 : Hid (∀ c : Int, 1 ≤ c → c < p + 1 → pEff s.data.toList ≠ some ⟨n1, n2, c⟩) := Lib.hid (fun c h1 h2 h3 => by
              by_cases e : c = p
              · subst e
                exact ht (pEff_some h3).2
              · exact hT.out c h1 (by omega) h3)
            have hne : ¬ (⟨(effText n1 n2 p).toArray⟩ : ByteArray) = s := fun h => ht (by rw [← h])
            generalize (⟨(effText n1 n2 p).toArray⟩ : ByteArray) = t at hE hne
            have hne2 := bytes_ne hne
            clear ht hv hT
            go_wp2_with fail
            refine (hE.out _).mono ?_
            rintro e w3 ⟨rfl, hb3⟩
            have B2 := BW1.below hb3 BW1.lt
            have b3 := bW1.trans (hb3.mono bW1.size)
            clear e1 BW BW1 bW1 hb3 hE
            go_wp2
            go_roundw
            case rel => exact ⟨p + 1, by omega, by omega, rfl, B2, b3, hT2⟩
            case measure => simp [intOf]; omega
        · have hE := Lib.hid (fun W => refEffect_no n1 n2 p W hv)
          have hT2 : Hid (∀ c : Int, 1 ≤ c → c < p + 1 → pEff s.data.toList ≠ some ⟨n1, n2, c⟩) := Lib.hid (fun c h1 h2 h3 => by
            by_cases e : c = p
            · subst e
              exact hv (pEff_some h3).1
            · exact hT.out c h1 (by omega) h3)
          clear hv hT
          go_wp2_with fail
          refine (hE.out _).mono ?_
          rintro e w3 ⟨rfl, hb3⟩
          have B2 := BW1.below hb3 BW1.lt
          have b3 := bW1.trans (hb3.mono bW1.size)
          clear e1 BW BW1 bW1 hb3 hE
          go_wp2
          go_roundw
          case rel => exact ⟨p + 1, by omega, by omega, rfl, B2, b3, hT2⟩
          case measure => simp [intOf]; omega
      · obtain rfl : q = (⟨0, 0, 0⟩, 10) := by
          rw [← HQ.out]
          cases hx : pEff s.data.toList with
          | none => exact pEffR_none hx
          | some x =>
            obtain ⟨c, rfl, g1, g2⟩ := hp0.out x hx
            exact absurd hx (hT.out c g1 (by omega))
        clear HQ hp0 hT
        have y0 := BW.cell 0
        have y1 := BW.cell 1
        have y2 := BW.cell 2
        have f0 := BW.fr 0
        have f1 := BW.fr 1
        have f2 := BW.fr 2
        simp only [List.getElem?_toArray, List.getElem?_cons_succ, List.getElem?_cons_zero] at y0 y1 y2
        go_wp2
        refine bodyPost_ret (v := .tuple #[.agg #[.int .i64 0, .int .i64 0, .int .i64 0], .int .i64 10]) (by simp [results, Tryd.results17, go_sem, y0, y1, y2]) rfl ⟨rfl, ?_⟩
        exact ((bW.setCell (Nat.le_refl _) _).setCell (Nat.le_refl _) _).setCell (Nat.le_refl _) _
end Go.Proofs.YtmbnhbocablgeaaDoor
