/- Group and Epoch of a key; Of; copies of maps. Condition: the map is small, texts are no longer than an int can say. -/
import Derived.Test.YtkkkppbcjmeapaaDoorPtApp
namespace Go.Proofs.YtkkkppbcjmeapaaDoor
open Go.RowKit

/-- Sizes of texts. -/
def SmallP (d : List Pt) : Prop := d.length ≤ 900 ∧ ∀ p ∈ d, p.f.size ≤ 9223372036854775807 ∧ p.t.size ≤ 9223372036854775807
theorem SmallP.at {d : List Pt} (h : SmallP d) {k : Nat} {p : Pt} (hp : d[k]? = some p) : p.f.size ≤ 9223372036854775807 ∧ p.t.size ≤ 9223372036854775807 := h.2 p (List.mem_of_getElem? hp)

theorem b_set4 {B b : Nat} {a w : World} (h : Below B a w) (hB : B ≤ b) (o0 o1 o2 o3 : Nat) (x y z u : Value) : Below B a ((((w.setCell ⟨b, o0, none⟩ x).setCell ⟨b, o1, none⟩ y).setCell ⟨b, o2, none⟩ z).setCell ⟨b, o3, none⟩ u) :=
  (((h.setCell (p := ⟨b, o0, none⟩) hB _).setCell (p := ⟨b, o1, none⟩) hB _).setCell (p := ⟨b, o2, none⟩) hB _).setCell (p := ⟨b, o3, none⟩) hB _
set_option maxHeartbeats 1000000 in
theorem find1_any (p : Pt) (K : Nat) (key : ByteArray) (w : World) (hf : p.f.size ≤ 9223372036854775807) (ht : p.t.size ≤ 9223372036854775807) (hk : key.size ≤ 9223372036854775807) (hK : w.cell? ⟨K, 0, none⟩ = some (.string key)) :
    Calls Tryd.prog 74 #[ptV p, .pointer (some ⟨K, 0, none⟩)] w fun e w' => e = .returned (.bool (hasR p.f p.t key)) ∧ Below w.heap.size w w' := by
  have b1 := (Below.refl w.heap.size w).alloc (Nat.le_refl _) (.cells #[.string p.f, .string p.t, .int .i64 p.g, .int .i64 p.e] 89)
  have hK2 := (b1.cell (lt_of_cellR hK)).trans hK
  have C := Lib.hid (fun W => has_any p.f p.t key W hf ht hk)
  unfold ptV
  generalize hasR p.f p.t key = q at C ⊢
  obtain ⟨f, t, g, e⟩ := p
  dsimp only at *
  go_enter Tryd.func74, Tryd.ntmps74
  go_wp2_with fail
  refine (C.out _).mono ?_
  rintro e1 w1 ⟨rfl, hb⟩
  go_wp2_with fail
  go_ret
  exact ⟨rfl, b1.trans (hb.mono b1.size)⟩

/-- The index of the first part that has a key. -/
def pIdx (d : List Pt) (key : ByteArray) : Option Nat := d.findIdx? (fun p => hasR p.f p.t key)
theorem pIdx_hit {d : List Pt} {key : ByteArray} {k : Nat} {p : Pt} (h0 : ∀ (i : Nat) (q : Pt), i < k → d[i]? = some q → hasR q.f q.t key = false) (hp : d[k]? = some p) (h : hasR p.f p.t key = true) : pIdx d key = some k := by
  unfold pIdx
  obtain ⟨hlt, he⟩ := List.getElem?_eq_some_iff.1 hp
  rw [List.findIdx?_eq_some_iff_getElem]
  refine ⟨hlt, by rw [he]; exact h, fun j hj => ?_⟩
  rw [h0 j _ hj (List.getElem?_eq_getElem (by omega))]
  simp
theorem pIdx_none {d : List Pt} {key : ByteArray} (h0 : ∀ (i : Nat) (q : Pt), d[i]? = some q → hasR q.f q.t key = false) : pIdx d key = none := by
  unfold pIdx
  rw [List.findIdx?_eq_none_iff]
  intro x hx
  obtain ⟨i, hi⟩ := List.getElem?_of_mem hx
  exact h0 i x hi
def idxV (o : Option Nat) : Int := match o with | some i => i | none => -1

set_option maxRecDepth 100000 in
set_option maxHeartbeats 4000000 in
theorem indexFunc_any (g o cap K : Nat) (d : List Pt) (key : ByteArray) (w : World) (hs : SmallP d) (hk : key.size ≤ 9223372036854775807) (hc : CellsP w g o d) (hK : w.cell? ⟨K, 0, none⟩ = some (.string key)) :
    Calls Tryd.prog 73 #[.slice (some ⟨g, o, none⟩) d.length cap, .func (.func 74) #[] #[.pointer (some ⟨K, 0, none⟩)]] w fun e w' => e = .returned (.int .i64 (idxV (pIdx d key))) ∧ Below w.heap.size w w' := by
  have HC := Lib.hid hc
  have HKK := Lib.hid hK
  have HS := Lib.hid hs
  have hd := hs.1
  have F := Lib.hid (fun p W hf ht hK => find1_any p K key W hf ht hk hK)
  unfold ptV at F
  clear hc hK hs
  generalize hn : d.length = n at hd ⊢
  have HN := Lib.hid hn
  clear hn
  go_enter Tryd.func73, Tryd.ntmps73
  go_wp2_with fail
  go_loopw [8] (fun i wr => Below w.heap.size w wr ∧ ∃ k : Nat, k ≤ n ∧ i = .int .i64 k ∧ Hid (∀ (i : Nat) (q : Pt), i < k → d[i]? = some q → hasR q.f q.t key = false)) (fun i _ => n - (intOf i).toNat)
  case atStart => exact ⟨Below.refl _ _, 0, Nat.zero_le _, rfl, Lib.hid (fun i q h => absurd h (Nat.not_lt_zero _))⟩
  case round =>
    obtain ⟨b2, k, hk', rfl, H0⟩ := hrel
    by_cases hlt : k < n
    · have hg : d[k]? = some (d[k]'(by rw [HN.out]; exact hlt)) := List.getElem?_eq_getElem _
      generalize d[k]'(by rw [HN.out]; exact hlt) = p at hg
      obtain ⟨c0, c1, c2, c3⟩ := HC.out k _ hg
      obtain ⟨z1, z2⟩ := HS.out.at hg
      have HG := Lib.hid hg
      have d0 := (b2.cell (lt_of_cellR c0)).trans c0
      have d1 := (b2.cell (lt_of_cellR c1)).trans c1
      have d2 := (b2.cell (lt_of_cellR c2)).trans c2
      have d3 := (b2.cell (lt_of_cellR c3)).trans c3
      have dK := (b2.cell (lt_of_cellR HKK.out)).trans HKK.out
      have F1 := Lib.hid (F.out p _ z1 z2 dK)
      have B2 := Lib.hid b2
      clear c0 c1 c2 c3 hg HC z1 z2 dK F b2
      cases hq : hasR p.f p.t key with
      | true =>
        have F2 := F1
        rw [hq] at F2
        have HI := Lib.hid (pIdx_hit H0.out HG.out hq)
        clear hq F1
        go_wp2_with fail
        refine F2.out.mono ?_
        rintro e1 w1 ⟨rfl, hb⟩
        go_wp2_with fail
        go_ret
        exact ⟨by rw [HI.out]; rfl, B2.out.trans (hb.mono B2.out.size)⟩
      | false =>
        have F2 := F1
        rw [hq] at F2
        have HI := Lib.hid hq
        clear hq F1
        go_wp2_with fail
        refine F2.out.mono ?_
        rintro e1 w1 ⟨rfl, hb⟩
        go_wp2_with fail
        go_roundw
        case rel =>
          refine ⟨B2.out.trans (hb.mono B2.out.size), k + 1, by omega, by go_num, Lib.hid fun i q hi hq => ?_⟩
          rcases Nat.lt_succ_iff_lt_or_eq.1 hi with h | h
          · exact H0.out i q h hq
          · subst h
            have := HG.out.symm.trans hq
            cases this
            exact HI.out
        case measure => simp [intOf]; omega
    · obtain rfl : k = n := by omega
      have HI : Hid (pIdx d key = none) := Lib.hid (pIdx_none (fun i q hq => H0.out i q (by rw [← HN.out]; exact (List.getElem?_eq_some_iff.1 hq).1) hq))
      clear H0
      go_wp2_with fail
      go_ret
      exact ⟨by rw [HI.out]; rfl, b2⟩

/-- What find answers: the part that has the key, and the error. -/
def findV (d : List Pt) (key : ByteArray) : Pt × Int :=
  if d = [] then (⟨⟨#[]⟩, ⟨#[]⟩, 0, 0⟩, 1) else if isName key.data.toList then ((d.find? (fun p => hasR p.f p.t key)).getD ⟨⟨#[]⟩, ⟨#[]⟩, 0, 0⟩, 0) else (⟨⟨#[]⟩, ⟨#[]⟩, 0, 0⟩, 2)
theorem pIdx_find {d : List Pt} {key : ByteArray} {p : Pt} (h : d.find? (fun p => hasR p.f p.t key) = some p) : ∃ k, pIdx d key = some k ∧ d[k]? = some p ∧ k < d.length := by
  rw [List.find?_eq_some_iff_getElem] at h
  obtain ⟨h1, i, hi, he, hj⟩ := h
  exact ⟨i, pIdx_hit (fun j q hjl hq => by
    obtain ⟨hl, rfl⟩ := List.getElem?_eq_some_iff.1 hq
    have := hj j hjl
    simpa using this) (by rw [List.getElem?_eq_getElem hi, he]) h1, by rw [List.getElem?_eq_getElem hi, he], hi⟩

set_option maxHeartbeats 1000000 in
theorem find_nil (key : ByteArray) (w : World) :
    Calls Tryd.prog 49 #[.pointer none, .string key] w fun e w' => e = .returned (.tuple #[ptV ⟨⟨#[]⟩, ⟨#[]⟩, 0, 0⟩, .int .i64 1]) ∧ Below w.heap.size w w' := by
  unfold ptV
  have b1 := ((Below.refl w.heap.size w).alloc (Nat.le_refl _) (.cells #[.string key] 9)).alloc (by simp) (.cells #[.string ⟨#[]⟩, .string ⟨#[]⟩, .int .i64 0, .int .i64 0] 89)
  have R := Whole.new (w.alloc (.cells #[.string key] 9)) 89 #[.string ⟨#[]⟩, .string ⟨#[]⟩, .int .i64 0, .int .i64 0]
  simp only [World.size_alloc] at R
  have r0 := R.cell 0
  have r1 := R.cell 1
  have r2 := R.cell 2
  have r3 := R.cell 3
  have s0 := R.fr 0
  have s1 := R.fr 1
  have s2 := R.fr 2
  have s3 := R.fr 3
  simp only [List.getElem?_toArray, List.getElem?_cons_succ, List.getElem?_cons_zero] at r0 r1 r2 r3
  clear R
  go_enter Tryd.func49, Tryd.ntmps49
  go_wp2_with (go_at_call 45; refine (made_nil _).mono ?_; rintro e w1 ⟨rfl, rfl⟩)
  refine bodyPost_ret (v := .tuple #[.agg #[.string ⟨#[]⟩, .string ⟨#[]⟩, .int .i64 0, .int .i64 0], .int .i64 1]) (by simp [results, Tryd.results49, go_sem, r0, r1, r2, r3]) rfl ⟨rfl, ?_⟩
  first | exact b1 | go_grown
set_option maxRecDepth 100000 in
set_option maxHeartbeats 4000000 in
theorem find_any (B : Nat) (d : List Pt) (key : ByteArray) (w : World) (h : MapAt w B d) (hs : SmallP d) (hk : key.size ≤ 9223372036854775807) (hall : d ≠ [] → isName key.data.toList = true → ∃ p, d.find? (fun p => hasR p.f p.t key) = some p) :
    Calls Tryd.prog 49 #[.pointer (some ⟨B, 0, none⟩), .string key] w fun e w' => e = .returned (.tuple #[ptV (findV d key).1, .int .i64 (findV d key).2]) ∧ Below w.heap.size w w' := by
  have b1 := ((Below.refl w.heap.size w).alloc (Nat.le_refl _) (.cells #[.string key] 9)).alloc (by simp) (.cells #[.string ⟨#[]⟩, .string ⟨#[]⟩, .int .i64 0, .int .i64 0] 89)
  have hK := (Whole.new w 9 #[.string key]).alloc (.cells #[.string ⟨#[]⟩, .string ⟨#[]⟩, .int .i64 0, .int .i64 0] 89)
  have cK := hK.cell 0
  simp only [List.getElem?_toArray, List.getElem?_cons_zero] at cK
  have h' := h.keep b1
  have M := Lib.hid (made_any B d _ h')
  have N := Lib.hid (fun W => name_any key W hk)
  unfold findV
  by_cases h0 : d = []
  · subst h0
    rw [if_pos rfl]
    unfold ptV
    simp only [List.length_nil, Nat.lt_irrefl, decide_false] at M
    have B1 := Lib.hid b1
    have R := Whole.new (w.alloc (.cells #[.string key] 9)) 89 #[.string ⟨#[]⟩, .string ⟨#[]⟩, .int .i64 0, .int .i64 0]
    simp only [World.size_alloc] at R
    have r0 := R.cell 0
    have r1 := R.cell 1
    have r2 := R.cell 2
    have r3 := R.cell 3
    have s0 := R.fr 0
    have s1 := R.fr 1
    have s2 := R.fr 2
    have s3 := R.fr 3
    simp only [List.getElem?_toArray, List.getElem?_cons_succ, List.getElem?_cons_zero] at r0 r1 r2 r3
    clear R
    clear h h' hall N hK cK b1
    go_enter Tryd.func49, Tryd.ntmps49
    go_wp2_with (go_at_call 45; refine M.out.mono ?_; rintro e w1 ⟨rfl, rfl⟩)
    refine bodyPost_ret (v := .tuple #[.agg #[.string ⟨#[]⟩, .string ⟨#[]⟩, .int .i64 0, .int .i64 0], .int .i64 1]) (by simp [results, Tryd.results49, go_sem, r0, r1, r2, r3]) rfl ⟨rfl, ?_⟩
    first | exact B1.out | go_grown
  · have hpos : 0 < d.length := by cases d with | nil => exact absurd rfl h0 | cons p ps => simp
    rw [decide_eq_true hpos] at M
    rw [if_neg h0]
    cases hN : isName key.data.toList with
    | false =>
      rw [hN] at N
      simp only [Bool.false_eq_true, if_false]
      unfold ptV
      clear h h' hall hK
      go_enter Tryd.func49, Tryd.ntmps49
      go_wp2_with (go_at_call 45; refine M.out.mono ?_; rintro e w1 ⟨rfl, rfl⟩)
      refine (N.out _).mono ?_
      rintro e w1 ⟨rfl, hb⟩
      have BZ := Lib.hid (b1.trans (hb.mono b1.size))
      have R := ((Whole.new (w.alloc (.cells #[.string key] 9)) 89 #[.string ⟨#[]⟩, .string ⟨#[]⟩, .int .i64 0, .int .i64 0]).below hb (by simp))
      simp only [World.size_alloc] at R
      have r0 := R.cell 0
      have r1 := R.cell 1
      have r2 := R.cell 2
      have r3 := R.cell 3
      have s0 := R.fr 0
      have s1 := R.fr 1
      have s2 := R.fr 2
      have s3 := R.fr 3
      simp only [List.getElem?_toArray, List.getElem?_cons_succ, List.getElem?_cons_zero] at r0 r1 r2 r3
      clear R hb b1
      go_wp2_with fail
      refine bodyPost_ret (v := .tuple #[.agg #[.string ⟨#[]⟩, .string ⟨#[]⟩, .int .i64 0, .int .i64 0], .int .i64 2]) (by simp [results, Tryd.results49, go_sem, r0, r1, r2, r3]) rfl ⟨rfl, ?_⟩
      exact b_set4 BZ.out (by omega) _ _ _ _ _ _ _ _
    | true =>
      rw [hN] at N
      obtain ⟨p, hp⟩ := hall h0 hN
      simp only [hp, Option.getD_some, if_true]
      obtain ⟨k, hk1, hk2, hk3⟩ := pIdx_find hp
      obtain ⟨v, h1, h2⟩ := h
      rcases h2 with ⟨h3, _⟩ | ⟨g, o, cap, rfl, hc, _⟩
      · exact absurd h3 h0
      have I := Lib.hid (fun W hc hK => indexFunc_any g o cap (w.heap.size) d key W hs hk hc hK)
      rw [hk1] at I
      have HC := Lib.hid hc
      have HB := Lib.hid h1
      have CK := Lib.hid cK
      obtain ⟨c0, c1, c2, c3⟩ := hc k p hk2
      have hkl : (k : Int) < (d.length : Int) := by omega
      have hdl : d.length ≤ 900 := hs.1
      have H0 := Lib.hid c0
      have H1 := Lib.hid c1
      have H2 := Lib.hid c2
      have H3 := Lib.hid c3
      have B1 := Lib.hid b1
      have cm := (b1.cell h1.lt).trans h1.cell
      unfold idxV at I
      clear h' hall hK cK hp h0 hpos hk1 hk2 hc h1 hN hs c0 c1 c2 c3
      unfold ptV
      obtain ⟨pf, pt, pg, pe⟩ := p
      dsimp only at H0 H1 H2 H3 I ⊢
      generalize d.length = n at *
      go_enter Tryd.func49, Tryd.ntmps49
      go_wp2_with (go_at_call 45; refine M.out.mono ?_; rintro e w1 ⟨rfl, rfl⟩)
      refine (N.out _).mono ?_
      rintro e w1 ⟨rfl, hb⟩
      have B2 := Lib.hid (B1.out.trans (hb.mono B1.out.size))
      have cm2 := (hb.cell (lt_of_cellR cm)).trans cm
      have CK2 := Lib.hid ((hb.cell (lt_of_cellR CK.out)).trans CK.out)
      have RR := Lib.hid (((Whole.new (w.alloc (.cells #[.string key] 9)) 89 #[.string ⟨#[]⟩, .string ⟨#[]⟩, .int .i64 0, .int .i64 0]).below hb (by simp)))
      clear b1 cm hb CK N M
      go_wp2_with fail
      refine (I.out _ (HC.out.grown (below_grown B2.out) (by simp)) CK2.out).mono ?_
      rintro e w2 ⟨rfl, hb2⟩
      have B3 := Lib.hid (B2.out.trans (hb2.mono B2.out.size))
      have cm3 := (hb2.cell (lt_of_cellR cm2)).trans cm2
      have d0 := (B3.out.cell (lt_of_cellR H0.out)).trans H0.out
      have d1 := (B3.out.cell (lt_of_cellR H1.out)).trans H1.out
      have d2 := (B3.out.cell (lt_of_cellR H2.out)).trans H2.out
      have d3 := (B3.out.cell (lt_of_cellR H3.out)).trans H3.out
      have R2 := RR.out.below hb2 RR.out.lt
      simp only [World.size_alloc] at R2
      have r0 := R2.cell 0
      have r1 := R2.cell 1
      have r2 := R2.cell 2
      have r3 := R2.cell 3
      have s0 := R2.fr 0
      have s1 := R2.fr 1
      have s2 := R2.fr 2
      have s3 := R2.fr 3
      simp only [List.getElem?_toArray, List.getElem?_cons_succ, List.getElem?_cons_zero] at r0 r1 r2 r3
      clear I HC CK2 cm2 H0 H1 H2 H3 B2 RR hb2 R2
      go_wp2_with fail
      refine bodyPost_ret (v := .tuple #[.agg #[.string pf, .string pt, .int .i64 pg, .int .i64 pe], .int .i64 0]) (by simp [results, Tryd.results49, go_sem, r0, r1, r2, r3]) rfl ⟨rfl, ?_⟩
      exact b_set4 B3.out (by omega) _ _ _ _ _ _ _ _
end Go.Proofs.YtkkkppbcjmeapaaDoor
