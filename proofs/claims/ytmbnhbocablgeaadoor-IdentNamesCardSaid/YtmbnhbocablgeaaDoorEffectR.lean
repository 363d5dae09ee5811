/- What the reader's number and effect do, at every text. Conditions: as the reader's words. -/
import Derived.Test.YtmbnhbocablgeaaDoorNumber3
namespace Go.Proofs.YtmbnhbocablgeaaDoor
open Go.RowKit

theorem number_any (g : Nat) (l : List UInt8) (k : Bool) (w : World) (hs : l.length ≤ 1000000) (h : Rd w g l k) :
    Calls Tryd.prog 45 #[.pointer (some ⟨g, 0, none⟩)] w fun e w' => e = .returned (.int .i64 (rNumV l)) ∧ Rd w' g (rNum (l, k)).1 (rNum (l, k)).2 ∧ Only g w w' := by
  obtain ⟨s, rfl⟩ : ∃ s : ByteArray, l = s.data.toList := ⟨⟨l.toArray⟩, rfl⟩
  have hA := ahead_of s
  have hs' : s.size ≤ 1000000 := by rw [Lib.size_eq]; exact hs
  have e1 : (rNum (s.data.toList, k)).1 = s.data.toList.drop (lead s.data.toList).length := rfl
  have e2 : (rNum (s.data.toList, k)).2 = (k && numOk (lead s.data.toList)) := rfl
  rw [e1, e2]
  by_cases hn : numOk (lead s.data.toList) = true
  · have hat := atoi_lead s hn
    have hn' := hn
    rw [hn, Bool.and_true]
    unfold numOk at hn'
    simp only [Bool.and_eq_true, decide_eq_true_eq, Bool.not_eq_true', Bool.and_eq_false_iff, decide_eq_false_iff_not] at hn'
    obtain ⟨h1, h2, h3⟩ := hn'
    have h0 : 0 < s.size := by have := hA.le; omega
    refine number_ok g s k (lead s.data.toList).length w hs' hA (rNumV s.data.toList) h1 h2 h0 ?_ hat h
    rcases h3 with h3 | h3
    · left; omega
    · right
      intro hc
      apply h3
      have hd : (lead s.data.toList).head? = s.data.toList.head? := by
        conv => rhs; rw [← lead_drop s.data.toList]
        rw [List.head?_append]
        cases hx : lead s.data.toList with
        | nil => rw [hx] at h1; simp at h1
        | cons a b => simp
      rw [hd, List.head?_eq_getElem?, List.getElem?_eq_getElem (by rw [← Lib.size_eq]; exact h0)]
      rw [getElem_list] at hc
      congr 1
      exact UInt8.toNat_inj.1 (show (s.data.toList[0]'(by rw [← Lib.size_eq]; exact h0)).toNat = 48 by omega)
  · have hv : rNumV s.data.toList = 0 := by unfold rNumV; rw [if_neg hn]
    have hn : numOk (lead s.data.toList) = false := by simpa using hn
    rw [hn, hv, Bool.and_false]
    by_cases hK : (lead s.data.toList).length = 0 ∨ 4 < (lead s.data.toList).length
    · exact number_bad g s k _ w hs' hA hK h
    · unfold numOk at hn
      have h1 : 1 ≤ (lead s.data.toList).length := by omega
      have h2 : (lead s.data.toList).length ≤ 4 := by omega
      simp only [h1, h2, decide_true, Bool.true_and, Bool.not_eq_false', Bool.and_eq_true, decide_eq_true_eq] at hn
      obtain ⟨h3, h4⟩ := hn
      have h0 : 0 < s.size := by have := hA.le; omega
      refine number_zero g s k _ w hs' hA h3 h2 h0 ?_ h
      have hd : s.data.toList.head? = some 48 := by
        conv => lhs; rw [← lead_drop s.data.toList]
        rw [List.head?_append, h4]; rfl
      rw [List.head?_eq_getElem?, List.getElem?_eq_getElem (by rw [← Lib.size_eq]; exact h0)] at hd
      rw [getElem_list, Option.some.inj hd]
      rfl

/-- A block that is known whole, not frozen. -/
def Whole (w : World) (b : Nat) (t : TypeId) (cs : Array Value) : Prop := w.heap[b]? = some (.cells cs t (0, 0))
section
variable {w w' : World} {b : Nat} {t : TypeId} {cs : Array Value}
theorem Whole.cell (h : Whole w b t cs) (i : Nat) : w.cell? ⟨b, i, none⟩ = cs[i]? := cell_of_row w b i cs t (0, 0) h
theorem Whole.fr (h : Whole w b t cs) (i : Nat) : w.frozen? ⟨b, i, none⟩ = false := by unfold Whole at h; simp [World.frozen?, h]
theorem Whole.lt (h : Whole w b t cs) : b < w.heap.size := by
  rcases Nat.lt_or_ge b w.heap.size with hlt | hge
  · exact hlt
  · unfold Whole at h; rw [Array.getElem?_eq_none hge] at h; cases h
theorem Whole.new (w : World) (t : TypeId) (cs : Array Value) : Whole (w.alloc (.cells cs t)) w.heap.size t cs := heap_alloc_new w _
theorem Whole.only {g : Nat} (h : Whole w b t cs) (ho : Only g w w') (hne : b ≠ g) : Whole w' b t cs := (ho.block b h.lt (by simpa using hne)).trans h
theorem Whole.below {B : Nat} (h : Whole w b t cs) (hb : Below B w w') (hB : b < B) : Whole w' b t cs := (hb.block b hB).trans h
theorem Whole.alloc (h : Whole w b t cs) (o : Obj) : Whole (w.alloc o) b t cs := (Below.heap_alloc w o b h.lt).trans h
theorem Whole.put (h : Whole w b t cs) (i : Nat) (v : Value) : Whole (w.setCell ⟨b, i, none⟩ v) b t (cs.setIfInBounds i v) := by
  unfold Whole at h ⊢
  simp [World.setCell, Array.getElem?_modify, h]
theorem Whole.far {p : Addr} (h : Whole w b t cs) (hne : b ≠ p.block) (v : Value) : Whole (w.setCell p v) b t cs := (Below.heap_setCell w p v b hne).trans h
end
theorem Rd.alloc {w : World} {g : Nat} {l : List UInt8} {k : Bool} (h : Rd w g l k) (o : Obj) : Rd (w.alloc o) g l k := (Below.heap_alloc w o g h.lt).trans h
theorem Rd.far {w : World} {g : Nat} {l : List UInt8} {k : Bool} (h : Rd w g l k) {p : Addr} (hne : g ≠ p.block) (v : Value) : Rd (w.setCell p v) g l k := (Below.heap_setCell w p v g hne).trans h
theorem Only.alloc (g : Nat) (w : World) (o : Obj) : Only g w (w.alloc o) := Only.of_below ((Below.refl _ _).alloc (Nat.le_refl _) o)
theorem Only.new {g : Nat} {a w : World} (h : Only g a w) {p : Addr} (hp : a.heap.size ≤ p.block) (v : Value) : Only g a (w.setCell p v) :=
  ⟨h.os, h.tape, h.output, by simpa using h.size, fun j hj hne => (Below.heap_setCell w p v j (by omega)).trans (h.block j hj hne)⟩

theorem rNeed_len (p : List UInt8) (r : RS) : (rNeed p r).1.length ≤ r.1.length := by
  unfold rNeed Lib.trimPrefix
  dsimp only
  split
  · rw [List.length_drop]; omega
  · exact Nat.le_refl _
theorem rNum_len (r : RS) : (rNum r).1.length ≤ r.1.length := by
  unfold rNum
  rw [List.length_drop]; omega

theorem idx_bd (x : UInt8) : -1 ≤ Lib.indexByte [102, 117, 114] x ∧ Lib.indexByte [102, 117, 114] x ≤ 2 := by
  have key := u8_all (fun x => decide (-1 ≤ Lib.indexByte [102, 117, 114] x) && decide (Lib.indexByte [102, 117, 114] x ≤ 2)) (by decide +kernel) x
  simpa using key

set_option maxHeartbeats 2000000 in
theorem effectR_any (g : Nat) (l : List UInt8) (k : Bool) (w : World) (hs : l.length ≤ 1000000) (h : Rd w g l k) :
    Calls Tryd.prog 41 #[.pointer (some ⟨g, 0, none⟩)] w fun e w' => e = .returned (.agg #[.int .i64 (rEffV (l, k)).a, .int .i64 (rEffV (l, k)).b, .int .i64 (rEffV (l, k)).c]) ∧ Rd w' g (rEffS (l, k)).1 (rEffS (l, k)).2 ∧ Only g w w' := by
  have hg := h.lt
  have hV : rEffV (l, k) = ⟨rNumV l, rNumV (rNeed [47] (rNum (l, k))).1, match (rNeed [47] (rNum (rNeed [47] (rNum (l, k))))).1 with | [] => 0 | c :: _ => phI c⟩ := rfl
  have hS : rEffS (l, k) = match (rNeed [47] (rNum (rNeed [47] (rNum (l, k))))).1 with | [] => ([], false) | _ :: t => (t, (rNeed [47] (rNum (rNeed [47] (rNum (l, k))))).2) := rfl
  rw [hV, hS]
  have q1 := rNum_len (l, k)
  have q2 := rNeed_len [47] (rNum (l, k))
  dsimp only at q1
  have N1 := Lib.hid (fun W hW => number_any g l k W hs hW)
  have Q1 := Lib.hid (fun W hW => need_any g (rNum (l, k)).1 (rNum (l, k)).2 ⟨#[47]⟩ W hW)
  have N2 := Lib.hid (fun W hW => number_any g (rNeed [47] (rNum (l, k))).1 (rNeed [47] (rNum (l, k))).2 W (by omega) hW)
  have Q2 := Lib.hid (fun W hW => need_any g (rNum (rNeed [47] (rNum (l, k)))).1 (rNum (rNeed [47] (rNum (l, k)))).2 ⟨#[47]⟩ W hW)
  clear q1 q2 hV hS
  generalize rNumV l = a at N1 ⊢
  generalize rNum (l, k) = r1 at N1 Q1 N2 Q2 ⊢
  change Hid (∀ W hW, Calls _ _ _ W fun e w' => e = _ ∧ Rd w' g (rNeed [47] r1).1 (rNeed [47] r1).2 ∧ _) at Q1
  generalize rNeed [47] r1 = r2 at Q1 N2 Q2 ⊢
  generalize rNumV r2.1 = b at N2 ⊢
  change Hid (∀ W hW, Calls _ _ _ W fun e w' => e = _ ∧ Rd w' g (rNum r2).1 (rNum r2).2 ∧ _) at N2
  generalize rNum r2 = r3 at N2 Q2 ⊢
  change Hid (∀ W hW, Calls _ _ _ W fun e w' => e = _ ∧ Rd w' g (rNeed [47] r3).1 (rNeed [47] r3).2 ∧ _) at Q2
  generalize rNeed [47] r3 = r4 at Q2 ⊢
  obtain ⟨l4, k4⟩ := r4
  have R0 : Rd (w.alloc (.cells #[.int .i64 0, .int .i64 0, .int .i64 0] 23)) g l k := h.alloc _
  have B0 := Whole.new w 23 #[.int .i64 0, .int .i64 0, .int .i64 0]
  have O0 := Only.alloc g w (.cells #[.int .i64 0, .int .i64 0, .int .i64 0] 23)
  have n0 : w.heap.size ≠ g := by omega
  have HR0 := Lib.hid R0
  clear h R0
  go_enter Tryd.func41, Tryd.ntmps41
  go_wp2_with fail
  refine (N1.out _ HR0.out).mono ?_
  rintro e w1 ⟨rfl, hR1, hO1⟩
  have B1 := B0.only hO1 n0
  have s1 := B1.lt
  have O1 := O0.trans hO1
  have g1 := hR1.lt
  have HR1 := Lib.hid (hR1.alloc (.cells #[.int .i64 a, .int .i64 0, .int .i64 0] 23))
  clear hR1 hO1 B0 O0 HR0
  go_wp2_with fail
  have E1 := Whole.new w1 23 #[.int .i64 a, .int .i64 0, .int .i64 0]
  have B1' := B1.alloc (.cells #[.int .i64 a, .int .i64 0, .int .i64 0] 23)
  have O1' := O1.trans (Only.alloc g w1 (.cells #[.int .i64 a, .int .i64 0, .int .i64 0] 23))
  refine (Q1.out _ HR1.out).mono ?_
  rintro e w2 ⟨rfl, hR2, hO2⟩
  have n1 : w1.heap.size ≠ g := by omega
  have B2 := B1'.only hO2 n0
  have E2 := E1.only hO2 n1
  have O2 := O1'.trans hO2
  have g2 := hR2.lt
  have HR2 := Lib.hid hR2
  clear hR2 hO2 B1 B1' E1 O1 O1' HR1
  go_wp2_with fail
  refine (N2.out _ HR2.out).mono ?_
  rintro e w3 ⟨rfl, hR3, hO3⟩
  have B3 := B2.only hO3 n0
  have E3 := E2.only hO3 n1
  have O3 := O2.trans hO3
  have c31 := E3.cell 1
  have f31 := E3.fr 1
  simp only [List.getElem?_toArray, List.getElem?_cons_succ, List.getElem?_cons_zero] at c31
  have HR3 := Lib.hid (hR3.far (p := ⟨w1.heap.size, 1, none⟩) (Ne.symm n1) (.int .i64 b))
  have HE3 := Lib.hid (E3.put 1 (.int .i64 b))
  have HB3 := Lib.hid (B3.far (p := ⟨w1.heap.size, 1, none⟩) (show w.heap.size ≠ w1.heap.size by omega) (.int .i64 b))
  have HO3 := Lib.hid (O3.new (p := ⟨w1.heap.size, 1, none⟩) (Nat.le_of_lt s1) (.int .i64 b))
  clear hR3 hO3 B2 E2 O2 HR2 B3 E3 O3
  go_wp2_with fail
  refine (Q2.out _ HR3.out).mono ?_
  rintro e w4 ⟨rfl, hR4, hO4⟩
  have B4 := HB3.out.only hO4 n0
  have E4 := HE3.out.only hO4 n1
  have O4 := HO3.out.trans hO4
  have c0 := hR4.c0
  have c1 := hR4.c1
  have f0 := hR4.fr 0
  have f1 := hR4.fr 1
  have e0 := E4.cell 0
  have e1 := E4.cell 1
  have e2 := E4.cell 2
  have fe2 := E4.fr 2
  have b0 := B4.cell 0
  have b1 := B4.cell 1
  have b2 := B4.cell 2
  have fb0 := B4.fr 0
  have fb1 := B4.fr 1
  have fb2 := B4.fr 2
  simp at e0 e1 e2 b0 b1 b2
  have HR4 := Lib.hid hR4
  have HO4 := Lib.hid O4
  clear hR4 hO4 HB3 HE3 HO3 B4 E4 O4 HR3 c31 f31 N1 N2 Q1 Q2
  have ng : g ≠ w.heap.size := Ne.symm n0
  cases l4 with
  | nil =>
    go_wp2_with fail
    refine bodyPost_ret (v := .agg #[.int .i64 a, .int .i64 b, .int .i64 0]) (by simp [results, Tryd.results41, go_sem, b0, b1, b2]) rfl ⟨rfl, ?_, ?_⟩
    · exact ((((HR4.out.set1 false).far ng _).far ng _).far ng _)
    · exact ((((HO4.out.trans (Only.set _)).new (Nat.le_refl _) _).new (Nat.le_refl _) _).new (Nat.le_refl _) _)
  | cons x t =>
    have hz : 0 < (⟨(x :: t).toArray⟩ : ByteArray).size := by rw [Lib.size_mk]; simp
    have hx : (⟨(x :: t).toArray⟩ : ByteArray)[0]'hz = x := rfl
    have hd : (⟨(x :: t).toArray⟩ : ByteArray).extract 1 (⟨(x :: t).toArray⟩ : ByteArray).size = ⟨t.toArray⟩ := by rw [ext_drop]; rfl
    have HX := Lib.hid hx
    have HD := Lib.hid hd
    have HL := Lib.hid HR4.out
    clear hx hd HR4
    generalize (⟨(x :: t).toArray⟩ : ByteArray) = s at c0 hz HX HD
    have hI : ∀ W : World, Calls Tryd.prog 63 #[.string ⟨#[102, 117, 114]⟩, .int .u8 ((s[0]'hz).toNat : Int)] W fun e w' => e = .returned (.int .i64 (Lib.indexByte [102, 117, 114] (s[0]'hz))) ∧ W = w' := fun W => by
      refine (Tryd.strings_IndexByte ⟨#[102, 117, 114]⟩ ((s[0]'hz).toNat : Int) W).mono ?_
      rintro e w' ⟨rfl, rfl⟩
      refine ⟨?_, rfl⟩
      have : ((s[0]'hz).toNat : Int).toNat.toUInt8 = s[0]'hz := by simp
      rw [this]
    have hq := idx_bd (s[0]'hz)
    have HP : Hid ((1 : Int) + Lib.indexByte [102, 117, 114] (s[0]'hz) = phI x) := by rw [HX.out]; rfl
    obtain ⟨hq1, hq2⟩ := hq
    generalize Lib.indexByte [102, 117, 114] (s[0]'hz) = q at hI hq1 hq2 HP
    have HI := Lib.hid hI
    clear hI HX
    go_wp2_with fail
    refine (HI.out _).mono ?_
    rintro e w5 ⟨rfl, rfl⟩
    have n01 : w.heap.size ≠ w1.heap.size := by omega
    go_wp2_with fail
    refine bodyPost_ret (v := .agg #[.int .i64 a, .int .i64 b, .int .i64 (1 + q)]) (by simp [results, Tryd.results41, go_sem, b0, b1, b2]) rfl ⟨by rw [HP.out], ?_, ?_⟩
    · rw [HD.out]
      exact (((((HL.out.far (p := ⟨w1.heap.size, 2, none⟩) (Ne.symm n1) _).set0 t).far ng _).far ng _).far ng _)
    · exact ((((((HO4.out.new (p := ⟨w1.heap.size, 2, none⟩) (Nat.le_of_lt s1) _).trans (Only.set _)).new (Nat.le_refl _) _).new (Nat.le_refl _) _).new (Nat.le_refl _) _))
end Go.Proofs.YtmbnhbocablgeaaDoor
