/- IdentItemBack returns true; memory that lay stays. Conditions: the table of powers of ten lies as its initialiser lays it; the variables have the shapes of their types. -/
import Derived.Test.YtmbnhbocablgeaaDoorLawBack
import Derived.Test.YtmbnhbocablgeaaDoorPlNum
import Derived.Test.YtmbnhbocablgeaaDoorTextAll
namespace Go.Proofs.YtmbnhbocablgeaaDoor
open Go.RowKit

def inAt : List UInt8 := [47, 105, 110, 64]
def outAt : List UInt8 := [47, 111, 117, 116, 64]
theorem move_all : ((List.range 64).all fun m => (List.range 7).all fun g => [true, false].all fun i =>
    (Lib.contains (itemText 0 0 0 ((m : Int) + 1) i ((g : Int) + 1)) inAt == i) && ((Lib.contains (itemText 0 0 0 ((m : Int) + 1) i ((g : Int) + 1)) outAt == !i) && decide ((itemText 0 0 0 ((m : Int) + 1) i ((g : Int) + 1)).head? = some 109))) = true := by decide +kernel
theorem move_facts {m g : Int} (i : Bool) (m1 : 1 ≤ m) (m2 : m ≤ 64) (g1 : 1 ≤ g) (g2 : g ≤ 7) :
    Lib.contains (itemText 0 0 0 m i g) inAt = i ∧ Lib.contains (itemText 0 0 0 m i g) outAt = !i ∧ (itemText 0 0 0 m i g).head? = some 109 := by
  have h := List.all_eq_true.1 (List.all_eq_true.1 (List.all_eq_true.1 move_all (m - 1).toNat (List.mem_range.2 (by omega))) (g - 1).toNat (List.mem_range.2 (by omega))) i (by cases i <;> simp)
  rw [show (((m - 1).toNat : Nat) : Int) + 1 = m by omega, show (((g - 1).toNat : Nat) : Int) + 1 = g by omega] at h
  simp only [Bool.and_eq_true, beq_iff_eq, decide_eq_true_eq] at h
  exact h
theorem shaped_below {P : Program} {w w' : World} (h : w.ShapedOpen P) (hb : Below w.heap.size w w') : w'.ShapedOpen P := h.keptBut (hb.frame (fun _ => False)) (fun _ h => h.elim)
theorem shaped_drew {P : Program} {w : World} (h : w.ShapedOpen P) : w.drew.ShapedOpen P := shaped_below h (Below.refl _ w).drew

theorem ibk_keep {w wc w2 : World} {n p : Nat} {i : Bool} (hH : wc.cell? ⟨p, 4, none⟩ = some (.bool i) ∧ wc.ShapedOpen Tryd.prog ∧ Below n w wc ∧ p < wc.heap.size ∧ n ≤ wc.heap.size) (hb : Below wc.heap.size wc w2) : w2.cell? ⟨p, 4, none⟩ = some (.bool i) ∧ w2.ShapedOpen Tryd.prog ∧ Below n w w2 ∧ p < w2.heap.size ∧ n ≤ w2.heap.size := by
  obtain ⟨h1, h2, h3, h4, h5⟩ := hH
  exact ⟨(hb.cell h4).trans h1, shaped_below h2 hb, h3.trans (hb.mono h5), Nat.lt_of_lt_of_le h4 hb.size, Nat.le_trans h5 hb.size⟩

theorem ibk_shaped {w wc : World} {n p : Nat} {i : Bool} (hH : wc.cell? ⟨p, 4, none⟩ = some (.bool i) ∧ wc.ShapedOpen Tryd.prog ∧ Below n w wc ∧ p < wc.heap.size ∧ n ≤ wc.heap.size) : wc.ShapedOpen Tryd.prog := hH.2.1
theorem ibk_below {w wc : World} {n p : Nat} {i : Bool} (hH : wc.cell? ⟨p, 4, none⟩ = some (.bool i) ∧ wc.ShapedOpen Tryd.prog ∧ Below n w wc ∧ p < wc.heap.size ∧ n ≤ wc.heap.size) : Below n w wc := hH.2.2.1

set_option maxHeartbeats 4000000 in
theorem itemBack_eff (a b c g : Int) (n : Int) (s : ByteArray) (w : World) (hn1 : 0 ≤ n) (hn2 : n ≤ 4294967295) (hfr : fromR (1 + n % 1680728) = (⟨a, b, c, 0, false, g⟩, 0)) (hv : effOk a b c) (hg1 : 1 ≤ g) (hg2 : g ≤ 7) (hp : Pow w) :
    Calls Tryd.prog 10 #[.int .u32 n, .string s] w fun e w' => e = .returned (.bool true) ∧ Below w.heap.size w w' := by
  have hm1 : 0 ≤ n % 1680728 := by omega
  have hm2 : n % 1680728 < 1680728 := by omega
  have hX := Lib.hid (fun W => fromNumber_any (1 + n % 1680728) W)
  rw [hfr] at hX
  clear hfr
  have hok : itemOk a b c 0 false g := ⟨⟨hg1, hg2⟩, .inl ⟨rfl, rfl, hv⟩⟩
  have hE := Lib.hid (fun W hp => item_eff a b c g W hp hv hg1 hg2)
  have hl : (itemText a b c 0 false g).length ≤ 1000 := by
    have h1 := (effText_shape hv).2.1
    have h2 : (dgs g).length = 1 := by rw [dgs_one (by omega) (by omega)]; rfl
    simp [itemText] <;> omega
  have hB := Lib.hid (fun W => parseItem_any ⟨(itemText a b c 0 false g).toArray⟩ W (by rw [Lib.size_mk]; omega))
  rw [show pItemR (ByteArray.mk (itemText a b c 0 false g).toArray).data.toList = (⟨a, b, c, 0, false, g⟩, 0) from pItemR_some (pItem_text hok)] at hB
  have hU := Lib.hid (fun W hp => effect_yes a b c W hp hv)
  obtain ⟨t1, e1, _, s1⟩ := add_str (effText a b c) ⟨#[64]⟩ (by have := (effText_shape hv).2.1; simp [Lib.size_eq]; omega)
  have hH := Lib.hid (fun W => Tryd.strings_HasPrefix ⟨(itemText a b c 0 false g).toArray⟩ ⟨t1.toArray⟩ W)
  rw [show Lib.hasPrefix (ByteArray.mk (itemText a b c 0 false g).toArray).data.toList (ByteArray.mk t1.toArray).data.toList = true by
    show Lib.hasPrefix (itemText a b c 0 false g) t1 = true
    rw [show itemText a b c 0 false g = t1 ++ dgs g by rw [e1.out]; simp [itemText]]
    exact (trimPrefix_yes t1 (dgs g)).2] at hH
  have hlen : (((⟨(itemText a b c 0 false g).toArray⟩ : ByteArray).size : Int) != ((⟨(effText a b c).toArray⟩ : ByteArray).size : Int) + 2) = false := by
    rw [Lib.size_mk, Lib.size_mk]
    have h2 : (dgs g).length = 1 := by rw [dgs_one (by omega) (by omega)]; rfl
    simp [itemText, h2] <;> omega
  have hsz1 : (⟨(itemText a b c 0 false g).toArray⟩ : ByteArray).size ≤ 1000 := by rw [Lib.size_mk]; exact hl
  have hsz2 : (⟨(effText a b c).toArray⟩ : ByteArray).size ≤ 1000 := by rw [Lib.size_mk]; have := (effText_shape hv).2.1; omega
  generalize (⟨(itemText a b c 0 false g).toArray⟩ : ByteArray) = t at hE hB hH hlen hsz1
  generalize (⟨(effText a b c).toArray⟩ : ByteArray) = u at hU s1 hlen hsz2
  generalize (⟨t1.toArray⟩ : ByteArray) = t2 at s1 hH
  clear e1 hok hv hl
  go_enter Tryd.func10, Tryd.ntmps10
  go_wp2_with fail
  refine (hX.out _).mono ?_
  rintro e w1 ⟨rfl, hb1⟩
  have b1 := hb1.alloc hb1.size (.cells #[.int .i64 a, .int .i64 b, .int .i64 c, .int .i64 0, .bool false, .int .i64 g] 33)
  have B1 := Whole.new w1 33 #[.int .i64 a, .int .i64 b, .int .i64 c, .int .i64 0, .bool false, .int .i64 g]
  have hp1 := hp.below b1
  clear hb1
  go_wp2_with fail
  refine (hE.out _ hp1).mono ?_
  rintro e w2 ⟨rfl, hb2⟩
  have b2 := b1.trans (hb2.mono b1.size)
  have B2 := B1.below hb2 B1.lt
  clear hb2 B1 b1 hp1
  go_wp2_with fail
  refine (hB.out _).mono ?_
  rintro e w3 ⟨rfl, hb3⟩
  have b3 := (b2.trans (hb3.mono b2.size)).alloc (Nat.le_trans b2.size hb3.size) (.cells #[.int .i64 a, .int .i64 b, .int .i64 c, .int .i64 0, .bool false, .int .i64 g] 33)
  have B3 := (B2.below hb3 B2.lt).alloc (.cells #[.int .i64 a, .int .i64 b, .int .i64 c, .int .i64 0, .bool false, .int .i64 g] 33)
  have C3 := Whole.new w3 33 #[.int .i64 a, .int .i64 b, .int .i64 c, .int .i64 0, .bool false, .int .i64 g]
  have x0 := B3.cell 0
  have x1 := B3.cell 1
  have x2 := B3.cell 2
  have x3 := B3.cell 3
  have x4 := B3.cell 4
  have x5 := B3.cell 5
  simp only [List.getElem?_toArray, List.getElem?_cons_succ, List.getElem?_cons_zero] at x0 x1 x2 x3 x4 x5
  have y0 := C3.cell 0
  have y1 := C3.cell 1
  have y2 := C3.cell 2
  have y3 := C3.cell 3
  have y4 := C3.cell 4
  have y5 := C3.cell 5
  simp only [List.getElem?_toArray, List.getElem?_cons_succ, List.getElem?_cons_zero] at y0 y1 y2 y3 y4 y5
  have hp3 := hp.below b3
  clear hb3 b2 B2 B3 C3
  go_wp2_with fail
  refine (hU.out _ hp3).mono ?_
  rintro e w4 ⟨rfl, hb4⟩
  have b4 := b3.trans (hb4.mono b3.size)
  clear hb4 b3 hp3 x0 x1 x2 x3 x4 x5 y0 y1 y2 y3 y4 y5
  go_wp2_with fail
  refine (hH.out _).mono ?_
  rintro e w5 ⟨rfl, rfl⟩
  by_cases h100 : s.size ≤ 100
  · have hP := Lib.hid (fun W => parseItem_any s W (by omega))
    cases hq : pItem s.data.toList with
    | none =>
      rw [pItemR_none hq] at hP
      clear hq
      go_wp2_with fail
      refine (hP.out _).mono ?_
      rintro e w6 ⟨rfl, hb6⟩
      have b6 := (b4.trans (hb6.mono b4.size)).alloc (Nat.le_trans b4.size hb6.size) (.cells #[.int .i64 0, .int .i64 0, .int .i64 0, .int .i64 0, .bool false, .int .i64 0] 33)
      have C6 := Whole.new w6 33 #[.int .i64 0, .int .i64 0, .int .i64 0, .int .i64 0, .bool false, .int .i64 0]
      have y0 := C6.cell 0
      have y1 := C6.cell 1
      have y2 := C6.cell 2
      have y3 := C6.cell 3
      have y4 := C6.cell 4
      have y5 := C6.cell 5
      simp only [List.getElem?_toArray, List.getElem?_cons_succ, List.getElem?_cons_zero] at y0 y1 y2 y3 y4 y5
      have hp6 := hp.below b6
      clear hb6 b4 C6
      go_wp2_with fail
      refine (works_any _ hp6).mono ?_
      rintro e w7 ⟨rfl, hb7⟩
      go_wp2
      go_ret
      exact ⟨rfl, b6.trans (hb7.mono b6.size)⟩
    | some v =>
      rw [pItemR_some hq] at hP
      obtain ⟨hv2, ht2⟩ := pItem_some hq
      obtain ⟨ya, yb, yc, ym, yi, yg⟩ := v
      dsimp only at hv2 ht2
      have hF := Lib.hid (fun W hp => item_all ya yb yc ym yi yg W hp)
      rw [itemW_yes hv2] at hF
      dsimp only at hF
      rw [list_str ht2] at hF
      clear hq hv2 ht2
      go_wp2_with fail
      refine (hP.out _).mono ?_
      rintro e w6 ⟨rfl, hb6⟩
      have b6 := (b4.trans (hb6.mono b4.size)).alloc (Nat.le_trans b4.size hb6.size) (.cells #[.int .i64 ya, .int .i64 yb, .int .i64 yc, .int .i64 ym, .bool yi, .int .i64 yg] 33)
      have C6 := Whole.new w6 33 #[.int .i64 ya, .int .i64 yb, .int .i64 yc, .int .i64 ym, .bool yi, .int .i64 yg]
      have y0 := C6.cell 0
      have y1 := C6.cell 1
      have y2 := C6.cell 2
      have y3 := C6.cell 3
      have y4 := C6.cell 4
      have y5 := C6.cell 5
      simp only [List.getElem?_toArray, List.getElem?_cons_succ, List.getElem?_cons_zero] at y0 y1 y2 y3 y4 y5
      have hp6 := hp.below b6
      clear hb6 b4 C6
      go_wp2_with fail
      refine (hF.out _ hp6).mono ?_
      rintro e w7 ⟨rfl, hb7⟩
      have b7 := b6.trans (hb7.mono b6.size)
      have hp7 := hp.below b7
      clear hb7 b6 hp6 y0 y1 y2 y3 y4 y5
      go_wp2_with fail
      refine (works_any _ hp7).mono ?_
      rintro e w8 ⟨rfl, hb8⟩
      go_wp2
      go_ret
      exact ⟨rfl, b7.trans (hb8.mono b7.size)⟩
  · have hp4 := hp.below b4
    go_wp2_with fail
    refine (works_any _ hp4).mono ?_
    rintro e w6 ⟨rfl, hb6⟩
    go_wp2
    go_ret
    exact ⟨rfl, b4.trans (hb6.mono b4.size)⟩

set_option maxRecDepth 100000 in
set_option maxHeartbeats 4000000 in
theorem itemBack_move (m : Int) (i : Bool) (g : Int) (n : Int) (s : ByteArray) (w : World) (hn1 : 0 ≤ n) (hn2 : n ≤ 4294967295) (hfr : fromR (1 + n % 1680728) = (⟨0, 0, 0, m, i, g⟩, 0)) (hv1 : 1 ≤ m) (hv2 : m ≤ 64) (hg1 : 1 ≤ g) (hg2 : g ≤ 7) (hp : Pow w) (hsh : w.ShapedOpen Tryd.prog) :
    Calls Tryd.prog 10 #[.int .u32 n, .string s] w fun e w' => e = .returned (.bool true) ∧ Below w.heap.size w w' := by
  have hm1 : 0 ≤ n % 1680728 := by omega
  have hm2 : n % 1680728 < 1680728 := by omega
  have hX := Lib.hid (fun W => fromNumber_any (1 + n % 1680728) W)
  rw [hfr] at hX
  clear hfr
  have hmz : ((m : Int) == 0) = false := by simp; omega
  have hok : itemOk 0 0 0 m i g := ⟨⟨hg1, hg2⟩, .inr ⟨hv1, hv2, rfl, rfl, rfl⟩⟩
  have hE := Lib.hid (fun W hp => item_move m i g W hp hv1 hv2 hg1 hg2)
  have hl : (itemText 0 0 0 m i g).length ≤ 1000 := by
    have h1 := dgs_len (a := m) (by omega)
    have h2 := dgs_len (a := g) (by omega)
    have h3 := wayL_len i
    unfold itemText
    split
    · omega
    · simp; omega
  have hB := Lib.hid (fun W => parseItem_any ⟨(itemText 0 0 0 m i g).toArray⟩ W (by rw [Lib.size_mk]; omega))
  rw [show pItemR (ByteArray.mk (itemText 0 0 0 m i g).toArray).data.toList = (⟨0, 0, 0, m, i, g⟩, 0) from pItemR_some (pItem_text hok)] at hB
  obtain ⟨f1, f2, f3⟩ := move_facts i hv1 hv2 hg1 hg2
  have hsz1 : (⟨(itemText 0 0 0 m i g).toArray⟩ : ByteArray).size ≤ 1000 := by rw [Lib.size_mk]; exact hl
  have hK := Lib.hid (fun W h => Tryd.strings_Contains_shaped ⟨(itemText 0 0 0 m i g).toArray⟩ ⟨#[47, 105, 110, 64]⟩ W h (by omega))
  rw [show Lib.contains (ByteArray.mk (itemText 0 0 0 m i g).toArray).data.toList (ByteArray.mk #[47, 105, 110, 64]).data.toList = i from f1] at hK
  have hJ := Lib.hid (fun W h => Tryd.strings_Contains_shaped ⟨(itemText 0 0 0 m i g).toArray⟩ ⟨#[47, 111, 117, 116, 64]⟩ W h (by omega))
  rw [show Lib.contains (ByteArray.mk (itemText 0 0 0 m i g).toArray).data.toList (ByteArray.mk #[47, 111, 117, 116, 64]).data.toList = !i from f2] at hJ
  have h0 : 0 < (⟨(itemText 0 0 0 m i g).toArray⟩ : ByteArray).size := by
    rw [Lib.size_mk]
    cases hc : itemText 0 0 0 m i g with
    | nil => rw [hc] at f3; cases f3
    | cons => simp
  have hi0 : (((⟨(itemText 0 0 0 m i g).toArray⟩ : ByteArray)[0]'h0).toNat : Int) = 109 := by
    have : some ((⟨(itemText 0 0 0 m i g).toArray⟩ : ByteArray)[0]'h0) = some 109 := by
      rw [← f3, List.head?_eq_getElem?, List.getElem?_eq_getElem (by rw [Lib.size_mk] at h0; exact h0)]
      rfl
    rw [Option.some.inj this]
    rfl
  generalize (⟨(itemText 0 0 0 m i g).toArray⟩ : ByteArray) = t at hE hB hK hJ h0 hi0 hsz1
  clear hok hl f1 f2 f3
  go_enter Tryd.func10, Tryd.ntmps10
  go_wp2_with fail
  refine (hX.out _).mono ?_
  rintro e w1 ⟨rfl, hb1⟩
  have b1 := hb1.alloc hb1.size (.cells #[.int .i64 0, .int .i64 0, .int .i64 0, .int .i64 m, .bool i, .int .i64 g] 33)
  have B1 := Whole.new w1 33 #[.int .i64 0, .int .i64 0, .int .i64 0, .int .i64 m, .bool i, .int .i64 g]
  have hp1 := hp.below b1
  clear hb1
  go_wp2_with fail
  refine (hE.out _ hp1).mono ?_
  rintro e w2 ⟨rfl, hb2⟩
  have b2 := b1.trans (hb2.mono b1.size)
  have B2 := B1.below hb2 B1.lt
  clear hb2 B1 b1 hp1
  go_wp2_with fail
  refine (hB.out _).mono ?_
  rintro e w3 ⟨rfl, hb3⟩
  have b3 := (b2.trans (hb3.mono b2.size)).alloc (Nat.le_trans b2.size hb3.size) (.cells #[.int .i64 0, .int .i64 0, .int .i64 0, .int .i64 m, .bool i, .int .i64 g] 33)
  have B3 := (B2.below hb3 B2.lt).alloc (.cells #[.int .i64 0, .int .i64 0, .int .i64 0, .int .i64 m, .bool i, .int .i64 g] 33)
  have C3 := Whole.new w3 33 #[.int .i64 0, .int .i64 0, .int .i64 0, .int .i64 m, .bool i, .int .i64 g]
  have x0 := B3.cell 0
  have x1 := B3.cell 1
  have x2 := B3.cell 2
  have x3 := B3.cell 3
  have x4 := B3.cell 4
  have x5 := B3.cell 5
  simp only [List.getElem?_toArray, List.getElem?_cons_succ, List.getElem?_cons_zero] at x0 x1 x2 x3 x4 x5
  have y0 := C3.cell 0
  have y1 := C3.cell 1
  have y2 := C3.cell 2
  have y3 := C3.cell 3
  have y4 := C3.cell 4
  have y5 := C3.cell 5
  simp only [List.getElem?_toArray, List.getElem?_cons_succ, List.getElem?_cons_zero] at y0 y1 y2 y3 y4 y5
  have hS : (w3.alloc (.cells #[.int .i64 0, .int .i64 0, .int .i64 0, .int .i64 m, .bool i, .int .i64 g] 33)).drew.cell? ⟨w1.heap.size, 4, none⟩ = some (.bool i) ∧ (w3.alloc (.cells #[.int .i64 0, .int .i64 0, .int .i64 0, .int .i64 m, .bool i, .int .i64 g] 33)).drew.ShapedOpen Tryd.prog ∧ Below w.heap.size w (w3.alloc (.cells #[.int .i64 0, .int .i64 0, .int .i64 0, .int .i64 m, .bool i, .int .i64 g] 33)).drew ∧ w1.heap.size < (w3.alloc (.cells #[.int .i64 0, .int .i64 0, .int .i64 0, .int .i64 m, .bool i, .int .i64 g] 33)).drew.heap.size ∧ w.heap.size ≤ (w3.alloc (.cells #[.int .i64 0, .int .i64 0, .int .i64 0, .int .i64 m, .bool i, .int .i64 g] 33)).drew.heap.size := ⟨B3.cell 4, shaped_drew (shaped_below hsh b3), b3.drew, B3.lt, b3.size⟩
  clear hb3 b2 B2 B3 C3 b3
  go_wp2_with fail
  go_region_held3 (fun w' => w'.cell? ⟨w1.heap.size, 4, none⟩ = some (.bool i) ∧ w'.ShapedOpen Tryd.prog ∧ Below w.heap.size w w' ∧ w1.heap.size < w'.heap.size ∧ w.heap.size ≤ w'.heap.size)
    (first | exact hS | (refine ibk_keep ?_ hb2; assumption) | assumption)
    (first | (go_at_call 36; refine (hK.out _ ?_).mono ?_; (apply ibk_shaped; assumption); rintro e w2 ⟨rfl, rfl⟩) | (go_at_call 36; refine (hJ.out _ ?_).mono ?_; (apply ibk_shaped; assumption); rintro e w2 ⟨rfl, rfl⟩))
  have b4 := ibk_below hS
  clear x0 x1 x2 x3 x4 x5 y0 y1 y2 y3 y4 y5
  by_cases h100 : s.size ≤ 100
  · have hP := Lib.hid (fun W => parseItem_any s W (by omega))
    cases hq : pItem s.data.toList with
    | none =>
      rw [pItemR_none hq] at hP
      clear hq
      go_wp2_with fail
      refine (hP.out _).mono ?_
      rintro e w6 ⟨rfl, hb6⟩
      have b6 := (b4.trans (hb6.mono b4.size)).alloc (Nat.le_trans b4.size hb6.size) (.cells #[.int .i64 0, .int .i64 0, .int .i64 0, .int .i64 0, .bool false, .int .i64 0] 33)
      have C6 := Whole.new w6 33 #[.int .i64 0, .int .i64 0, .int .i64 0, .int .i64 0, .bool false, .int .i64 0]
      have y0 := C6.cell 0
      have y1 := C6.cell 1
      have y2 := C6.cell 2
      have y3 := C6.cell 3
      have y4 := C6.cell 4
      have y5 := C6.cell 5
      simp only [List.getElem?_toArray, List.getElem?_cons_succ, List.getElem?_cons_zero] at y0 y1 y2 y3 y4 y5
      have hp6 := hp.below b6
      clear hb6 b4 C6
      go_wp2_with fail
      refine (works_any _ hp6).mono ?_
      rintro e w7 ⟨rfl, hb7⟩
      go_wp2
      go_ret
      exact ⟨rfl, b6.trans (hb7.mono b6.size)⟩
    | some v =>
      rw [pItemR_some hq] at hP
      obtain ⟨hv2, ht2⟩ := pItem_some hq
      obtain ⟨ya, yb, yc, ym, yi, yg⟩ := v
      dsimp only at hv2 ht2
      have hF := Lib.hid (fun W hp => item_all ya yb yc ym yi yg W hp)
      rw [itemW_yes hv2] at hF
      dsimp only at hF
      rw [list_str ht2] at hF
      clear hq hv2 ht2
      go_wp2_with fail
      refine (hP.out _).mono ?_
      rintro e w6 ⟨rfl, hb6⟩
      have b6 := (b4.trans (hb6.mono b4.size)).alloc (Nat.le_trans b4.size hb6.size) (.cells #[.int .i64 ya, .int .i64 yb, .int .i64 yc, .int .i64 ym, .bool yi, .int .i64 yg] 33)
      have C6 := Whole.new w6 33 #[.int .i64 ya, .int .i64 yb, .int .i64 yc, .int .i64 ym, .bool yi, .int .i64 yg]
      have y0 := C6.cell 0
      have y1 := C6.cell 1
      have y2 := C6.cell 2
      have y3 := C6.cell 3
      have y4 := C6.cell 4
      have y5 := C6.cell 5
      simp only [List.getElem?_toArray, List.getElem?_cons_succ, List.getElem?_cons_zero] at y0 y1 y2 y3 y4 y5
      have hp6 := hp.below b6
      clear hb6 b4 C6
      go_wp2_with fail
      refine (hF.out _ hp6).mono ?_
      rintro e w7 ⟨rfl, hb7⟩
      have b7 := b6.trans (hb7.mono b6.size)
      have hp7 := hp.below b7
      clear hb7 b6 hp6 y0 y1 y2 y3 y4 y5
      go_wp2_with fail
      refine (works_any _ hp7).mono ?_
      rintro e w8 ⟨rfl, hb8⟩
      go_wp2
      go_ret
      exact ⟨rfl, b7.trans (hb8.mono b7.size)⟩
  · have hp4 := hp.below b4
    go_wp2_with fail
    refine (works_any _ hp4).mono ?_
    rintro e w6 ⟨rfl, hb6⟩
    go_wp2
    go_ret
    exact ⟨rfl, b4.trans (hb6.mono b4.size)⟩

theorem fromR_in {k : Int} (h1 : 1 ≤ k) (h2 : k ≤ 1680728) : fromR k = (fromV k, 0) := by unfold fromR; rw [if_pos ⟨h1, h2⟩]
theorem itemBack_law (n : Int) (s : ByteArray) (w : World) (hn1 : 0 ≤ n) (hn2 : n ≤ 4294967295) (hp : Pow w) (hsh : w.ShapedOpen Tryd.prog) :
    Calls Tryd.prog 10 #[.int .u32 n, .string s] w fun e w' => e = .returned (.bool true) ∧ Below w.heap.size w w' := by
  have h1 : 1 ≤ 1 + n % 1680728 := by omega
  have h2 : 1 + n % 1680728 ≤ 1680728 := by omega
  have hf := fromR_in h1 h2
  by_cases h : 1 + n % 1680728 ≤ 1679832
  · obtain ⟨e1, e2, e3, e4, e5⟩ := fromV_low h1 h
    generalize fromV (1 + n % 1680728) = v at hf e1 e2 e3 e4 e5
    obtain ⟨a, b, c, m, i, g⟩ := v
    dsimp only at e1 e2 e3 e4 e5
    subst e1 e2
    exact itemBack_eff a b c g n s w hn1 hn2 hf e3 e4 e5 hp
  · obtain ⟨e1, e2, e3, e4, e5, e6, e7⟩ := fromV_high (by omega) h2
    generalize fromV (1 + n % 1680728) = v at hf e1 e2 e3 e4 e5 e6 e7
    obtain ⟨a, b, c, m, i, g⟩ := v
    dsimp only at e1 e2 e3 e4 e5 e6 e7
    subst e1 e2 e3
    exact itemBack_move m i g n s w hn1 hn2 hf e4 e5 e6 e7 hp hsh
end Go.Proofs.YtmbnhbocablgeaaDoor
