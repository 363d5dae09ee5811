/- IdentNames returns true; memory that lay stays. Condition: the table of powers of ten lies as its initialiser lays it. -/
import Derived.Test.YtmbnhbocablgeaaDoorPlNames
import Derived.Test.YtmbnhbocablgeaaDoorWorks
import Derived.OwnWalk
import Derived.Laws.AppendOwn
import Derived.Laws.IdiomStrings
import Derived.Laws.Concat
import Derived.Lib.Repeat
import Derived.Deep.RegionHeld3
namespace Go.Proofs.YtmbnhbocablgeaaDoor
open Go.RowKit

theorem info8 : (Tryd.prog.info? 5).map (fun i => (i.zero, i.size, i.bytes)) = some (some (.int .u8 0), 1, 1) := by kernel_rfl

/-- The letters that the numbers stand for, as values. -/
def ltrV (zs : List Int) : List Value := zs.map fun z => .int .u8 ((ltr z).toNat : Int)
theorem idx_ltr {z : Int} (W : World) : (Instr.index 9 (.string ⟨#[97, 98, 99, 100, 101, 102, 103, 104, 105, 106, 107, 108, 109, 110, 111, 112, 113, 114, 115, 116, 117, 118, 119, 120, 121, 122, 48, 49, 50, 51, 52, 53, 54, 55, 56, 57]⟩) (.int .u8 (z % 36))).run Tryd.prog W = .ok (.int .u8 ((ltr z).toNat : Int)) W := by
  have h1 : 0 ≤ z % 36 := by omega
  have h2 : z % 36 < 36 := by omega
  rw [run_index_string _ _ _ _ _ Tryd.underlying9, dif_pos ⟨by omega, by show z % 36 < 36; omega⟩]
  congr 3
  unfold ltr
  generalize z % 36 = k at h1 h2
  obtain ⟨n, rfl⟩ : ∃ n : Nat, k = n := ⟨k.toNat, by omega⟩
  have hn : n < 36 := by omega
  show (alnum.toArray[n]'(by show n < 36; omega)).toNat = _
  rw [Int.toNat_natCast, List.getD_eq_getElem?_getD, List.getElem?_eq_getElem (show n < alnum.length from hn)]
  rfl
theorem ltrV_snoc {zs : List Int} {k : Nat} (h : k < zs.length) : ltrV (zs.take (k + 1)) = ltrV (zs.take k) ++ [.int .u8 ((ltr (zs.getD k 0)).toNat : Int)] := by
  unfold ltrV
  rw [List.take_succ_eq_append_getElem h, List.map_append, List.getD_eq_getElem?_getD, List.getElem?_eq_getElem h]
  rfl

theorem name_is (s : ByteArray) (b : Bool) (w : World) (hs : s.size ≤ 9223372036854775807) (hb : isName s.data.toList = b) : Calls Tryd.prog 30 #[.string s] w fun e w' => e = .returned (.bool b) ∧ Below w.heap.size w w' := by
  have h := name_any s w hs
  rw [hb] at h
  exact h
/-- The row's cells. -/
def CellsB (w : World) (g : Nat) (l : List UInt8) : Prop := ∀ j (hj : j < l.length), w.cell? ⟨g, j, none⟩ = some (.int .u8 (l[j].toNat : Int))
theorem CellsB.below {w w' : World} {g B : Nat} {l : List UInt8} (h : CellsB w g l) (hb : Below B w w') (hg : g < B) : CellsB w' g l := fun j hj => (hb.cell hg).trans (h j hj)
theorem conv_of {w : World} {g cap K : Nat} {l : List UInt8} (h : CellsB w g l) (hK : l.length = K) : (convert 61 9 (.slice (some ⟨g, 0, none⟩) K cap)).run Tryd.prog w = .ok (.string ⟨l.toArray⟩) w := by
  subst hK
  refine run_convert_bytes_back w 61 9 5 ⟨g, 0, none⟩ cap l Tryd.underlying61 Tryd.underlying5 Tryd.underlying9 fun j hj => ?_
  rw [show (⟨g, 0, none⟩ : Addr).add j = ⟨g, j, none⟩ by unfold Addr.add; split <;> simp_all]
  exact h j hj
theorem ltrV_eq (zs : List Int) : ltrV zs = (zs.map ltr).map fun b => .int .u8 (b.toNat : Int) := by
  unfold ltrV
  rw [List.map_map]
  rfl
theorem cellsB_of {w : World} {B g K cap : Nat} {l : List UInt8} (h : w.ownsRow B 5 1 (.slice (some ⟨g, 0, none⟩) K cap) K (l.map fun b => .int .u8 (b.toNat : Int))) (hK : l.length = K) : CellsB w g l := fun j hj => by
  rw [h.cellAt j (by omega), List.getElem?_map, List.getElem?_eq_getElem hj]
  rfl
theorem nkeep {wr wc w2 : World} {g cap K : Nat} {l : List UInt8} {s1 : ByteArray} (hcB : CellsB wr g l) (hg : g < wr.heap.size) (hs1 : (⟨l.toArray⟩ : ByteArray) = s1) (hK : l.length = K)
    (hH : (convert 61 9 (.slice (some ⟨g, 0, none⟩) K cap)).run Tryd.prog wc = .ok (.string s1) wc ∧ Below wr.heap.size wr wc) (hb : Below wc.heap.size wc w2) :
    (convert 61 9 (.slice (some ⟨g, 0, none⟩) K cap)).run Tryd.prog w2 = .ok (.string s1) w2 ∧ Below wr.heap.size wr w2 := by
  have hb2 := hH.2.trans (hb.mono hH.2.size)
  subst hs1
  exact ⟨conv_of (hcB.below hb2 hg) hK, hb2⟩
theorem own_below {wr w2 : World} {B g K cap : Nat} {xs : List Value} (h : wr.ownsRow B 5 1 (.slice (some ⟨g, 0, none⟩) K cap) K xs) (hg : g < wr.heap.size) (hb : Below wr.heap.size wr w2) : w2.ownsRow B 5 1 (.slice (some ⟨g, 0, none⟩) K cap) K xs := by
  rcases h with ⟨h1, ⟨h2, _⟩ | ⟨g', cap', cur, h2, h3, h4, h5⟩⟩
  · cases h2
  · cases h2
    exact ⟨h1, Or.inr ⟨g, cap, cur, rfl, h3, (hb.block g hg).trans h4, h5⟩⟩
theorem wrap_le {c : Int} (h1 : 0 ≤ c) (h2 : c ≤ 1000) : IntKind.i64.wrap c = c := by
  simp [IntKind.wrap, IntKind.signed, IntKind.bits]
  omega
theorem byte_of {o : Int} (h1 : 0 ≤ o) (h2 : o ≤ 255) : ∃ c : UInt8, (c.toNat : Int) = o := ⟨o.toNat.toUInt8, by
  have : (o.toNat.toUInt8).toNat = o.toNat := by rw [Nat.toUInt8_eq, UInt8.toNat_ofNat']; omega
  omega⟩
theorem nm_yes {c : UInt8} {o : Int} (h : (c.toNat : Int) = o) (hn : (97 ≤ o ∧ o ≤ 122) ∨ (48 ≤ o ∧ o ≤ 57)) : nmB c = true := by
  unfold nmB
  simp only [Bool.or_eq_true, Bool.and_eq_true, decide_eq_true_eq]
  omega
theorem nm_no {c : UInt8} {o : Int} (h : (c.toNat : Int) = o) (hn : ¬ ((97 ≤ o ∧ o ≤ 122) ∨ (48 ≤ o ∧ o ≤ 57))) : nmB c = false := by
  cases hc : nmB c with
  | false => rfl
  | true =>
    unfold nmB at hc
    simp only [Bool.or_eq_true, Bool.and_eq_true, decide_eq_true_eq] at hc
    omega

set_option maxRecDepth 100000 in
set_option maxHeartbeats 8000000 in
theorem names_some (a : Addr) (len cap K : Nat) (zs : List Int) (p o : Int) (w : World) (hmn : min (len : Int) 16 = (K : Int)) (hK : K ≤ 16) (hlen : len ≤ 9223372036854775807) (hKl : K ≤ len) (hlc : len ≤ cap) (hzl : zs.length = K)
    (hcell : ∀ i, i < K → w.cell? (a.add i) = some (.int .u8 (zs.getD i 0))) (hz : ∀ i, i < K → 0 ≤ zs.getD i 0 ∧ zs.getD i 0 ≤ 255) (hp1 : 0 ≤ p) (hp2 : p ≤ 255) (ho1 : 0 ≤ o) (ho2 : o ≤ 255) (hp : Pow w) :
    Calls Tryd.prog 12 #[.slice (some a) len cap, .int .u8 p, .int .u8 o] w fun e w' => e = .returned (.bool true) ∧ Below w.heap.size w w' := by
  obtain ⟨i0, hi, hz0, hz1, hz2⟩ := info_parts info8
  have HZ := Lib.hid hz
  have HC := Lib.hid hcell
  have HL := Lib.hid hzl
  have hmx : max (K : Int) 0 = K := by omega
  clear hz hcell hzl
  go_enter Tryd.func12, Tryd.ntmps12
  go_wp2_with (first
    | (at_make; refine wpList_make_own _ rfl _ _ 61 rfl w.heap.size 5 i0 (.int .u8 0) 1 Tryd.underlying61 hi hz0 hz1 .i64 .i64 _ 17 rfl rfl rfl (by rw [hz2]; omega) (by unfold maxLen; omega) (Nat.le_refl _) ?_; intro w0 hown0 hgrow0))
  have b0 : Below w.heap.size w w0 := (Below.refl _ w).grown hgrow0 (Nat.le_refl _) (fun k h => by cases h)
  clear hgrow0 hmn hmx
  go_loopw [7, 18] (fun v c wr => ∃ k : Nat, k ≤ K ∧ c = .int .i64 k ∧ wr.ownsRow w.heap.size 5 1 v k (ltrV (zs.take k)) ∧ Below w.heap.size w wr) (fun _ c _ => K - (intOf c).toNat)
  case atStart => exact ⟨0, Nat.zero_le _, rfl, hown0, b0⟩
  case round =>
    clear hown0 b0
    obtain ⟨k, hk, rfl, hown, bW⟩ := hrel
    by_cases hlt : k < K
    · have hc := HC.out k hlt
      have hblk := Lib.lt_of_cell hc
      have hc1 : wr.cell? (a.add k) = some (.int .u8 (zs.getD k 0)) := (bW.cell hblk).trans hc
      obtain ⟨g1, g2⟩ := HZ.out k hlt
      have hsn := Lib.hid (ltrV_snoc (zs := zs) (k := k) (by rw [HL.out]; exact hlt))
      have hix := fun W => idx_ltr (z := zs.getD k 0) W
      generalize zs.getD k 0 = z at hc1 g1 g2 hsn hix
      generalize ((ltr z).toNat : Int) = y at hsn hix
      have hbs := bW.size
      clear hc hblk
      go_wp2_with (first
        | (at_builtin; refine wpList_append_own _ rfl _ _ 61 rfl w.heap.size 5 i0 (.int .u8 0) 1 1 Tryd.underlying61 hi hz0 hz1 hz2 rfl (by decide) _ _ _ rfl (hown.alloc _) ⟨wr.heap.size, 0, none⟩ 1 1 [.int .u8 y] rfl rfl (cell_one_new _ _ _) (fun x hx => by simp at hx; subst hx; rfl) (by unfold maxLen; omega) (by omega) (by simp; omega) ?_; intro v' w3 hown3 hgrow3 hnil3))
      go_roundw
      case rel => exact ⟨k + 1, by omega, by go_num, by rw [hsn.out]; exact hown3, (bW.alloc hbs _).grown hgrow3 (by simp; omega) (fun j hj => (hown.lt j hj).1)⟩
      case measure => simp [intOf]; omega
    · obtain rfl : k = K := by omega
      clear hz0 hz1 hz2 HZ HC hi
      have hl : (zs.map ltr).length = k := by rw [List.length_map]; exact HL.out
      rw [List.take_of_length_le (by rw [HL.out]; exact Nat.le_refl _), ltrV_eq] at hown
      by_cases h0 : k = 0
      · subst h0
        have hn0 := name_is ⟨#[]⟩ false
        rcases hown.2 with ⟨rfl, _⟩ | ⟨g, cap', cur, rfl, _⟩
        all_goals
          clear hown
          have hp1 := hp.below bW
          go_wp2_with fail
          refine (name_is ⟨#[]⟩ false _ (by decide) (by decide)).mono ?_
          rintro e w2 ⟨rfl, hb2⟩
          have hp2 := hp1.below hb2
          go_wp2_with fail
          refine (works_any _ hp2).mono ?_
          rintro e w3 ⟨rfl, hb3⟩
          go_wp2_with fail
          go_ret
          exact ⟨rfl, (bW.trans (hb2.mono bW.size)).trans (hb3.mono (Nat.le_trans bW.size hb2.size))⟩
      · obtain ⟨g, cap', rfl⟩ : ∃ g cap', u7 = Value.slice (some ⟨g, 0, none⟩) k cap' := by
          rcases hown.2 with ⟨_, h⟩ | ⟨g, cap', cur, h, _⟩
          · exact absurd h h0
          · exact ⟨g, cap', h⟩
        have hcB := cellsB_of hown hl
        have hnm : isName (zs.map ltr) = true := ltrs_name (by rw [HL.out]; omega) (by rw [HL.out]; exact hK)
        generalize hll : zs.map ltr = l at hown hl hcB hnm
        have HLL := Lib.hid hll
        have HL2 := Lib.hid hl
        clear hll
        have hgs : g < wr.heap.size := Lib.lt_of_cell (hcB 0 (by omega))
        obtain ⟨s1, hs1⟩ : ∃ s1 : ByteArray, (⟨l.toArray⟩ : ByteArray) = s1 := ⟨_, rfl⟩
        have HS1 := Lib.hid hs1
        have hN1 : isName s1.data.toList = true := by rw [← hs1]; exact hnm
        have z1 : s1.size = k := by rw [← hs1, Lib.size_mk]; exact hl
        obtain ⟨c, hc⟩ : ∃ c : Nat, (17 : Int) - (k : Int) = c := ⟨17 - k, by omega⟩
        have hwr : IntKind.i64.wrap (c : Int) = c := wrap_le (by omega) (by omega)
        obtain ⟨rs, hrs, zr⟩ : ∃ rs : ByteArray, (∀ W : World, Calls Tryd.prog 38 #[.string ⟨#[97]⟩, .int .i64 c] W fun e w' => e = .returned (.string rs) ∧ Below W.heap.size W w') ∧ rs.size = c := by
          refine ⟨⟨(Lib.repeatL (ByteArray.mk #[97]).data.toList c).toArray⟩, fun W => Tryd.strings_Repeat ⟨#[97]⟩ c W (by omega) (by show 1 * c ≤ _; omega), ?_⟩
          rw [Lib.size_mk, Lib.repeatL_length]
          show c * 1 = c
          omega
        obtain ⟨s2, z2, hadd⟩ : ∃ s2 : ByteArray, s2.size = 17 ∧ ∀ W : World, (Op.stringOp .add s1 rs).run Tryd.prog W = .ok (.string s2) W :=
          ⟨s1 ++ rs, by rw [ByteArray.size_append]; omega, fun W => run_string_add_sum (P := Tryd.prog) (w := W) s1 rs (by omega)⟩
        have hN2 : isName s2.data.toList = false := long_name (by rw [← Lib.size_eq]; exact z2)
        have y1 : s1.size ≤ 9223372036854775807 := by omega
        have y2 : s2.size ≤ 9223372036854775807 := by omega
        have hS : (convert 61 9 (.slice (some ⟨g, 0, none⟩) k cap')).run Tryd.prog wr.drew = .ok (.string s1) wr.drew ∧ Below wr.heap.size wr wr.drew :=
          ⟨by rw [← hs1]; exact conv_of (show CellsB wr.drew g l from hcB) hl, (Below.refl _ _).drew⟩
        have hk1 : ((k : Int) == 0) = false := by simpa using h0
        have HGB := Lib.hid (show w.heap.size ≤ (⟨g, 0, none⟩ : Addr).block from by
          rcases hown.2 with ⟨h, _⟩ | ⟨g', cap2, cur, h, h3, _⟩
          · cases h
          · cases h
            exact h3)
        have HCB := Lib.hid hcB
        have HOW := Lib.hid hown
        have HNM := Lib.hid hnm
        clear hown hcB hnm hl hs1 z1 z2 zr
        go_wp2_with fail
        refine wp_region_held_drew (S := fun w' => (convert 61 9 (.slice (some ⟨g, 0, none⟩) k cap')).run Tryd.prog w' = .ok (.string s1) w' ∧ Below wr.heap.size wr w') (by kernel_rfl) hS (fun hHeld => ?_)
        clear hS
        refine wpAnyH_take (i := 0) (v := ?_) rfl (by kernel_rfl) (by kernel_rfl) (by kernel_rfl) (fun _ _ _ h => h) (Or.inl ⟨by rfl, ?_⟩) (by assumption) ?_
        rotate_left
        · intro w hSw
          go_simp
          try with_reducible rfl
        simp only [Act.put, List.getElem_toArray, List.getElem_cons_zero, List.setIfInBounds_toArray, List.set_cons_zero, List.set_cons_succ]
        refine wpAnyH_take (i := 1) (v := ?_) rfl (by kernel_rfl) (by kernel_rfl) (by kernel_rfl) (fun _ _ _ h => h) (Or.inl ⟨by rfl, ?_⟩) (by assumption) ?_
        rotate_left
        · intro w hSw
          change Sem.run _ (do let v ← convert 61 9 (.slice (some ⟨g, 0, none⟩) k cap'); pure (Next.value v)) w = _
          rw [Sem.run_bind, hSw.1]
          rfl
        simp only [Act.put, List.getElem_toArray, List.getElem_cons_succ, List.getElem_cons_zero, List.setIfInBounds_toArray, List.set_cons_zero, List.set_cons_succ]
        refine wpAnyH_ready (rs := [2]) (by kernel_rfl) (by simp) ?_
        refine AllReadyH.cons rfl (fun K hK => ?_) AllReadyH.nil
        go_simp
        refine (name_is _ _ _ y1 hN1).mono ?_
        rintro e w2 ⟨rfl, hb2⟩
        refine hK.out _ _ ?_ (fun hHeld' => ?_)
        · exact nkeep HCB.out hgs HS1.out HL2.out hHeld hb2
        clear hK K hHeld
        have hHeld := hHeld'
        clear hHeld'
        try simp only [Act.put, List.getElem_toArray, List.getElem_cons_succ, List.getElem_cons_zero, List.setIfInBounds_toArray, List.set_cons_zero, List.set_cons_succ]
        clear hb2
        refine wpAnyH_take (i := 3) (v := ?_) rfl (by kernel_rfl) (by kernel_rfl) (by kernel_rfl) (fun _ _ _ h => h) (Or.inl ⟨by rfl, ?_⟩) (by assumption) ?_
        rotate_left
        · intro w hSw
          go_simp
          try with_reducible rfl
        simp only [Act.put, List.getElem_toArray, List.getElem_cons_succ, List.getElem_cons_zero, List.setIfInBounds_toArray, List.set_cons_zero, List.set_cons_succ]
        refine wpAnyH_take (i := 4) (v := ?_) rfl (by kernel_rfl) (by kernel_rfl) (by kernel_rfl) (fun _ _ _ h => h) (Or.inl ⟨by rfl, ?_⟩) (by assumption) ?_
        rotate_left
        · intro w hSw
          go_simp
          try with_reducible rfl
        simp only [Act.put, List.getElem_toArray, List.getElem_cons_succ, List.getElem_cons_zero, List.setIfInBounds_toArray, List.set_cons_zero, List.set_cons_succ]
        refine wpAnyH_take (i := 5) (v := ?_) rfl (by kernel_rfl) (by kernel_rfl) (by kernel_rfl) (fun _ _ _ h => h) (Or.inl ⟨by rfl, ?_⟩) (by assumption) ?_
        rotate_left
        · intro w hSw
          go_simp
          try with_reducible rfl
        simp only [Act.put, List.getElem_toArray, List.getElem_cons_succ, List.getElem_cons_zero, List.setIfInBounds_toArray, List.set_cons_zero, List.set_cons_succ]
        refine wpAnyH_take (i := 6) (v := ?_) rfl (by kernel_rfl) (by kernel_rfl) (by kernel_rfl) (fun _ _ _ h => h) (Or.inl ⟨by rfl, ?_⟩) (by assumption) ?_
        rotate_left
        · intro w hSw
          change Sem.run _ (do let v ← convert 61 9 (.slice (some ⟨g, 0, none⟩) k cap'); pure (Next.value v)) w = _
          rw [Sem.run_bind, hSw.1]
          rfl
        simp only [Act.put, List.getElem_toArray, List.getElem_cons_succ, List.getElem_cons_zero, List.setIfInBounds_toArray, List.set_cons_zero, List.set_cons_succ]
        refine wpAnyH_take (i := 7) (v := ?_) rfl (by kernel_rfl) (by kernel_rfl) (by kernel_rfl) (fun _ _ _ h => h) (Or.inl ⟨by rfl, ?_⟩) (by assumption) ?_
        rotate_left
        · intro w hSw
          go_simp
          try with_reducible rfl
        simp only [Act.put, List.getElem_toArray, List.getElem_cons_succ, List.getElem_cons_zero, List.setIfInBounds_toArray, List.set_cons_zero, List.set_cons_succ]
        refine wpAnyH_take (i := 8) (v := ?_) rfl (by kernel_rfl) (by kernel_rfl) (by kernel_rfl) (fun _ _ _ h => h) (Or.inl ⟨by rfl, ?_⟩) (by assumption) ?_
        rotate_left
        · intro w hSw
          go_simp
          try with_reducible rfl
        simp only [Act.put, List.getElem_toArray, List.getElem_cons_succ, List.getElem_cons_zero, List.setIfInBounds_toArray, List.set_cons_zero, List.set_cons_succ]
        refine wpAnyH_take (i := 9) (v := ?_) rfl (by kernel_rfl) (by kernel_rfl) (by kernel_rfl) (fun _ _ _ h => h) (Or.inl ⟨by rfl, ?_⟩) (by assumption) ?_
        rotate_left
        · intro w hSw
          go_simp
          try with_reducible rfl
        simp only [Act.put, List.getElem_toArray, List.getElem_cons_succ, List.getElem_cons_zero, List.setIfInBounds_toArray, List.set_cons_zero, List.set_cons_succ]
        refine wpAnyH_ready (rs := [10]) (by kernel_rfl) (by simp) ?_
        refine AllReadyH.cons rfl (fun K hK => ?_) AllReadyH.nil
        go_simp
        refine (hrs _).mono ?_
        rintro e w3 ⟨rfl, hb3⟩
        refine hK.out _ _ ?_ (fun hHeld' => ?_)
        · exact nkeep HCB.out hgs HS1.out HL2.out hHeld hb3
        clear hK K hHeld
        have hHeld := hHeld'
        clear hHeld'
        try simp only [Act.put, List.getElem_toArray, List.getElem_cons_succ, List.getElem_cons_zero, List.setIfInBounds_toArray, List.set_cons_zero, List.set_cons_succ]
        clear hb3
        refine wpAnyH_take (i := 11) (v := ?_) rfl (by kernel_rfl) (by kernel_rfl) (by kernel_rfl) (fun _ _ _ h => h) (Or.inl ⟨by rfl, ?_⟩) (by assumption) ?_
        rotate_left
        · intro w hSw
          go_simp
          try with_reducible rfl
        simp only [Act.put, List.getElem_toArray, List.getElem_cons_succ, List.getElem_cons_zero, List.setIfInBounds_toArray, List.set_cons_zero, List.set_cons_succ]
        refine wpAnyH_ready (rs := [12]) (by kernel_rfl) (by simp) ?_
        refine AllReadyH.cons rfl (fun K hK => ?_) AllReadyH.nil
        go_simp
        refine (name_is _ _ _ y2 hN2).mono ?_
        rintro e w4 ⟨rfl, hb4⟩
        refine hK.out _ _ ?_ (fun hHeld' => ?_)
        · exact nkeep HCB.out hgs HS1.out HL2.out hHeld hb4
        clear hK K hHeld
        have hHeld := hHeld'
        clear hHeld'
        try simp only [Act.put, List.getElem_toArray, List.getElem_cons_succ, List.getElem_cons_zero, List.setIfInBounds_toArray, List.set_cons_zero, List.set_cons_succ]
        clear hb4
        refine wpAnyH_take (i := 13) (v := ?_) rfl (by kernel_rfl) (by kernel_rfl) (by kernel_rfl) (fun _ _ _ h => h) (Or.inl ⟨by rfl, ?_⟩) (by assumption) ?_
        rotate_left
        · intro w hSw
          go_simp
          try with_reducible rfl
        simp only [Act.put, List.getElem_toArray, List.getElem_cons_succ, List.getElem_cons_zero, List.setIfInBounds_toArray, List.set_cons_zero, List.set_cons_succ]
        refine wpAnyH_done (by kernel_rfl) ?_ _
        obtain ⟨b, hb⟩ : ∃ b : UInt8, (b.toNat : Int) = o := byte_of ho1 ho2
        obtain ⟨q, hq1, hq2, hqk⟩ : ∃ q : Nat, p % (k : Int) = q ∧ p.tmod (k : Int) = q ∧ q < k := by
          have e1 := Int.emod_nonneg p (show (k : Int) ≠ 0 by omega)
          have e2 := Int.emod_lt_of_pos p (show (0 : Int) < k by omega)
          exact ⟨(p % (k : Int)).toNat, by omega, by rw [Int.tmod_eq_emod_of_nonneg hp1]; omega, by omega⟩
        have b4 := hHeld.2
        have own4 := own_below HOW.out hgs b4
        have bwF := (own4.stored q (.int .u8 o)).2
        have cb4 : CellsB (w4.setCell ⟨g, q, none⟩ (.int .u8 o)) g (l.set q b) := by
          have h := (own4.stored q (.int .u8 o)).1
          rw [← hb, show ((l.map fun x => Value.int .u8 (x.toNat : Int)).set q (.int .u8 (b.toNat : Int))) = (l.set q b).map fun x => Value.int .u8 (x.toNat : Int) by rw [List.map_set]] at h
          rw [← hb]
          exact cellsB_of h (by rw [List.length_set]; exact HL2.out)
        have hcv2 := conv_of (cap := cap') cb4 (show (l.set q b).length = k by rw [List.length_set]; exact HL2.out)
        have hcq : w4.cell? ⟨g, q, none⟩ = some (.int .u8 ((l[q]'(by rw [HL2.out]; exact hqk)).toNat : Int)) := HCB.out.below b4 hgs q (by rw [HL2.out]; exact hqk)
        have hfq := own4.frozenAt q
        have hnm3 : isName (⟨(l.set q b).toArray⟩ : ByteArray).data.toList = nmB b := by
          have hlz : (zs.map ltr).length = k := by rw [HLL.out]; exact HL2.out
          have h := set_name (l := zs) (j := q) (c := b) (by rw [← List.length_map (f := ltr), hlz]; exact hK) (by rw [← List.length_map (f := ltr), hlz]; exact hqk)
          rw [HLL.out] at h
          exact h
        have y3 : (⟨(l.set q b).toArray⟩ : ByteArray).size ≤ 9223372036854775807 := by rw [Lib.size_mk, List.length_set, HL2.out]; omega
        generalize (⟨(l.set q b).toArray⟩ : ByteArray) = s3 at hcv2 hnm3 y3
        generalize ((l[q]'(by rw [HL2.out]; exact hqk)).toNat : Int) = vq at hcq
        have b5 : Below w.heap.size w (w4.setCell ⟨g, q, none⟩ (.int .u8 o)) := (bW.trans (b4.mono bW.size)).setCell (HGB.out) _
        have hp5 := hp.below b5
        have hq0 : (0 : Int) ≤ q := by omega
        have hqk' : (q : Int) < k := by omega
        have hk0 : ((k : Int) == 0) = false := hk1
        have HB := Lib.hid hb
        clear hHeld own4 bwF cb4 hb b4
        have hr : o < 48 ∨ (48 ≤ o ∧ o ≤ 57) ∨ (57 < o ∧ o < 97) ∨ (97 ≤ o ∧ o ≤ 122) ∨ 122 < o := by omega
        rcases hr with h | ⟨h, h'⟩ | ⟨h, h'⟩ | ⟨h, h'⟩ | h
        · have hv := nm_no HB.out (by omega)
          rw [hv] at hnm3
          simp only [Exit.then]
          go_wp2_with fail
          refine (name_is _ _ _ y3 hnm3).mono ?_
          rintro e w6 ⟨rfl, hb6⟩
          have hp6 := hp5.below hb6
          go_wp2_with fail
          refine (works_any _ hp6).mono ?_
          rintro e w7 ⟨rfl, hb7⟩
          go_wp2_with fail
          go_ret
          exact ⟨by first | rfl | (simp; omega), (b5.trans (hb6.mono b5.size)).trans (hb7.mono (Nat.le_trans b5.size hb6.size))⟩
        · have hv := nm_yes HB.out (by omega)
          rw [hv] at hnm3
          simp only [Exit.then]
          go_wp2_with fail
          refine (name_is _ _ _ y3 hnm3).mono ?_
          rintro e w6 ⟨rfl, hb6⟩
          have hp6 := hp5.below hb6
          go_wp2_with fail
          refine (works_any _ hp6).mono ?_
          rintro e w7 ⟨rfl, hb7⟩
          go_wp2_with fail
          go_ret
          exact ⟨by first | rfl | (simp; omega), (b5.trans (hb6.mono b5.size)).trans (hb7.mono (Nat.le_trans b5.size hb6.size))⟩
        · have hv := nm_no HB.out (by omega)
          rw [hv] at hnm3
          simp only [Exit.then]
          go_wp2_with fail
          refine (name_is _ _ _ y3 hnm3).mono ?_
          rintro e w6 ⟨rfl, hb6⟩
          have hp6 := hp5.below hb6
          go_wp2_with fail
          refine (works_any _ hp6).mono ?_
          rintro e w7 ⟨rfl, hb7⟩
          go_wp2_with fail
          go_ret
          exact ⟨by first | rfl | (simp; omega), (b5.trans (hb6.mono b5.size)).trans (hb7.mono (Nat.le_trans b5.size hb6.size))⟩
        · have hv := nm_yes HB.out (by omega)
          rw [hv] at hnm3
          simp only [Exit.then]
          go_wp2_with fail
          refine (name_is _ _ _ y3 hnm3).mono ?_
          rintro e w6 ⟨rfl, hb6⟩
          have hp6 := hp5.below hb6
          go_wp2_with fail
          refine (works_any _ hp6).mono ?_
          rintro e w7 ⟨rfl, hb7⟩
          go_wp2_with fail
          go_ret
          exact ⟨by first | rfl | (simp; omega), (b5.trans (hb6.mono b5.size)).trans (hb7.mono (Nat.le_trans b5.size hb6.size))⟩
        · have hv := nm_no HB.out (by omega)
          rw [hv] at hnm3
          simp only [Exit.then]
          go_wp2_with fail
          refine (name_is _ _ _ y3 hnm3).mono ?_
          rintro e w6 ⟨rfl, hb6⟩
          have hp6 := hp5.below hb6
          go_wp2_with fail
          refine (works_any _ hp6).mono ?_
          rintro e w7 ⟨rfl, hb7⟩
          go_wp2_with fail
          go_ret
          exact ⟨by first | rfl | (simp; omega), (b5.trans (hb6.mono b5.size)).trans (hb7.mono (Nat.le_trans b5.size hb6.size))⟩

theorem u8_wf {n : Int} (h : (Lit.int .u8 n).wf = true) : 0 ≤ n ∧ n ≤ 255 := by
  simp [Lit.wf, IntKind.min, IntKind.max, IntKind.signed, IntKind.bits] at h
  omega
theorem names_arg (a : Addr) (len cap : Nat) (zs : List Int) (p o : Int) (w : World) (hlc : len ≤ cap) (hcm : cap ≤ maxLen) (hzl : zs.length = cap)
    (hcell : ∀ i, i < zs.length → w.cell? (a.add i) = some (.int .u8 (zs.getD i 0))) (hwf : ∀ n ∈ zs, (Lit.int .u8 n).wf = true) (hp1 : 0 ≤ p) (hp2 : p ≤ 255) (ho1 : 0 ≤ o) (ho2 : o ≤ 255) (hp : Pow w) :
    Calls Tryd.prog 12 #[.slice (some a) len cap, .int .u8 p, .int .u8 o] w fun e w' => e = .returned (.bool true) ∧ Below w.heap.size w w' := by
  obtain ⟨K, hK1, hK2, hK3⟩ : ∃ K : Nat, min (len : Int) 16 = K ∧ K ≤ 16 ∧ K ≤ len := ⟨min len 16, by omega, by omega, by omega⟩
  unfold maxLen at hcm
  have hg : ∀ i, i < K → (zs.take K).getD i 0 = zs.getD i 0 := fun i hi => by
    rw [List.getD_eq_getElem?_getD, List.getD_eq_getElem?_getD, List.getElem?_take, if_pos hi]
  refine names_some a len cap K (zs.take K) p o w hK1 hK2 (by omega) hK3 hlc (by rw [List.length_take]; omega) (fun i hi => ?_) (fun i hi => ?_) hp1 hp2 ho1 ho2 hp
  · rw [hg i hi]; exact hcell i (by omega)
  · rw [hg i hi, List.getD_eq_getElem?_getD, List.getElem?_eq_getElem (by omega)]
    exact u8_wf (hwf _ (List.getElem_mem _))

set_option maxRecDepth 100000 in
set_option maxHeartbeats 4000000 in
theorem names_none (p o : Int) (cap : Nat) (w : World) (hp : Pow w) :
    Calls Tryd.prog 12 #[.slice none 0 cap, .int .u8 p, .int .u8 o] w fun e w' => e = .returned (.bool true) ∧ Below w.heap.size w w' := by
  obtain ⟨i0, hi, hz0, hz1, hz2⟩ := info_parts info8
  go_enter Tryd.func12, Tryd.ntmps12
  go_wp2_with (first
    | (at_make; refine wpList_make_own _ rfl _ _ 61 rfl w.heap.size 5 i0 (.int .u8 0) 1 Tryd.underlying61 hi hz0 hz1 .i64 .i64 _ 17 rfl rfl rfl (by rw [hz2]; omega) (by unfold maxLen; omega) (Nat.le_refl _) ?_; intro w0 hown0 hgrow0))
  have b0 : Below w.heap.size w w0 := (Below.refl _ w).grown hgrow0 (Nat.le_refl _) (fun k h => by cases h)
  clear hgrow0 hown0
  go_loopw [7, 18] (fun v c wr => c = .int .i64 0 ∧ v = .slice (some ⟨w.heap.size, 0, none⟩) 0 17 ∧ Below w.heap.size w wr) (fun _ _ _ => 0)
  case atStart => exact ⟨rfl, rfl, b0⟩
  case round =>
    clear b0
    obtain ⟨rfl, rfl, bW⟩ := hrel
    have hp1 := hp.below bW
    go_wp2_with fail
    refine (name_is ⟨#[]⟩ false _ (by decide) (by decide)).mono ?_
    rintro e w2 ⟨rfl, hb2⟩
    have hp2 := hp1.below hb2
    go_wp2_with fail
    refine (works_any _ hp2).mono ?_
    rintro e w3 ⟨rfl, hb3⟩
    go_wp2_with fail
    go_ret
    exact ⟨rfl, (bW.trans (hb2.mono bW.size)).trans (hb3.mono (Nat.le_trans bW.size hb2.size))⟩
end Go.Proofs.YtmbnhbocablgeaaDoor
