/- Three ranges that are a cover: what Cover returns; memory that lay stays. No condition. -/
import Derived.Test.YthngliafkhalfaaDoorShelfG
import Derived.Test.YthngliafkhalfaaDoorLess
namespace Go.Proofs.YthngliafkhalfaaDoor
open Go.RowKit Go.Sort

abbrev LR := List UInt8 × List UInt8
def encR (p : LR) : List Value := [.string ⟨p.1.toArray⟩, .string ⟨p.2.toArray⟩]
def cmpL (x y : List UInt8) : Int := if Op.bytesLess x y then -1 else if x == y then 0 else 1
theorem cmpS_mk (x y : List UInt8) : cmpS ⟨x.toArray⟩ ⟨y.toArray⟩ = cmpL x y := by
  unfold cmpS cmpL
  rw [ByteArray.toList_mk, ByteArray.toList_mk]
def cfR (x y : LR) : Int := cmpL x.1 y.1

set_option maxHeartbeats 1000000 in
theorem coverFn (x y : LR) (W : World) : Calls Tryd.prog 35 #[.agg #[.string ⟨x.1.toArray⟩, .string ⟨x.2.toArray⟩], .agg #[.string ⟨y.1.toArray⟩, .string ⟨y.2.toArray⟩]] W fun e w' => e = .returned (.int .i64 (cfR x y)) ∧ ∃ q os', w' = grow (W.drewN q) os' := by
  have hcon := fun W' => compare_any ⟨x.1.toArray⟩ ⟨y.1.toArray⟩ W'
  rw [cmpS_mk, show cmpL x.1 y.1 = cfR x y from rfl] at hcon
  generalize cfR x y = r at hcon ⊢
  go_enter Tryd.func35, Tryd.ntmps35
  go_wp2_with (go_at_call 36; refine (hcon _).mono ?_; rintro e w' ⟨rfl, rfl⟩)
  go_ret
  exact ⟨rfl, 0, _, by rw [alloc_eq_grow, alloc_eq_grow, grow_grow]; rfl⟩
theorem hlen (n : Nat) (W : World) (h : n ≤ 12) : Calls Tryd.prog 48 #[.int .u64 n] W fun e w' => (∃ l : Int, e = .returned (.int .i64 l)) ∧ w' = W :=
  (Any.bits_Len Tryd.bitsLen n W (by omega) (by omega)).mono fun _ _ ⟨he, hw⟩ => ⟨⟨_, he⟩, hw⟩

theorem below_sort {enc : LR → List Value} {w : World} {blk off m k : Nat} {dk : Array LR} {os : Array Obj} (hg : blk < w.heap.size) : Below blk w (sortWorldK enc k w blk off m dk os) := by
  refine ⟨rfl, rfl, rfl, size_sortWorldK_c _ _ _ _ _ _ _ _, fun j hj => ?_⟩
  show ((mapBlock (Sort.ahead w m) blk _).heap ++ os)[j]? = w.heap[j]?
  rw [Array.getElem?_append_left (by show j < (w.heap.modify blk _).size; rw [Array.size_modify]; omega)]
  show (w.heap.modify blk _)[j]? = _
  rw [Array.getElem?_modify, if_neg (by omega)]
theorem sort_any (g cap : Nat) (d : Array LR) (w : World) (hH : HoldsK encR 2 w g 0 d) (hg : g < w.heap.size) (h12 : d.size ≤ 12) :
    Calls Tryd.prog 34 #[.slice (some ⟨g, 0, none⟩) d.size cap, .func (.func 35) #[] #[]] w fun e w' => e = .returned (.tuple #[]) ∧ ∃ n os, w' = sortWorldK encR 2 w g 0 n (insertionSort (ltOf cfR) d 0 d.size) os := by
  have eg : ∀ args w, (callFunc 35 args).run Tryd.prog w = .ok (.enter 35 args) w := enters_of Tryd.func35 (by kernel_rfl) rfl
  exact AnyQ.slices_SortFunc_small Tryd.sortR 2 Tryd.isAgg23 Tryd.sizeOf23 encR (fun _ => rfl) (fun x v hv => by simp [encR] at hv; rcases hv with rfl | rfl <;> rfl) cfR 35 #[] g 0 cap d w eg (fun _ _ _ _ x y => coverFn x y _) hH hg h12 hlen
theorem clone_any (b n cap : Nat) (news : List Value) (w : World) (hl : news.length = n * 2) (hn : n ≤ 1000) (hc : ∀ j u, news[j]? = some u → w.cell? ⟨b, j, none⟩ = some u) (h1 : ∀ u ∈ news, u.oneCell' = true) :
    Calls Tryd.prog 33 #[.slice (some ⟨b, 0, none⟩) n cap] w fun e w' => ∃ v', e = .returned v' ∧ w'.ownsRow w.heap.size 23 2 v' n news ∧ v' ≠ .slice none 0 0 ∧ Below w.heap.size w w' := by
  obtain ⟨i0, hi, hz0, hz1, hz2⟩ := info_parts infoR
  exact AnyE.slices_Clone Tryd.cloneR i0 (.agg #[.string ⟨#[]⟩, .string ⟨#[]⟩]) 2 32 hi hz0 hz1 hz2 rfl (by decide) Tryd.sizeOf23 b 0 n cap news w hl (by unfold maxLen; omega) (by omega) (fun j u h => by rw [Nat.zero_add]; exact hc j u h) h1

def cov0 : List (ByteArray × ByteArray) := [(⟨#[109]⟩, ⟨#[]⟩), (⟨#[]⟩, ⟨#[99]⟩), (⟨#[99]⟩, ⟨#[109]⟩)]
def covD : Array LR := #[([109], []), ([], [99]), ([99], [109])]
theorem cov_sorted : insertionSort (ltOf cfR) covD 0 covD.size = #[([], [99]), ([99], [109]), ([109], [])] := by decide +kernel
theorem cov_ok : cov0.all okP = true := by
  unfold cov0
  simp only [List.all_cons, List.all_nil, okP, okR, okS, ByteArray.toList_eq]
  decide
def Cov (w : World) (g : Nat) : Prop := w.cell? ⟨g, 0, none⟩ = some (.string ⟨#[]⟩) ∧ w.cell? ⟨g, 1, none⟩ = some (.string ⟨#[99]⟩) ∧ w.cell? ⟨g, 2, none⟩ = some (.string ⟨#[99]⟩) ∧ w.cell? ⟨g, 3, none⟩ = some (.string ⟨#[109]⟩) ∧ w.cell? ⟨g, 4, none⟩ = some (.string ⟨#[109]⟩) ∧ w.cell? ⟨g, 5, none⟩ = some (.string ⟨#[]⟩)
theorem Cov.alloc {w : World} {g : Nat} (h : Cov w g) (hg : g < w.heap.size) (o : Obj) : Cov (w.alloc o) g := by
  obtain ⟨h0, h1, h2, h3, h4, h5⟩ := h
  have hb := (Below.refl w.heap.size w).alloc (Nat.le_refl _) o
  exact ⟨(hb.cell hg).trans h0, (hb.cell hg).trans h1, (hb.cell hg).trans h2, (hb.cell hg).trans h3, (hb.cell hg).trans h4, (hb.cell hg).trans h5⟩
theorem ne_self (a b : ByteArray) (W : World) : (binOp .neq 23 (.agg #[.string a, .string b]) (.agg #[.string a, .string b])).run Tryd.prog W = .ok (.bool false) W := by
  rw [rng_ne]; simp

set_option maxRecDepth 100000 in
set_option maxHeartbeats 4000000 in
theorem w_cover (b : Nat) (w : World) (hc : CellsR w b 0 cov0) :
    Calls Tryd.prog 17 #[.slice (some ⟨b, 0, none⟩) 3 3] w fun e w' => e = .returned (.tuple #[.bool true, .int .i64 0]) ∧ Below w.heap.size w w' := by
  have E := ends_any b 0 3 3 cov0 w rfl (by decide) hc (fun p hp => by unfold cov0 at hp; simp at hp; rcases hp with rfl | rfl | rfl <;> exact ⟨by decide, by decide⟩)
  rw [cov_ok] at E
  simp only [fnV, ckI] at E
  have HC := Lib.hid hc
  have N1 := fun a b W => ne_self a b W
  clear hc
  go_enter Tryd.func17, Tryd.ntmps17
  go_wp2_with fail
  refine E.mono ?_
  rintro e w1 ⟨rfl, hb⟩
  have c1 : CellsR w1 b 0 cov0 := HC.out.below hb (Nat.le_refl _)
  have C := clone_any b 3 3 [.string ⟨#[109]⟩, .string ⟨#[]⟩, .string ⟨#[]⟩, .string ⟨#[99]⟩, .string ⟨#[99]⟩, .string ⟨#[109]⟩] w1 rfl (by decide) (fun j u hj => by
    match j with
    | 0 => cases hj; exact (c1 0 _ rfl).1
    | 1 => cases hj; exact (c1 0 _ rfl).2
    | 2 => cases hj; exact (c1 1 _ rfl).1
    | 3 => cases hj; exact (c1 1 _ rfl).2
    | 4 => cases hj; exact (c1 2 _ rfl).1
    | 5 => cases hj; exact (c1 2 _ rfl).2
    | j + 6 => cases hj) (fun u hu => by simp at hu; rcases hu with rfl | rfl | rfl | rfl | rfl | rfl <;> rfl)
  clear c1 HC E
  go_wp2_with fail
  refine C.mono ?_
  rintro e w2 ⟨v, rfl, ho, hnil, hb2⟩
  have hbs := hb.size
  obtain ⟨_, ⟨rfl, h⟩ | ⟨g, cap, cur, rfl, hg, _⟩⟩ := id ho
  · cases h
  have hgs : g < w2.heap.size := lt_of_cellR (ho.cellAt 0 (by decide) : w2.cell? ⟨g, 0, none⟩ = some _)
  have hH : HoldsK encR 2 w2 g 0 covD := fun j hj => by
    have h6 : j < 3 * 2 := by simpa [flatK, covD] using hj
    rw [Nat.zero_add]
    refine ⟨?_, ho.frozenAt j⟩
    rw [ho.cellAt j h6, show (flatK encR 2 covD)[j]! = (encR covD[j / 2]!)[j % 2]! from get_flatK _ _ _ j h6]
    match j, h6 with
    | 0, _ => rfl
    | 1, _ => rfl
    | 2, _ => rfl
    | 3, _ => rfl
    | 4, _ => rfl
    | 5, _ => rfl
  have S := sort_any g cap covD w2 hH hgs (by decide)
  rw [cov_sorted, show covD.size = 3 from rfl] at S
  have b2 := hb.trans (hb2.mono hb.size)
  clear C ho hnil hb hb2
  go_wp2_with fail
  refine S.mono ?_
  rintro e w3 ⟨rfl, nn, os, rfl⟩
  have hb3 := below_sort (enc := encR) (k := 2) (off := 0) (m := nn) (dk := #[([], [99]), ([99], [109]), ([109], [])]) (os := os) hgs
  have hH3 := holdsK_sortWorldK_c encR 2 w2 g 0 covD #[([], [99]), ([99], [109]), ([109], [])] nn os hH hgs rfl
  generalize sortWorldK encR 2 w2 g 0 nn #[([], [99]), ([99], [109]), ([109], [])] os = w3 at hb3 hH3 ⊢
  have k3 : Cov w3 g := ⟨(hH3.cell (i := 0) (c := 0) (by decide) (by decide)).1, (hH3.cell (i := 0) (c := 1) (by decide) (by decide)).1, (hH3.cell (i := 1) (c := 0) (by decide) (by decide)).1, (hH3.cell (i := 1) (c := 1) (by decide) (by decide)).1, (hH3.cell (i := 2) (c := 0) (by decide) (by decide)).1, (hH3.cell (i := 2) (c := 1) (by decide) (by decide)).1⟩
  have hg3 : g < w3.heap.size := Nat.lt_of_lt_of_le hgs hb3.size
  have b3 : Below w.heap.size w w3 := b2.trans (hb3.mono (by omega))
  clear hb3 hH3 S hH hgs b2
  go_wp2_with fail
  go_loopw [26, 6] (fun v at' wr => Below w.heap.size w wr ∧ Cov wr g ∧ g < wr.heap.size ∧ ((v = .int .i64 0 ∧ at' = .string ⟨#[]⟩) ∨ (v = .int .i64 1 ∧ at' = .string ⟨#[99]⟩) ∨ (v = .int .i64 2 ∧ at' = .string ⟨#[109]⟩) ∨ (v = .int .i64 3 ∧ at' = .string ⟨#[]⟩))) (fun v _ _ => (3 - intOf v).toNat)
  case atStart => exact ⟨b3, k3, hg3, Or.inl ⟨rfl, rfl⟩⟩
  case round =>
    clear b3 k3 hg3
    obtain ⟨b4, k4, hg4, hrel⟩ := hrel
    rcases hrel with ⟨rfl, rfl⟩ | ⟨rfl, rfl⟩ | ⟨rfl, rfl⟩ | ⟨rfl, rfl⟩
    · have x0 := k4.1
      have x1 := k4.2.1
      have bn := b4.alloc b4.size (.cells #[.string ⟨#[]⟩, .string ⟨#[99]⟩] 23)
      have kn := k4.alloc hg4 (.cells #[.string ⟨#[]⟩, .string ⟨#[99]⟩] 23)
      have N := N1 ⟨#[]⟩ ⟨#[99]⟩
      have hgn := hg4
      clear b4 k4
      go_wp2_with fail
      go_roundw
      case rel => exact ⟨bn, kn, by simp; omega, Or.inr (Or.inl ⟨rfl, rfl⟩)⟩
      case measure => simp [intOf]
    · have x0 := k4.2.2.1
      have x1 := k4.2.2.2.1
      have bn := b4.alloc b4.size (.cells #[.string ⟨#[99]⟩, .string ⟨#[109]⟩] 23)
      have kn := k4.alloc hg4 (.cells #[.string ⟨#[99]⟩, .string ⟨#[109]⟩] 23)
      have N := N1 ⟨#[99]⟩ ⟨#[109]⟩
      have hgn := hg4
      clear b4 k4
      go_wp2_with fail
      go_roundw
      case rel => exact ⟨bn, kn, by simp; omega, Or.inr (Or.inr (Or.inl ⟨rfl, rfl⟩))⟩
      case measure => simp [intOf]
    · have x0 := k4.2.2.2.2.1
      have x1 := k4.2.2.2.2.2
      have bn := b4.alloc b4.size (.cells #[.string ⟨#[109]⟩, .string ⟨#[]⟩] 23)
      have kn := k4.alloc hg4 (.cells #[.string ⟨#[109]⟩, .string ⟨#[]⟩] 23)
      have N := N1 ⟨#[109]⟩ ⟨#[]⟩
      have hgn := hg4
      clear b4 k4
      go_wp2_with fail
      go_roundw
      case rel => exact ⟨bn, kn, by simp; omega, Or.inr (Or.inr (Or.inr ⟨rfl, rfl⟩))⟩
      case measure => simp [intOf]
    · go_wp2_with fail
      go_ret2
      exact ⟨rfl, b4⟩
end Go.Proofs.YthngliafkhalfaaDoor
