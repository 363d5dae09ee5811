/- The examples of the chapter hold: works returns true; lists of ranges compared; memory that lay stays. Condition: the types' shapes lie as the program's start lays them. -/
import Derived.Test.YthngliafkhalfaaDoorCover
import Derived.Test.YthngliafkhalfaaDoorRParse
import Derived.Handy
import Derived.Deep.RegionHeld3
namespace Go.Proofs.YthngliafkhalfaaDoor
open Go.RowKit

set_option maxRecDepth 100000 in
set_option maxHeartbeats 4000000 in
theorem same_any (v v' : Value) (ps : List (ByteArray × ByteArray)) (w : World) (hl : ps.length ≤ 1000000) (h : OutR w v ps) (h' : OutR w v' ps) :
    Calls Tryd.prog 26 #[v, v'] w fun e w' => e = .returned (.bool true) ∧ Below w.heap.size w w' := by
  have mixed : Tryd.prog.follows Departure.mixedOrders = true := by kernel_rfl
  rcases h with ⟨rfl, rfl⟩ | ⟨h0, g, cap, rfl, hc⟩
  · rcases h' with ⟨_, rfl⟩ | ⟨h0, _⟩
    · go_enter Tryd.func26, Tryd.ntmps26
      go_wp2
      go_rounds 1
      go_ret
      exact ⟨rfl, Below.refl _ _⟩
    · exact absurd rfl h0
  · rcases h' with ⟨h1, _⟩ | ⟨_, g', cap', rfl, hc'⟩
    · exact absurd h1 h0
    have HC := Lib.hid hc
    have HC' := Lib.hid hc'
    have N1 := fun a b W => ne_self a b W
    have hlen : Hid (ps.length = ps.length) := Lib.hid rfl
    generalize hn : ps.length = n at hl hlen ⊢
    have HN := Lib.hid hn
    clear hc hc' hn h0
    go_enter Tryd.func26, Tryd.ntmps26
    go_wp2_with fail
    go_loopw [5] (fun v wr => Below w.heap.size w wr ∧ ∃ k : Nat, k ≤ n ∧ v = .int .i64 k) (fun v _ => n - (intOf v).toNat)
    case atStart => exact ⟨Below.refl _ _, 0, Nat.zero_le _, rfl⟩
    case round =>
      obtain ⟨b2, k, hk, rfl⟩ := hrel
      by_cases hlt : k < n
      · have hg : ps[k]? = some (ps[k]'(by rw [HN.out]; exact hlt)) := List.getElem?_eq_getElem _
        obtain ⟨c0, c1⟩ := HC.out k _ hg
        obtain ⟨c2, c3⟩ := HC'.out k _ hg
        generalize ps[k]'(by rw [HN.out]; exact hlt) = p at c0 c1 c2 c3
        obtain ⟨x, y⟩ := p
        have d0 := (b2.cell (lt_of_cellR c0)).trans c0
        have d1 := (b2.cell (lt_of_cellR c1)).trans c1
        have d2 := (b2.cell (lt_of_cellR c2)).trans c2
        have d3 := (b2.cell (lt_of_cellR c3)).trans c3
        simp only [Nat.zero_add] at d0 d1 d2 d3
        have N := N1 x y
        clear c0 c1 c2 c3 hg HC HC' N1
        go_wp2_with fail
        go_quiet_o (fail)
        go_wp2_with fail
        go_roundw
        case rel => exact ⟨b_drewN b2 _, k + 1, by omega, by go_num⟩
        case measure => simp [intOf]; omega
      · go_wp2_with fail
        go_ret
        exact ⟨rfl, b2⟩

theorem w_meet (W : World) : Calls Tryd.prog 13 #[.agg #[.string ⟨#[97]⟩, .string ⟨#[109]⟩], .agg #[.string ⟨#[107]⟩, .string ⟨#[]⟩]] W fun e w' => e = .returned (.tuple #[.agg #[.string ⟨#[107]⟩, .string ⟨#[109]⟩], .bool true, .int .i64 0]) ∧ Below W.heap.size W w' := by
  have h := meet_any ⟨#[97]⟩ ⟨#[109]⟩ ⟨#[107]⟩ ⟨#[]⟩ W (by decide) (by decide) (by decide) (by decide)
  have e1 : maxS ⟨#[97]⟩ ⟨#[107]⟩ = ⟨#[107]⟩ := by simp only [maxS, ByteArray.toList_eq]; rfl
  have e2 : minE ⟨#[109]⟩ ⟨#[]⟩ = ⟨#[109]⟩ := by simp only [minE, endLt, ByteArray.toList_eq]; rfl
  have e3 : okR ⟨#[97]⟩ ⟨#[109]⟩ = true := by simp only [okR, okS, ByteArray.toList_eq]; rfl
  have e4 : okR ⟨#[107]⟩ ⟨#[]⟩ = true := by simp only [okR, okS, ByteArray.toList_eq]; rfl
  have e5 : okR ⟨#[107]⟩ ⟨#[109]⟩ = true := by simp only [okR, okS, ByteArray.toList_eq]; rfl
  rw [e1, e2, e3, e4, e5] at h
  exact h
theorem w_without (W : World) : Calls Tryd.prog 14 #[.agg #[.string ⟨#[]⟩, .string ⟨#[]⟩], .agg #[.string ⟨#[99]⟩, .string ⟨#[102]⟩]] W fun e w' => ∃ v, e = .returned (.tuple #[v, .int .i64 0]) ∧ OutR w' v [(⟨#[]⟩, ⟨#[99]⟩), (⟨#[102]⟩, ⟨#[]⟩)] ∧ Below W.heap.size W w' := by
  have h := without_any ⟨#[]⟩ ⟨#[]⟩ ⟨#[99]⟩ ⟨#[102]⟩ W (by decide) (by decide) (by decide) (by decide)
  have e3 : okR ⟨#[]⟩ ⟨#[]⟩ = true := okR_nil
  have e4 : okR ⟨#[99]⟩ ⟨#[102]⟩ = true := by simp only [okR, okS, ByteArray.toList_eq]; rfl
  have e5 : outL ⟨#[]⟩ ⟨#[]⟩ ⟨#[99]⟩ ⟨#[102]⟩ = [(⟨#[]⟩, ⟨#[99]⟩), (⟨#[102]⟩, ⟨#[]⟩)] := by simp only [outL, minE, maxS, endLt, ByteArray.toList_eq]; rfl
  rw [e3, e4, e5] at h
  exact h
theorem w_parse (W : World) (hsh : W.ShapedOpen Tryd.prog) : Calls Tryd.prog 20 #[.string ⟨#[91, 98, 44, 97, 41]⟩] W fun e w' => e = .returned (.tuple #[.agg #[.string ⟨#[]⟩, .string ⟨#[]⟩], .int .i64 10]) ∧ Below W.heap.size W w' := by
  have h := parse_any ⟨#[91, 98, 44, 97, 41]⟩ W (by decide) hsh
  have e1 : isTxt (⟨#[91, 98, 44, 97, 41]⟩ : ByteArray).data.toList = false := by simp only [isTxt, okR, okS, ByteArray.toList_eq]; decide +kernel
  unfold parseV at h
  rw [e1] at h
  exact h
theorem w_has (W : World) : Calls Tryd.prog 16 #[.agg #[.string ⟨#[97]⟩, .string ⟨#[109]⟩], .string ⟨#[108, 122, 122]⟩] W fun e w' => e = .returned (.bool true) ∧ Below W.heap.size W w' := by
  have h := has_any ⟨#[97]⟩ ⟨#[109]⟩ ⟨#[108, 122, 122]⟩ W (by decide) (by decide) (by decide)
  have e1 : hasR ⟨#[97]⟩ ⟨#[109]⟩ ⟨#[108, 122, 122]⟩ = true := by simp only [hasR, okR, okS, endLt, ByteArray.toList_eq]; rfl
  rw [e1] at h
  exact h

set_option maxRecDepth 100000 in
set_option maxHeartbeats 4000000 in
theorem works_any (w : World) (hsh : w.ShapedOpen Tryd.prog) :
    Calls Tryd.prog 12 #[] w fun e w' => e = .returned (.bool true) ∧ Below w.heap.size w w' := by
  have HS := Lib.hid hsh
  have N1 := fun a b c d W => rng_eq a b c d W
  clear hsh
  go_enter Tryd.func12, Tryd.ntmps12
  go_wp2_with fail
  refine (w_meet _).mono ?_
  rintro e w1 ⟨rfl, hb1⟩
  have b1 := hb1.alloc hb1.size (.cells #[.string ⟨#[107]⟩, .string ⟨#[109]⟩] 23)
  have r1 := Whole.new w1 23 #[.string ⟨#[107]⟩, .string ⟨#[109]⟩]
  clear hb1
  go_wp2_with fail
  refine (w_without _).mono ?_
  rintro e w2 ⟨v, rfl, ho2, hb2⟩
  have r2 := (r1.below hb2 r1.lt).alloc (.cells #[.string ⟨#[109]⟩, .string ⟨#[]⟩, .string ⟨#[]⟩, .string ⟨#[99]⟩, .string ⟨#[99]⟩, .string ⟨#[109]⟩] 23)
  have o2 := ho2.below ((Below.refl _ _).alloc (Nat.le_refl _) (.cells #[.string ⟨#[109]⟩, .string ⟨#[]⟩, .string ⟨#[]⟩, .string ⟨#[99]⟩, .string ⟨#[99]⟩, .string ⟨#[109]⟩] 23))
  have l2 := Whole.new w2 23 #[.string ⟨#[109]⟩, .string ⟨#[]⟩, .string ⟨#[]⟩, .string ⟨#[99]⟩, .string ⟨#[99]⟩, .string ⟨#[109]⟩]
  have b2' := b1.trans (hb2.mono b1.size)
  have b2 := b2'.alloc b2'.size (.cells #[.string ⟨#[109]⟩, .string ⟨#[]⟩, .string ⟨#[]⟩, .string ⟨#[99]⟩, .string ⟨#[99]⟩, .string ⟨#[109]⟩] 23)
  have hc : CellsR (w2.alloc (.cells #[.string ⟨#[109]⟩, .string ⟨#[]⟩, .string ⟨#[]⟩, .string ⟨#[99]⟩, .string ⟨#[99]⟩, .string ⟨#[109]⟩] 23)) w2.heap.size 0 cov0 := fun i p hi => by
    match i with
    | 0 => cases hi; exact ⟨l2.cell 0, l2.cell 1⟩
    | 1 => cases hi; exact ⟨l2.cell 2, l2.cell 3⟩
    | 2 => cases hi; exact ⟨l2.cell 4, l2.cell 5⟩
    | i + 3 => cases hi
  have C := w_cover _ _ hc
  clear r1 ho2 hb2 b1 b2' l2 hc
  go_wp2_with fail
  refine C.mono ?_
  rintro e w3 ⟨rfl, hb3⟩
  have r3 := r2.below hb3 r2.lt
  have o3 := o2.below hb3
  have b3 := b2.trans (hb3.mono b2.size)
  have S3 := shaped_below HS.out b3
  clear C r2 o2 b2 hb3
  go_wp2_with fail
  refine (w_parse _ S3).mono ?_
  rintro e w4 ⟨rfl, hb4⟩
  have r4 := (r3.below hb4 r3.lt).alloc (.cells #[.string ⟨#[]⟩, .string ⟨#[]⟩] 23)
  have o4 := (o3.below hb4).below ((Below.refl _ _).alloc (Nat.le_refl _) (.cells #[.string ⟨#[]⟩, .string ⟨#[]⟩] 23))
  have b4' := b3.trans (hb4.mono b3.size)
  have b4 := b4'.alloc b4'.size (.cells #[.string ⟨#[]⟩, .string ⟨#[]⟩] 23)
  have x0 := r4.cell 0
  have x1 := r4.cell 1
  simp only [List.getElem?_toArray, List.getElem?_cons_succ, List.getElem?_cons_zero] at x0 x1
  have q1 := fun W => N1 ⟨#[107]⟩ ⟨#[109]⟩ ⟨#[107]⟩ ⟨#[109]⟩ W
  simp only [ByteArray.toList_eq, beq_self_eq_true, Bool.and_self] at q1
  clear r3 o3 b3 b4' hb4 S3 N1 r4
  go_wp2_with fail
  have l5 := Whole.new (w4.alloc (.cells #[.string ⟨#[]⟩, .string ⟨#[]⟩] 23)) 23 #[.string ⟨#[]⟩, .string ⟨#[99]⟩, .string ⟨#[102]⟩, .string ⟨#[]⟩]
  have o5 := o4.below ((Below.refl _ _).alloc (Nat.le_refl _) (.cells #[.string ⟨#[]⟩, .string ⟨#[99]⟩, .string ⟨#[102]⟩, .string ⟨#[]⟩] 23))
  have b5 := b4.alloc b4.size (.cells #[.string ⟨#[]⟩, .string ⟨#[99]⟩, .string ⟨#[102]⟩, .string ⟨#[]⟩] 23)
  rw [World.size_alloc] at l5
  have m5 : OutR ((w4.alloc (.cells #[.string ⟨#[]⟩, .string ⟨#[]⟩] 23)).alloc (.cells #[.string ⟨#[]⟩, .string ⟨#[99]⟩, .string ⟨#[102]⟩, .string ⟨#[]⟩] 23)) (.slice (some ⟨w4.heap.size + 1, 0, none⟩) 2 2) [(⟨#[]⟩, ⟨#[99]⟩), (⟨#[102]⟩, ⟨#[]⟩)] :=
    Or.inr ⟨by simp, _, 2, rfl, fun i p hi => by
      match i with
      | 0 => cases hi; exact ⟨l5.cell 0, l5.cell 1⟩
      | 1 => cases hi; exact ⟨l5.cell 2, l5.cell 3⟩
      | i + 2 => cases hi⟩
  refine (same_any v _ _ _ (by decide) o5 m5).mono ?_
  rintro e w5 ⟨rfl, hb5⟩
  have b6 := b5.trans (hb5.mono b5.size)
  clear l5 o5 b5 m5 o4 b4 x0 x1 q1 hb5
  go_wp2_with fail
  refine (w_has _).mono ?_
  rintro e w6 ⟨rfl, hb6⟩
  go_wp2_with fail
  go_ret
  exact ⟨rfl, b6.trans (hb6.mono b6.size)⟩
end Go.Proofs.YthngliafkhalfaaDoor
