/- Equal lists of operations are found the same; a list of operations is cloned. Condition: at most 10^6 operations. -/
import Derived.Test.YtojodekmmkemgaaGreatDoorScRep
import Derived.Test.YtojodekmmkemgaaGreatDoorScPl
import Derived.Test.YtojodekmmkemgaaGreatDoorShelfG
import Derived.Shelf.SlicesE.Clone
namespace Go.Proofs.YtojodekmmkemgaaGreatDoor
open Go.RowKit Go.Shelf

theorem oclone_any (g N c : Nat) (l : List Oq) (w : World) (hs : SlO w (some ⟨g, 0, none⟩) l) (hn : l.length = N) (hN : N ≤ 1000000) :
    Calls Tryz.prog 32 #[.slice (some ⟨g, 0, none⟩) N c] w fun e w' => (∃ A c', e = .returned (.slice A N c') ∧ SlO w' A l) ∧ Below w.heap.size w w' := by
  obtain ⟨i0, hi, hz0, hz1, hz2⟩ := info_parts infoOpR
  refine (AnyE.slices_Clone Tryz.cloneO i0 (.agg (oA (zeroO 0 0) none 0 0)) 10 128 hi hz0 hz1 hz2 rfl (by decide) Tryz.sizeOf34 g 0 N c (l.flatMap qL) w (by rw [flat_len, hn]) (by unfold maxLen; omega) (by omega) (fun j u h => slO_cells hs j u h) flat_one).mono ?_
  rintro e w' ⟨v', rfl, hown, _, hb⟩
  obtain ⟨A, c', rfl, hc⟩ := own_slice2 hown
  refine ⟨⟨A, c', rfl, slO_own hown hn (fun q hq => ?_)⟩, hb⟩
  obtain ⟨i, hi⟩ := List.getElem?_of_mem hq
  obtain ⟨_, _, _, _, hin⟩ := hs i q hi
  exact hin.keep hb
theorem rsame_b (o : Ov) (A A' : Option Addr) (n n' m m' : Nat) (w : World) (h : OpIn w o A n m) (h' : OpIn w o A' n' m') :
    Calls Tryz.prog 27 #[.agg (oA o A n m), .agg (oA o A' n' m')] w fun e w' => e = .returned (.bool true) ∧ Below w.heap.size w w' :=
  (roequal_any o o A A' n n' m m' w h h').mono (fun e w' ⟨⟨b, he, hb⟩, hw⟩ => ⟨by rw [he, hb.2 rfl], hw⟩)
set_option maxRecDepth 100000 in
set_option maxHeartbeats 8000000 in
theorem eqFunc_any (A A' : Option Addr) (n c c' : Nat) (l l' : List Oq) (w : World) (hs : SlO w A l) (hs' : SlO w A' l') (hn : l.length = n) (he : l.map (·.o) = l'.map (·.o)) (hN : n ≤ 1000000) :
    Calls Tryz.prog 45 #[.slice A n c, .slice A' n c', .func (.func 27) #[] #[]] w fun e w' => e = .returned (.bool true) ∧ Below w.heap.size w w' := by
  have HS := Lib.hid hs
  have HS2 := Lib.hid hs'
  have HN := Lib.hid hn
  have HE := Lib.hid he
  have HN2 : Hid (l'.length = n) := Lib.hid (by have := congrArg List.length he; rw [List.length_map, List.length_map] at this; omega)
  clear hs hs' hn he
  go_enter Tryz.func45, Tryz.ntmps45
  go_wp2_with fail
  go_loopw [17] (fun i wr => ∃ k : Nat, k ≤ n ∧ i = .int .i64 k ∧ Hid (Below w.heap.size w wr)) (fun i _ => n - (intOf i).toNat)
  case atStart => exact ⟨0, Nat.zero_le _, rfl, Lib.hid (Below.refl _ _)⟩
  case round =>
    obtain ⟨k, hk', rfl, HB⟩ := hrel
    by_cases hlt : k < n
    · obtain ⟨⟨qo, qA, qn, qm⟩, hq⟩ : ∃ q, l[k]? = some q := ⟨_, List.getElem?_eq_getElem (by rw [HN.out]; exact hlt)⟩
      obtain ⟨⟨po, pA, pn, pm⟩, hp⟩ : ∃ q, l'[k]? = some q := ⟨_, List.getElem?_eq_getElem (by rw [HN2.out]; exact hlt)⟩
      have hpo : qo = po := by
        have := congrArg (·[k]?) HE.out
        simp only [List.getElem?_map, hq, hp, Option.map_some] at this
        exact Option.some.inj this
      subst hpo
      obtain ⟨g, o, rfl, hr, hi⟩ := (HS.out.keep HB.out) k _ hq
      obtain ⟨g', o', rfl, hr', hi'⟩ := (HS2.out.keep HB.out) k _ hp
      dsimp only at hi hi'
      have b1 := (Below.refl wr.heap.size wr).alloc (Nat.le_refl _) (.cells (oA qo qA qn qm) 34)
      have HR := Lib.hid hr
      have I1 := Lib.hid (And.intro (HB.out.trans (b1.mono HB.out.size)) (And.intro (Whole.new wr 34 (oA qo qA qn qm)) (And.intro (range_keep hr' b1) (And.intro (hi.keep b1) (hi'.keep b1)))))
      have hltI : (k : Int) < (n : Int) := by omega
      have hwk : IntKind.i64.wrap ((k : Int) + 1) = (k : Int) + 1 := IntWalk.i64_in _ (by omega)
      clear hq hp hr hr' hi hi' b1
      go_upto_region 6 with (first
        | (refine wpList_load_mid rfl 34 (.tmp 20) rfl g (o + k * 10) rfl (qL ⟨qo, qA, qn, qm⟩) _ HR.out Tryz.underlying34 rfl (infoq ⟨qo, qA, qn, qm⟩) ?_)
        | (refine wpList_store_row rfl 34 (.tmp 8) (.tmp 21) rfl _ (oA qo qA qn qm) rfl rfl 34 _ (heap_alloc_new _ _) (info10 _ _ _ _) rfl (all10 _ _ _ _) ?_; rw [World.setRow_alloc_new]))
      generalize wr.alloc (.cells (oA qo qA qn qm) 34) = w2 at I1 ⊢
      generalize wr.heap.size = X at I1 ⊢
      have b2 := (Below.refl w2.heap.size w2).alloc (Nat.le_refl _) (.cells (oA qo pA pn pm) 34)
      have HR2 := Lib.hid I1.out.2.2.1
      have I2 := Lib.hid (And.intro (I1.out.1.trans (b2.mono I1.out.1.size)) (And.intro (I1.out.2.1.keep b2) (And.intro (Whole.new w2 34 (oA qo pA pn pm)) (And.intro (I1.out.2.2.2.1.keep b2) (I1.out.2.2.2.2.keep b2)))))
      clear b2 I1
      go_upto_region 7 with (first
        | (refine wpList_load_mid rfl 34 (.tmp 24) rfl g' (o' + k * 10) rfl (qL ⟨qo, pA, pn, pm⟩) _ HR2.out Tryz.underlying34 rfl (infoq ⟨qo, pA, pn, pm⟩) ?_)
        | (refine wpList_store_row rfl 34 (.tmp 9) (.tmp 25) rfl _ (oA qo pA pn pm) rfl rfl 34 _ (heap_alloc_new _ _) (info10 _ _ _ _) rfl (all10 _ _ _ _) ?_; rw [World.setRow_alloc_new]))
      generalize w2.alloc (.cells (oA qo pA pn pm) 34) = w3 at I2 ⊢
      generalize w2.heap.size = Y at I2 ⊢
      have F1 := Lib.hid (rsame_b qo qA pA qn pn qm pm w3 I2.out.2.2.2.1 I2.out.2.2.2.2)
      have BX := Lib.hid I2.out.1
      go_wp2_with (first
        | (refine wpList_load_row (by rfl) 34 (.tmp 8) (by rfl) _ (by rfl) 34 (oA qo qA qn qm) (0, 0) _ I2.out.2.1 Tryz.underlying34 (by rfl) (info10 _ _ _ _) ?_)
        | (refine wpList_load_row (by rfl) 34 (.tmp 9) (by rfl) _ (by rfl) 34 (oA qo pA pn pm) (0, 0) _ I2.out.2.2.1 Tryz.underlying34 (by rfl) (info10 _ _ _ _) ?_))
      refine F1.out.mono ?_
      rintro e1 w1 ⟨rfl, hb⟩
      have BF := Lib.hid (BX.out.trans (hb.mono BX.out.size))
      clear hb
      go_wp2_with fail
      go_roundw
      case rel => exact ⟨k + 1, by omega, by go_num, BF⟩
      case measure => simp [intOf]; omega
    · obtain rfl : k = n := by omega
      have hnlt : ¬ ((k : Int) < (k : Int)) := by omega
      go_wp2_with fail
      go_ret
      exact ⟨rfl, HB.out⟩
set_option maxRecDepth 100000 in
set_option maxHeartbeats 4000000 in
theorem same_any (A A' : Option Addr) (n c c' : Nat) (l l' : List Oq) (w : World) (hs : SlO w A l) (hs' : SlO w A' l') (hn : l.length = n) (he : l.map (·.o) = l'.map (·.o)) (hN : n ≤ 1000000) :
    Calls Tryz.prog 14 #[.slice A n c, .slice A' n c'] w fun e w' => e = .returned (.bool true) ∧ Below w.heap.size w w' := by
  have E := Lib.hid (eqFunc_any A A' n c c' l l' w hs hs' hn he hN)
  clear hs hs' hn he hN
  go_enter Tryz.func14, Tryz.ntmps14
  go_wp2_with (go_at_call 45; refine E.out.mono ?_; rintro e w1 ⟨rfl, hb⟩)
  go_ret
  exact ⟨rfl, hb⟩
end Go.Proofs.YtojodekmmkemgaaGreatDoor
