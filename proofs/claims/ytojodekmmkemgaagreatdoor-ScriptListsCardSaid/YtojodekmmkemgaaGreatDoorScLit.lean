/- Whether a statement looks at a list of operations. Condition: sizes as a machine's integers can say. -/
import Derived.Test.YtojodekmmkemgaaGreatDoorScWeak
import Derived.Test.YtojodekmmkemgaaGreatDoorScRep
namespace Go.Proofs.YtojodekmmkemgaaGreatDoor
open Go.RowKit Go.Shelf

/-- What light answers. -/
def LitO (most : Nat) (l : List Oq) (e : Ending) : Prop := ∃ q, e = .returned (.bool q) ∧ (q = true → l.length ≤ most ∧ ∀ x ∈ l, x.n ≤ 20)
def stepL (p : Sp) : List Value := [.string p.k, .int .i64 p.v]
set_option maxRecDepth 100000 in
set_option maxHeartbeats 8000000 in
theorem light_any (most : Nat) (A : Option Addr) (n c : Nat) (l : List Oq) (w : World) (hs : SlOw w A l) (hn : l.length = n) (hnc : n ≤ c) (hbg : n ≤ 9223372036854775807) (hmost : most ≤ 1000) :
    Calls Tryz.prog 21 #[.int .i64 (most : Int), .slice A n c] w fun e w' => LitO most l e ∧ Below w.heap.size w w' := by
  have HS := Lib.hid hs
  obtain ⟨k, hk⟩ : ∃ k : Nat, k = min n most := ⟨_, rfl⟩
  have hkn : k ≤ n := by omega
  have hk1 : k ≤ 1000 := by omega
  have hkc : k ≤ c := by omega
  have hmin : min (n : Int) (most : Int) = (k : Int) := by omega
  have HK := Lib.hid hk
  have hcut := fun W => cut_toO A k n c (by omega) W
  have HL := Lib.hid hn
  have HM := Lib.hid hmost
  clear hs hk hn hmost
  go_enter Tryz.func21, Tryz.ntmps21
  go_wp2_with fail
  clear hcut
  go_loopw [5, 17] (fun s5 i wr => ∃ (j : Nat) (z : Int), j ≤ k ∧ i = .int .i64 j ∧ s5 = .int .i64 z ∧ Hid (Below w.heap.size w wr) ∧ Hid (∀ i q, i < j → l[i]? = some q → q.n ≤ 20)) (fun _ i _ => k - (intOf i).toNat)
  case atStart => exact ⟨0, _, by omega, rfl, rfl, Lib.hid (Below.refl _ _), Lib.hid (fun i q h => absurd h (Nat.not_lt_zero _))⟩
  case round =>
    obtain ⟨j, z, hj, rfl, rfl, HB, HQ⟩ := hrel
    by_cases hjk : j < k
    · obtain ⟨⟨qo, qA, qn, qm⟩, hq⟩ : ∃ q, l[j]? = some q := ⟨_, List.getElem?_eq_getElem (by rw [HL.out]; omega)⟩
      obtain ⟨g, o, rfl, hr, hwk⟩ := (HS.out.keep HB.out) j _ hq
      dsimp only at hwk
      have HP := Lib.hid hq
      have HR := Lib.hid hr
      have BX : Hid (Below w.heap.size w (wr.alloc (.cells (oA qo qA qn qm) 34))) := Lib.hid (HB.out.alloc HB.out.size _)
      have WK := Lib.hid (hwk.keep ((Below.refl _ wr).alloc (Nat.le_refl _) (.cells (oA qo qA qn qm) 34)))
      have RW : Hid (Whole (wr.alloc (.cells (oA qo qA qn qm) 34)) wr.heap.size 34 (oA qo qA qn qm)) := Lib.hid (Whole.new wr _ _)
      have h1 := hwk.z.key
      have h2 := hwk.z.f
      have h3 := hwk.z.t
      have h4 := hwk.dz.n
      have hqb := hwk.big
      have hj0 : (0 : Int) ≤ (j : Int) := by omega
      have hjk' : (j : Int) < (k : Int) := by omega
      have hwj : IntKind.i64.wrap ((j : Int) + 1) = (j : Int) + 1 := IntWalk.i64_in _ (by omega)
      clear hq hr hwk hmin
      go_upto_region 5 with (first
        | (refine wpList_load_mid rfl 34 (.tmp 19) rfl g (o + j * 10) rfl (qL ⟨qo, qA, qn, qm⟩) _ HR.out Tryz.underlying34 rfl (infoq ⟨qo, qA, qn, qm⟩) ?_)
        | (refine wpList_store_row rfl 34 (.tmp 7) (.tmp 20) rfl _ (oA qo qA qn qm) rfl rfl 34 _ (heap_alloc_new _ _) (info10 _ _ _ _) rfl (all10 _ _ _ _) ?_; rw [World.setRow_alloc_new]))
      generalize wr.alloc (.cells (oA qo qA qn qm) 34) = w3 at BX WK RW ⊢
      generalize wr.heap.size = X at RW ⊢
      have y3 : w3.cell? ⟨X, 3, none⟩ = some (.string qo.key) := RW.out.cell 3
      have y4 : w3.cell? ⟨X, 4, none⟩ = some (.string qo.f) := RW.out.cell 4
      have y5 : w3.cell? ⟨X, 5, none⟩ = some (.string qo.t) := RW.out.cell 5
      have y6 : w3.cell? ⟨X, 6, none⟩ = some (.string qo.d.n) := RW.out.cell 6
      go_upto_region 6 with fail
      clear y3 y4 y5 y6
      have y9 : w3.cell? ⟨X, 9, none⟩ = some (.slice qA qn qm) := RW.out.cell 9
      obtain ⟨kk, hkk⟩ : ∃ kk : Nat, kk = min qn 21 := ⟨_, rfl⟩
      have hkk1 : kk ≤ 21 := by omega
      have hkkn : kk ≤ qn := by omega
      have hkkm : kk ≤ qm := by have := WK.out.cap; omega
      have hmin : min (qn : Int) 21 = (kk : Int) := by omega
      have hcut := fun W => cut_steps qA qn qm kk hkkm W
      clear hkk
      go_wp2_with fail
      clear hcut hmin y9
      go_loopw [5, 51] (fun s5 i wz => ∃ (j2 : Nat) (z : Int), j2 ≤ kk ∧ i = .int .i64 j2 ∧ s5 = .int .i64 z ∧ Hid (Below w3.heap.size w3 wz)) (fun _ i _ => kk - (intOf i).toNat)
      case atStart => exact ⟨0, _, by omega, rfl, rfl, Lib.hid (Below.refl _ _)⟩
      case round =>
        obtain ⟨j2, z2, hj2, rfl, rfl, HB2⟩ := hrel
        by_cases hjk2 : j2 < kk
        · obtain ⟨p, hp⟩ : ∃ p, qo.d.s[j2]? = some p := ⟨_, List.getElem?_eq_getElem (by rw [WK.out.len]; omega)⟩
          obtain ⟨g2, o2, rfl, x0, x1⟩ := (WK.out.sl.keep HB2.out) j2 p hp
          have BA := Lib.hid (HB2.out.trans (((Below.refl _ wr).alloc (Nat.le_refl _) (.cells #[.string p.k, .int .i64 p.v] 71)).mono HB2.out.size))
          have NA := Whole.new wr 71 #[.string p.k, .int .i64 p.v]
          have p0 := NA.cell 0
          simp only [List.getElem?_toArray, List.getElem?_cons_zero] at p0
          have hz := (WK.out.dz.s j2 p hp).1
          have hj20 : (0 : Int) ≤ (j2 : Int) := by omega
          have hjk2' : (j2 : Int) < (kk : Int) := by omega
          have hwj2 : IntKind.i64.wrap ((j2 : Int) + 1) = (j2 : Int) + 1 := IntWalk.i64_in _ (by omega)
          clear hp NA hwj hj0 hjk'
          go_wp2_with fail
          go_roundw
          case rel => exact ⟨j2 + 1, _, by omega, by go_num, rfl, BA⟩
          case measure => simp [intOf]; omega
        · obtain rfl : j2 = kk := by omega
          have hjn : ¬ ((j2 : Int) < (j2 : Int)) := by omega
          have y9 : wr.cell? ⟨X, 9, none⟩ = some (.slice qA qn qm) := (RW.out.keep HB2.out).cell 9
          have BF := Lib.hid (BX.out.trans (HB2.out.mono BX.out.size))
          by_cases hn : qn ≤ 20
          · have hn' : ¬ ((20 : Int) < (qn : Int)) := by omega
            have HQ2 : Hid (∀ i q, i < j + 1 → l[i]? = some q → q.n ≤ 20) := Lib.hid (fun i q h he => by
              by_cases e : i = j
              · subst e
                rw [HP.out] at he
                cases he
                exact hn
              · exact HQ.out i q (by omega) he)
            clear hn HP HQ
            go_wp2_with fail
            go_roundw
            case rel => exact ⟨j + 1, _, by omega, by go_num, rfl, BF, HQ2⟩
            case measure => simp [intOf]; omega
          · have hn' : (20 : Int) < (qn : Int) := by omega
            clear hn
            go_wp2_with fail
            go_ret
            unfold LitO
            exact ⟨⟨false, rfl, fun e => by cases e⟩, BF.out⟩
    · obtain rfl : j = k := by omega
      have hjn : ¬ ((j : Int) < (j : Int)) := by omega
      by_cases hn : n ≤ most
      · have hn' : (n : Int) ≤ (most : Int) := by omega
        have HN : Hid (l.length ≤ most ∧ ∀ x ∈ l, x.n ≤ 20) := Lib.hid ⟨by rw [HL.out]; exact hn, fun x hx => by
          obtain ⟨i, hi⟩ := List.getElem?_of_mem hx
          exact HQ.out i x (by have := (List.getElem?_eq_some_iff.1 hi).1; have := HK.out; have := HL.out; omega) hi⟩
        clear hn hmin hkn hkc hk1
        by_cases hz : z ≤ 100000
        all_goals
          go_wp2_with fail
          go_ret
          unfold LitO
          exact ⟨⟨_, rfl, fun _ => HN.out⟩, HB.out⟩
      · have hn' : ¬ ((n : Int) ≤ (most : Int)) := by omega
        clear hn hmin hkn hkc hk1
        go_wp2_with fail
        go_ret
        unfold LitO
        exact ⟨⟨_, rfl, fun e => by cases e⟩, HB.out⟩
end Go.Proofs.YtojodekmmkemgaaGreatDoor
