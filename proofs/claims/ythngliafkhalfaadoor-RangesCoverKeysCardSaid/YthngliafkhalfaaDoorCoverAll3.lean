/- What Cover returns at every list of allowed ranges whose beginnings are distinct; memory that lay stays. Conditions: no more than 64 ranges, no text longer than an int can say; what the sort lays (proved in CoverSort). -/
import Derived.Test.YthngliafkhalfaaDoorCoverAll2
namespace Go.Proofs.YthngliafkhalfaaDoor
open Go.RowKit Go.Sort

def SortAll : Prop := ∀ (g cap : Nat) (d : Array LR) (w : World), HoldsK encR 2 w g 0 d → g < w.heap.size → d.size ≤ 64 →
    Calls Tryd.prog 34 #[.slice (some ⟨g, 0, none⟩) d.size cap, .func (.func 35) #[] #[]] w fun e w' => e = .returned (.tuple #[]) ∧ ∃ d' n os, PermIn 0 d.size d d' ∧ SortedIn (ltOf cfR) 0 d.size d' ∧ w' = sortWorldK encR 2 w g 0 n d' os

theorem holds_of_own {w : World} {B g cap n : Nat} {d : List LR} (h : w.ownsRow B 23 2 (.slice (some ⟨g, 0, none⟩) n cap) n (flatR d)) (hn : d.length = n) : HoldsK encR 2 w g 0 d.toArray := fun j hj => by
  have h2 : j < d.toArray.size * 2 := by simpa [flatK] using hj
  have h3 : j < d.length * 2 := by simpa using h2
  rw [Nat.zero_add]
  refine ⟨?_, h.frozenAt j⟩
  rw [h.cellAt j (by omega), flatR_get d j h3, show (flatK encR 2 d.toArray)[j]! = (encR d.toArray[j / 2]!)[j % 2]! from get_flatK _ _ _ j h2]
  rfl
theorem flatR_one (d : List LR) : ∀ u ∈ flatR d, u.oneCell' = true := fun u hu => by
  unfold flatR at hu
  obtain ⟨p, _, hp⟩ := List.mem_flatMap.1 hu
  simp [encR] at hp
  rcases hp with rfl | rfl <;> rfl

set_option maxRecDepth 100000 in
set_option maxHeartbeats 4000000 in
theorem cover_all (HSORT : SortAll) (b o n cap : Nat) (d s : List LR) (w : World) (hn : d.length = n) (hn64 : n ≤ 64) (hc : CellsR w b o (d.map toBA)) (hok : (d.map toBA).all okP = true) (hfit : ∀ p ∈ d.map toBA, fitR p) (hs : Srt s) (hp : s.Perm d) :
    Calls Tryd.prog 17 #[.slice (some ⟨b, o, none⟩) n cap] w fun e w' => e = .returned (.tuple #[.bool (decide ((n : Int) > 0) && coverB [] s), .int .i64 0]) ∧ Below w.heap.size w w' := by
  have E := ends_any b o n cap (d.map toBA) w (by rw [List.length_map]; exact hn) (by omega) hc hfit
  rw [hok] at E
  simp only [fnV, ckI] at E
  have HC := Lib.hid hc
  have HSO := Lib.hid (fun g cap w hH hg => HSORT g cap d.toArray w hH hg (by simp; omega))
  have HN := Lib.hid hn
  have HP := Lib.hid hp
  have HSS := Lib.hid hs
  have hsn : s.length = n := by rw [hp.length_eq]; exact hn
  have HSN := Lib.hid hsn
  have hn64' : ((n : Nat) : Int) ≤ 64 := by omega
  generalize hr : coverB [] s = r
  have HR := Lib.hid hr
  clear hc hok hfit hs hp hn HSORT hsn hr
  go_enter Tryd.func17, Tryd.ntmps17
  go_wp2_with fail
  refine E.mono ?_
  rintro e w1 ⟨rfl, hb⟩
  have c1 : CellsR w1 b o (d.map toBA) := fun i p hi => ⟨(hb.cell (lt_of_cellR (HC.out i p hi).1)).trans (HC.out i p hi).1, (hb.cell (lt_of_cellR (HC.out i p hi).2)).trans (HC.out i p hi).2⟩
  have C := clone_all b o n cap (flatR d) w1 (by rw [flatR_len, HN.out]) (by omega) (cells_flat c1) (flatR_one d)
  clear c1 HC E
  go_wp2_with fail
  refine C.mono ?_
  rintro e w2 ⟨v, rfl, ho, hnil, hb2⟩
  obtain ⟨g, cap2, rfl, hg, hgs⟩ : ∃ g cap2, v = .slice (some ⟨g, 0, none⟩) n cap2 ∧ w1.heap.size ≤ g ∧ g < w2.heap.size := by
    rcases ho.2 with ⟨h, _⟩ | ⟨g, cap2, cur, h, h3, h4, _⟩
    · exact absurd h hnil
    · refine ⟨g, cap2, h, h3, ?_⟩
      rcases Nat.lt_or_ge g w2.heap.size with hlt | hge
      · exact hlt
      · rw [Array.getElem?_eq_none hge] at h4; cases h4
  have hH := holds_of_own ho HN.out
  have hbs := hb.size
  have b2 := hb.trans (hb2.mono hb.size)
  have S := HSO.out g cap2 w2 hH hgs
  rw [show d.toArray.size = n by rw [List.size_toArray]; exact HN.out] at S
  clear C ho hnil hb hb2
  go_wp2_with fail
  refine S.mono ?_
  rintro e w3 ⟨rfl, d', nn, os, hpm, hst, rfl⟩
  have hdn : d.toArray.size = n := by rw [List.size_toArray]; exact HN.out
  have hds := sorted_is (d := d.toArray) (d' := d') HSS.out (by simpa using HP.out) (by rw [hdn]; exact hpm) (by rw [hdn]; exact hst)
  have hb3 := below_sort (enc := encR) (k := 2) (off := 0) (m := nn) (dk := d') (os := os) hgs
  have hH3 := holdsK_sortWorldK_c encR 2 w2 g 0 d.toArray d' nn os hH hgs (by rw [hdn]; have := congrArg List.length hds; rw [HSN.out] at this; simpa using this)
  have c3 := Lib.hid (cells_of_holds hH3 hds)
  generalize sortWorldK encR 2 w2 g 0 nn d' os = w3 at hb3 c3 ⊢
  have b3 : Below w.heap.size w w3 := b2.trans (hb3.mono (by omega))
  clear hb3 hH3 S hH hgs b2 hpm hst hds HSO hdn
  go_wp2_with fail
  go_loopw [26, 6] (fun v at' wr => Below w.heap.size w wr ∧ Hid (CellsR wr g 0 (s.map toBA)) ∧ ∃ (k : Nat) (ab : List UInt8), k ≤ n ∧ v = .int .i64 k ∧ at' = .string ⟨ab.toArray⟩ ∧ Hid (coverB ab (s.drop k) = r)) (fun v _ _ => n - (intOf v).toNat)
  case atStart => exact ⟨b3, c3, 0, [], Nat.zero_le _, rfl, rfl, Lib.hid (by rw [List.drop_zero]; exact HR.out)⟩
  case round =>
    clear b3 c3
    obtain ⟨b4, c4, k, ab, hk, rfl, rfl, hcr⟩ := hrel
    by_cases hlt : k < n
    · have hlt' : k < s.length := by rw [HSN.out]; exact hlt
      obtain ⟨x0, x1⟩ := c4.out k (toBA s[k]) (by rw [List.getElem?_map, List.getElem?_eq_getElem hlt']; rfl)
      have hd0 := List.drop_eq_getElem_cons hlt'
      have hcr' := hcr.out
      rw [hd0] at hcr'
      have hie : (s.drop (k + 1)).isEmpty = ((k : Int) == (n : Int) - 1) := by
        rw [Bool.eq_iff_iff, List.isEmpty_iff, List.drop_eq_nil_iff, HSN.out, beq_iff_eq]
        omega
      generalize s[k] = p at x0 x1 hcr'
      obtain ⟨f, t⟩ := p
      simp only [Nat.zero_add, toBA] at x0 x1
      rw [coverB, hie] at hcr'
      dsimp only at hcr'
      have N : ∀ W : World, (binOp .neq 23 (.agg #[.string ⟨f.toArray⟩, .string ⟨t.toArray⟩]) (.agg #[.string ⟨ab.toArray⟩, .string ⟨t.toArray⟩])).run Tryd.prog W = .ok (.bool (!(f == ab))) W := fun W => by
        rw [rng_ne, ByteArray.toList_mk, ByteArray.toList_mk, ByteArray.toList_mk]
        simp
      have hT : ((⟨t.toArray⟩ : ByteArray).toList == ([] : List UInt8)) = (t == []) := by rw [ByteArray.toList_mk]
      generalize hfb : (⟨f.toArray⟩ : ByteArray) = FB at x0 N
      generalize htb : (⟨t.toArray⟩ : ByteArray) = TB at x1 N hT
      generalize hab : (⟨ab.toArray⟩ : ByteArray) = AB' at N ⊢
      have HTB := Lib.hid htb
      generalize hb1 : (f == ab) = q1 at N hcr'
      generalize hb2 : (t == []) = q2 at hT hcr'
      generalize hb3 : ((k : Int) == (n : Int) - 1) = q3 at hcr'
      have hgw : g < wr.heap.size := lt_of_cellR x0
      have bn := b4.alloc b4.size (.cells #[.string FB, .string TB] 23)
      have cn := Lib.hid (c4.out.below ((Below.refl _ _).alloc (Nat.le_refl _) (.cells #[.string FB, .string TB] 23)) (Nat.le_refl _))
      clear hfb htb hab hb1 hb2 c4 hcr b4 hie hd0
      cases q1 with
      | false =>
        obtain rfl : r = false := by rw [← hcr']; rfl
        clear hcr'
        go_wp2_with fail
        go_ret2
        exact ⟨by simp, bn⟩
      | true =>
        cases q2 <;> cases q3
        · have hc' := Lib.hid (show coverB t (s.drop (k + 1)) = r by rw [← hcr']; rfl)
          clear hcr'
          go_wp2_with fail
          go_roundw
          case rel => exact ⟨bn, cn, k + 1, t, by omega, by go_num, by rw [HTB.out], hc'⟩
          case measure => simp [intOf]; omega
        · obtain rfl : r = false := by rw [← hcr']; rfl
          clear hcr'
          go_wp2_with fail
          go_ret2
          exact ⟨by simp, bn⟩
        · obtain rfl : r = false := by rw [← hcr']; rfl
          clear hcr'
          go_wp2_with fail
          go_ret2
          exact ⟨by simp, bn⟩
        · have hc' := Lib.hid (show coverB t (s.drop (k + 1)) = r by rw [← hcr']; rfl)
          clear hcr'
          go_wp2_with fail
          go_roundw
          case rel => exact ⟨bn, cn, k + 1, t, by omega, by go_num, by rw [HTB.out], hc'⟩
          case measure => simp [intOf]; omega
    · obtain rfl : k = n := by omega
      have hre : r = true := by
        have := hcr.out
        rw [List.drop_eq_nil_iff.2 (by rw [HSN.out]; exact Nat.le_refl _)] at this
        rw [← this]; rfl
      subst hre
      clear hcr c4
      go_wp2_with fail
      go_ret2
      exact ⟨by simp, b4⟩
end Go.Proofs.YthngliafkhalfaaDoor
