/- Group, Epoch, Of and Copy of a map; lists that are compared. Condition: the map is small, texts are no longer than an int can say. -/
import Derived.Test.YtkkkppbcjmeapaaDoorPtFind
namespace Go.Proofs.YtkkkppbcjmeapaaDoor
open Go.RowKit

theorem findV_nil (key : ByteArray) : findV [] key = (⟨⟨#[]⟩, ⟨#[]⟩, 0, 0⟩, 1) := rfl
set_option maxHeartbeats 1000000 in
theorem group_nil (key : ByteArray) (w : World) :
    Calls Tryd.prog 23 #[.pointer none, .string key] w fun e w' => e = .returned (.tuple #[.int .i64 0, .int .i64 1]) ∧ Below w.heap.size w w' := by
  have F := Lib.hid (fun W => find_nil key W)
  unfold ptV at F
  go_enter Tryd.func23, Tryd.ntmps23
  go_wp2_with fail
  refine (F.out _).mono ?_
  rintro e w1 ⟨rfl, hb⟩
  go_wp2_with fail
  go_ret2
  exact ⟨rfl, hb.alloc hb.size _⟩
set_option maxHeartbeats 1000000 in
theorem group_any (B : Nat) (d : List Pt) (key : ByteArray) (w : World) (h : MapAt w B d) (hs : SmallP d) (hk : key.size ≤ 9223372036854775807) (hall : d ≠ [] → isName key.data.toList = true → ∃ p, d.find? (fun p => hasR p.f p.t key) = some p) :
    Calls Tryd.prog 23 #[.pointer (some ⟨B, 0, none⟩), .string key] w fun e w' => e = .returned (.tuple #[.int .i64 (findV d key).1.g, .int .i64 (findV d key).2]) ∧ Below w.heap.size w w' := by
  have F := Lib.hid (find_any B d key w h hs hk hall)
  unfold ptV at F
  generalize findV d key = q at F ⊢
  obtain ⟨⟨pf, pt, pg, pe⟩, er⟩ := q
  dsimp only at F ⊢
  clear h hs hk hall
  go_enter Tryd.func23, Tryd.ntmps23
  go_wp2_with fail
  refine F.out.mono ?_
  rintro e w1 ⟨rfl, hb⟩
  go_wp2_with fail
  go_ret2
  exact ⟨rfl, hb.alloc hb.size _⟩
set_option maxHeartbeats 1000000 in
theorem epoch_nil (key : ByteArray) (w : World) :
    Calls Tryd.prog 27 #[.pointer none, .string key] w fun e w' => e = .returned (.tuple #[.int .i64 0, .int .i64 1]) ∧ Below w.heap.size w w' := by
  have F := Lib.hid (fun W => find_nil key W)
  unfold ptV at F
  go_enter Tryd.func27, Tryd.ntmps27
  go_wp2_with fail
  refine (F.out _).mono ?_
  rintro e w1 ⟨rfl, hb⟩
  go_wp2_with fail
  go_ret2
  exact ⟨rfl, hb.alloc hb.size _⟩
set_option maxHeartbeats 1000000 in
theorem epoch_any (B : Nat) (d : List Pt) (key : ByteArray) (w : World) (h : MapAt w B d) (hs : SmallP d) (hk : key.size ≤ 9223372036854775807) (hall : d ≠ [] → isName key.data.toList = true → ∃ p, d.find? (fun p => hasR p.f p.t key) = some p) :
    Calls Tryd.prog 27 #[.pointer (some ⟨B, 0, none⟩), .string key] w fun e w' => e = .returned (.tuple #[.int .i64 (findV d key).1.e, .int .i64 (findV d key).2]) ∧ Below w.heap.size w w' := by
  have F := Lib.hid (find_any B d key w h hs hk hall)
  unfold ptV at F
  generalize findV d key = q at F ⊢
  obtain ⟨⟨pf, pt, pg, pe⟩, er⟩ := q
  dsimp only at F ⊢
  clear h hs hk hall
  go_enter Tryd.func27, Tryd.ntmps27
  go_wp2_with fail
  refine F.out.mono ?_
  rintro e w1 ⟨rfl, hb⟩
  go_wp2_with fail
  go_ret2
  exact ⟨rfl, hb.alloc hb.size _⟩

set_option maxHeartbeats 1000000 in
theorem of_nil (g : Int) (w : World) :
    Calls Tryd.prog 29 #[.pointer none, .int .i64 g] w fun e w' => e = .returned (.slice none 0 0) ∧ w = w' := by
  go_enter Tryd.func29, Tryd.ntmps29
  go_wp2_with (go_at_call 45; refine (made_nil _).mono ?_; rintro e w1 ⟨rfl, rfl⟩)
  go_ret
  exact ⟨rfl, rfl⟩
set_option maxRecDepth 100000 in
set_option maxHeartbeats 4000000 in
theorem of_any (B : Nat) (d : List Pt) (g0 : Int) (w : World) (h : MapAt w B d) (hd : d.length ≤ 900) :
    Calls Tryd.prog 29 #[.pointer (some ⟨B, 0, none⟩), .int .i64 g0] w fun e w' => ∃ v, e = .returned v ∧ w'.ownsRow w.heap.size 30 2 v (ofL g0 d).length (flatR2 (ofL g0 d)) ∧ Below w.heap.size w w' := by
  by_cases h0 : d = []
  · subst h0
    have M := Lib.hid (made_any B [] w h)
    simp only [List.length_nil, Nat.lt_irrefl, decide_false] at M
    clear h hd
    go_enter Tryd.func29, Tryd.ntmps29
    go_wp2_with (go_at_call 45; refine M.out.mono ?_; rintro e w1 ⟨rfl, rfl⟩)
    go_ret
    exact ⟨_, rfl, own_nil _ _ _ _, Below.refl _ _⟩
  · have hpos : 0 < d.length := by cases d with | nil => exact absurd rfl h0 | cons p ps => simp
    have M := Lib.hid (made_any B d w h)
    rw [decide_eq_true hpos] at M
    obtain ⟨v, h1, h2⟩ := h
    have c := h1.cell
    rcases h2 with ⟨h3, _⟩ | ⟨g, o, cap, rfl, hc, _⟩
    · exact absurd h3 h0
    have HC := Lib.hid hc
    clear h1 hc h0 hpos
    have HLen := Lib.hid (fun k => ofL_len g0 d k)
    have HT := Lib.hid (fun k (hk : d.length ≤ k) => (List.take_of_length_le hk : d.take k = d))
    generalize hn : d.length = n at c hd HLen HT ⊢
    have HN := Lib.hid hn
    clear hn
    go_enter Tryd.func29, Tryd.ntmps29
    go_wp2_with (go_at_call 45; refine M.out.mono ?_; rintro e w1 ⟨rfl, rfl⟩)
    go_loopw [16, 5] (fun i v wr => Below w.heap.size w wr ∧ ∃ k : Nat, k ≤ n ∧ i = .int .i64 k ∧ wr.ownsRow w.heap.size 30 2 v (ofL g0 (d.take k)).length (flatR2 (ofL g0 (d.take k)))) (fun i _ _ => n - (intOf i).toNat)
    case atStart => exact ⟨Below.refl _ _, 0, Nat.zero_le _, rfl, own_nil _ _ _ _⟩
    case round =>
      rename_i v0 wr
      obtain ⟨b2, k, hk, rfl, hown⟩ := hrel
      by_cases hlt : k < n
      · have hg : d[k]? = some (d[k]'(by rw [HN.out]; exact hlt)) := List.getElem?_eq_getElem _
        generalize d[k]'(by rw [HN.out]; exact hlt) = p at hg
        have H4 := HC.out k _ hg
        have hl900 := HLen.out k
        have HG := Lib.hid hg
        obtain ⟨pf, pt, pg, pe⟩ := p
        dsimp only at H4
        obtain ⟨c0, c1, c2, c3⟩ := H4
        have d0 := (b2.cell (lt_of_cellR c0)).trans c0
        have d1 := (b2.cell (lt_of_cellR c1)).trans c1
        have d2 := (b2.cell (lt_of_cellR c2)).trans c2
        have d3 := (b2.cell (lt_of_cellR c3)).trans c3
        have bb := (b2.alloc b2.size (.cells #[.string pf, .string pt, .int .i64 pg, .int .i64 pe] 89))
        by_cases hpg : pg = g0
        · have HS := ofL_yes g0 d k _ HG.out hpg
          subst pg
          have own2 := (hown.alloc (.cells #[.string pf, .string pt, .int .i64 g0, .int .i64 pe] 89)).alloc (.cells #[.string pf, .string pt] 30)
          have bb2 := bb.alloc bb.size (.cells #[.string pf, .string pt] 30)
          obtain ⟨v', w', hrun, hown', hgrow⟩ := run_app_rng _ _ _ _ _ own2 ⟨wr.heap.size + 1, 0, none⟩ 1 1 [.string pf, .string pt] rfl (news_at (wr.alloc (.cells #[.string pf, .string pt, .int .i64 g0, .int .i64 pe] 89)) 30 [.string pf, .string pt] _ (by simp)) (by intro u hu; simp at hu; rcases hu with rfl | rfl <;> rfl) (by omega) bb2.size
          have b3 := Lib.hid (bb2.grown hgrow bb2.size (fun q e => (hown.lt q e).1))
          have R := Lib.hid hrun
          dsimp only at HS
          rw [HS.1, HS.2] at hown'
          have O := Lib.hid hown'
          clear c0 c1 c2 c3 hg HC bb bb2 own2 hown hgrow hrun hown' HS b2 HLen hl900 HT HG
          go_wp2_with (at_builtin; refine wpList_append_run rfl (.tmp 24) (.tmp 27) 45 rfl rfl rfl R.out ?_)
          go_roundw
          case rel => exact ⟨b3.out, k + 1, by omega, by go_num, O.out⟩
          case measure => simp [intOf]; omega
        · rw [← ofL_no g0 d k _ HG.out hpg] at hown
          have O := Lib.hid (hown.alloc (.cells #[.string pf, .string pt, .int .i64 pg, .int .i64 pe] 89))
          have hne : ¬ pg = g0 := hpg
          clear c0 c1 c2 c3 hg HC hown b2 HLen hl900 HT HG
          go_wp2_with fail
          go_roundw
          case rel => exact ⟨bb, k + 1, by omega, by go_num, O.out⟩
          case measure => simp [intOf]; omega
      · obtain rfl : k = n := by omega
        rw [HT.out k (Nat.le_refl _)] at hown
        have O := Lib.hid hown
        clear hown HLen HT
        go_wp2_with fail
        go_ret
        exact ⟨_, rfl, O.out, b2⟩
end Go.Proofs.YtkkkppbcjmeapaaDoor
