/- The program's writers of bytes: numbers with a sign, texts, and the bytes. Condition: what is written is no longer than a machine's integer can say. -/
import Derived.Test.YtgjnmfmbheejoaaGreatDoorWrt
import Derived.Test.YtgjnmfmbheejoaaGreatDoorShelf
import Derived.WalkSpells
namespace Go.Proofs.YtgjnmfmbheejoaaGreatDoor
open Go.RowKit Go.Shelf

theorem wnew_any (w : World) : Calls Tryz.prog 62 #[] w fun e w' => e = .returned (.pointer (some ⟨w.heap.size, 0, none⟩)) ∧ w' = w.alloc (.cells #[.bool true, .slice none 0 0] 164) := by
  go_enter Tryz.func62, Tryz.ntmps62
  go_wp2
  go_ret
  exact ⟨rfl, rfl⟩
theorem WrP.new (w : World) {base : Nat} (h : base ≤ w.heap.size) : WrP (w.alloc (.cells #[.bool true, .slice none 0 0] 164)) base w.heap.size [] :=
  ⟨h, _, Whole.new w _ _, World.ownsRow_nil _ _ _ _⟩
set_option maxHeartbeats 1000000 in
theorem wint_any (C base : Nat) (n : Int) (l : List UInt8) (w : World) (h : WrP w base C l) (h1 : -9223372036854775808 ≤ n) (h2 : n ≤ 9223372036854775807) (hl : l.length ≤ 1000000000000) :
    Calls Tryz.prog 64 #[.pointer (some ⟨C, 0, none⟩), .int .i64 n] w fun e w' => e = .returned (.tuple #[]) ∧ WrP w' base C (l ++ uvB (zig n)) ∧ WrK w w' base C := by
  have U := Lib.hid (uint_any C base (zig n) l w h (by have := zig_lt h1 h2; omega) hl)
  have Z := Lib.hid (zig_any n w h1 h2)
  generalize zig n = z at U Z ⊢
  clear h h1 h2 hl
  go_enter Tryz.func64, Tryz.ntmps64
  go_wp2_with (first
    | (go_at_call 125; refine Z.out.mono ?_; rintro e w1 ⟨rfl, rfl⟩)
    | (go_at_call 63; refine U.out.mono ?_; rintro e w1 ⟨rfl, hP, hK⟩))
  go_end0
  exact ⟨rfl, hP, hK⟩
set_option maxHeartbeats 2000000 in
theorem wtext_any (C base : Nat) (s : ByteArray) (l : List UInt8) (w : World) (h : WrP w base C l) (hs : s.size ≤ 1000000000) (hl : l.length ≤ 100000000000) :
    Calls Tryz.prog 65 #[.pointer (some ⟨C, 0, none⟩), .string s] w fun e w' => e = .returned (.tuple #[]) ∧ WrP w' base C (l ++ txB s.data.toList) ∧ WrK w w' base C := by
  have hlen : s.data.toList.length = s.size := by rw [← Lib.size_eq]
  have U := Lib.hid (uint_any C base s.size l w h (by omega) (by omega))
  have HE : Hid (∀ w1 w2, WrK w w1 base C → WrK w1 w2 base C → WrP w2 base C ((l ++ uvB s.size) ++ s.data.toList) → WrP w2 base C (l ++ txB s.data.toList) ∧ WrK w w2 base C) := Lib.hid (fun w1 w2 h1 h2 h3 => ⟨by unfold txB; rw [hlen, ← List.append_assoc]; exact h3, h1.trans h2⟩)
  have HB : Hid ((uvB s.size).length ≤ 10) := Lib.hid (uvB_len10 (by omega))
  have HL := Lib.hid hlen
  clear h hlen
  go_enter Tryz.func65, Tryz.ntmps65
  go_upto_region 1 with (go_at_call 63; refine U.out.mono ?_; rintro e w1 ⟨rfl, hP, hK⟩)
  obtain ⟨hb, v, hC, hown⟩ := id hP
  have c0 := hC.cell 0
  have c1 := hC.cell 1
  simp only [List.getElem?_toArray, List.getElem?_cons_succ, List.getElem?_cons_zero] at c0 c1
  obtain ⟨v', w', hrun, hown', hgrow⟩ := run_app_str w1 base v (l ++ uvB s.size).length (bV (l ++ uvB s.size)) hown s (by have := HB.out; rw [List.length_append]; omega) (by have := hC.lt; omega)
  obtain ⟨s1, s2, s3, s4⟩ := WrP.store (m := s.data.toList) hb hC hown hgrow (by rw [HL.out]; exact hown')
  have e1 := s4.cell 1
  have e2 := s4.fr 1
  simp only [List.getElem?_toArray, List.getElem?_cons_succ, List.getElem?_cons_zero] at e1
  have HR := Lib.hid hrun
  have HF := Lib.hid (HE.out w1 _ hK s2 s1)
  have hv' : ∃ A n c, v' = .slice A n c := by
    rcases hown'.2 with ⟨e, _⟩ | ⟨g, cap, cur, e, _⟩
    · exact ⟨_, _, _, e⟩
    · exact ⟨_, _, _, e⟩
  obtain ⟨A, n, c, rfl⟩ := hv'
  clear hP hK hC hown hrun hown' hgrow s1 s2 s3 s4 hs hl
  go_wp2_with (at_builtin; refine wpList_append_run rfl (.tmp 21) (.tmp 22) 22 9 rfl rfl rfl HR.out ?_)
  go_end0
  exact ⟨rfl, HF.out⟩
/-- A slice of bytes, with its address. -/
theorem slB_at {w : World} {A : Option Addr} {n : Nat} {l : List UInt8} (h : SlB w A n l) (hn : 0 < n) : ∃ g o, A = some ⟨g, o, none⟩ ∧ ∀ (i : Nat) c, l[i]? = some c → w.cell? ⟨g, o + i, none⟩ = some (u8V c) := by
  obtain ⟨g, o, rfl, _⟩ := h.2 0 _ (List.getElem?_eq_getElem (show 0 < l.length by have := h.1; omega))
  exact ⟨g, o, rfl, fun i c hi => by obtain ⟨g', o', e, hc⟩ := h.2 i c hi; cases e; exact hc⟩
set_option maxRecDepth 100000 in
/-- bytes.Clone. -/
theorem bclone_nil (w : World) : Calls Tryz.prog 13 #[.slice none 0 0] w fun e w' => e = .returned (.slice none 0 0) ∧ w = w' := by
  have hE := fun W => Lib.run_eql_slice_nil (P := Tryz.prog) W 22 5 none 0 0 0 0 Tryz.underlying22
  simp only [Option.isNone_none] at hE
  go_enter Tryz.func13, Tryz.ntmps13
  go_wp2
  go_ret
  exact ⟨rfl, rfl⟩
theorem run_app_src (w : World) (A : Option Addr) (n c : Nat) (l : List UInt8) (h : SlB w A n l) (hn : n ≤ 1000000000000) {base : Nat} {v : Value} {k : Nat} {xs : List Value} (hown : w.ownsRow base 5 1 v k xs) (hk : k + n ≤ 1099511627776) (hbase : base ≤ w.heap.size) :
    ∃ v' w', (Builtin.append_ #[22, 22] 22 #[v, .slice A n c]).run Tryz.prog w = .ok v' w' ∧ w'.ownsRow base 5 1 v' (k + n) (xs ++ bV l) ∧ w.grownBy w' v.ownBlock := by
  by_cases h0 : n = 0
  · subst h0
    have hl : l = [] := List.eq_nil_of_length_eq_zero h.1
    subst hl
    obtain ⟨i, hi, hz0, hz1, hz2⟩ := info_parts infoB
    refine ⟨v, w, ?_, by simpa [bV] using hown, World.grownBy.refl w _⟩
    rcases hown.2 with ⟨rfl, rfl⟩ | ⟨g, cap, cur, rfl, _, _, hnc, _⟩
    · cases A <;> simp [Builtin.append_, run_underlying Tryz.underlying22, sizeOf, typeInfo, hi, Builtin.lenOf, Builtin.firstCells, loadCells, loadCellsFrom]
    · cases A <;> simp [Builtin.append_, run_underlying Tryz.underlying22, sizeOf, typeInfo, hi, Builtin.lenOf, Builtin.firstCells, hnc, storeCells, loadCells, loadCellsFrom]
  · obtain ⟨g, o, rfl, hc⟩ := slB_at h (by omega)
    exact run_app_u8 w base v k xs hown ⟨g, o, none⟩ n c (bV l) (by rw [bV_len]; exact h.1) (fun j u hj => by
      unfold bV at hj
      rw [List.getElem?_map] at hj
      cases hx : l[j]? with
      | none => rw [hx] at hj; cases hj
      | some x =>
        rw [hx] at hj
        cases hj
        have := hc j x hx
        unfold Addr.add
        split
        · subst_vars; simpa using this
        · exact this) (fun u hu => by unfold bV at hu; obtain ⟨x, _, rfl⟩ := List.mem_map.1 hu; rfl) hk hbase
set_option maxRecDepth 100000 in
theorem bclone_any (A : Option Addr) (n c : Nat) (l : List UInt8) (w : World) (h : SlB w A n l) (hn : n ≤ 1000000000000) :
    Calls Tryz.prog 13 #[.slice A n c] w fun e w' => (∃ v, e = .returned v ∧ w'.ownsRow w.heap.size 5 1 v n (bV l)) ∧ Below w.heap.size w w' := by
  by_cases hA : A = none
  · subst hA
    have h0 : n = 0 := by
      rcases Nat.eq_zero_or_pos n with h1 | h1
      · exact h1
      · obtain ⟨g, o, e, _⟩ := slB_at h h1; cases e
    subst h0
    obtain rfl : l = [] := List.eq_nil_of_length_eq_zero h.1
    have hE := fun W => Lib.run_eql_slice_nil (P := Tryz.prog) W 22 5 none 0 c 0 0 Tryz.underlying22
    simp only [Option.isNone_none] at hE
    go_enter Tryz.func13, Tryz.ntmps13
    go_wp2
    go_ret
    exact ⟨⟨_, rfl, World.ownsRow_nil _ _ _ _⟩, Below.refl _ _⟩
  · obtain ⟨a, rfl⟩ : ∃ a, A = some a := by cases A with | none => exact absurd rfl hA | some a => exact ⟨a, rfl⟩
    have hE := fun W => Lib.run_eql_slice_nil (P := Tryz.prog) W 22 5 (some a) n c 0 0 Tryz.underlying22
    simp only [Option.isNone_some] at hE
    go_enter Tryz.func13, Tryz.ntmps13
    go_upto_region 3 with fail
    have h2 := h.keep ((Below.refl _ w).alloc (Nat.le_refl _) (.cells #[] 5))
    have hm : (w.alloc (.cells #[] 5)).ownsRow w.heap.size 5 1 (.slice (some ⟨w.heap.size, 0, none⟩) 0 0) 0 [] := World.ownsRow_made _ _ _ (Nat.le_refl _) (Nat.zero_le _) rfl
    obtain ⟨v', w', hrun, hown', hgrow⟩ := run_app_src _ (some a) n c l h2 hn hm (by omega) (by simp)
    have HR := Lib.hid hrun
    rw [Nat.zero_add, List.nil_append] at hown'
    have HF : Hid (w'.ownsRow w.heap.size 5 1 v' n (bV l) ∧ Below w.heap.size w w') := Lib.hid ⟨hown', ((Below.refl _ w).alloc (Nat.le_refl _) _).grown hgrow (by simp) (fun k e => by simp [Value.ownBlock] at e; omega)⟩
    clear hrun hown' hgrow hm h2 h hE
    go_wp2_with (at_builtin; refine wpList_append_run rfl (.tmp 5) (.tmp 6) 22 22 rfl rfl rfl HR.out ?_)
    go_ret
    exact ⟨⟨_, rfl, HF.out.1⟩, HF.out.2⟩
set_option maxHeartbeats 1000000 in
theorem wbytes_any (C base : Nat) (l : List UInt8) (w : World) (h : WrP w base C l) (hl : l.length ≤ 1000000000000) :
    Calls Tryz.prog 127 #[.pointer (some ⟨C, 0, none⟩)] w fun e w' => (∃ v, e = .returned v ∧ w'.ownsRow w.heap.size 5 1 v l.length (bV l)) ∧ Below w.heap.size w w' := by
  obtain ⟨hb, v, hC, hown⟩ := id h
  have hv : ∃ A c, v = .slice A l.length c := by
    rcases hown.2 with ⟨e, h0⟩ | ⟨g, cap, cur, e, _⟩
    · exact ⟨none, 0, by rw [e, h0]⟩
    · exact ⟨_, _, e⟩
  obtain ⟨A, c, rfl⟩ := hv
  have B := Lib.hid (bclone_any A l.length c l w (SlB.of_own hown) hl)
  have c1 := hC.cell 1
  simp only [List.getElem?_toArray, List.getElem?_cons_succ, List.getElem?_cons_zero] at c1
  clear hC hown h hl
  generalize l.length = N at B c1 ⊢
  go_enter Tryz.func127, Tryz.ntmps127
  go_wp2_with (go_at_call 13; refine B.out.mono ?_; rintro e w1 ⟨⟨v1, rfl, ho⟩, hB⟩)
  go_ret
  exact ⟨⟨_, rfl, ho⟩, hB⟩
end Go.Proofs.YtgjnmfmbheejoaaGreatDoor
