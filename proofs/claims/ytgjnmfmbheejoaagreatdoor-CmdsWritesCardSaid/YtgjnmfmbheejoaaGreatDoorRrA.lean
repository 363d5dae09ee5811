/- Merged by program: Rrd, Rrd2, Rrd3, DfDecM. -/
import Derived.Test.YtgjnmfmbheejoaaGreatDoorRwA
import Derived.Test.YtgjnmfmbheejoaaGreatDoorPlC
import Derived.Test.YtgjnmfmbheejoaaGreatDoorDfG
import Derived.Test.YtgjnmfmbheejoaaGreatDoorRdB
import Derived.Deep.RegionHeld3
namespace Go.Proofs.YtgjnmfmbheejoaaGreatDoor
section
open Go.RowKit Go.Shelf

/-- A reader of the reference in memory: what it has left. -/
def RdQ (W : World) (C : Nat) (st : WS) : Prop := ∃ A n c, Whole W C 154 #[.bool true, .slice A n c, .bool st.isNone] ∧ n ≤ c ∧ n ≤ 1000000000000 ∧ ((st = none → A = none ∧ n = 0 ∧ c = 0) ∧ ∀ a : Addr, A = some a → a.block < C) ∧ ∀ l, st = some l → SlB W A n l
theorem RdQ.lt {W : World} {C : Nat} {st : WS} (h : RdQ W C st) : C < W.heap.size := by obtain ⟨_, _, _, h1, _⟩ := h; exact h1.lt
theorem RdQ.keep {W W' : World} {C : Nat} {st : WS} (h : RdQ W C st) (hb : Below W.heap.size W W') : RdQ W' C st := by
  obtain ⟨A, n, c, h1, h2, h3, h4, h5⟩ := h
  exact ⟨A, n, c, h1.keep hb, h2, h3, h4, fun l e => (h5 l e).keep hb⟩
theorem RdQ.step {w : World} {C : Nat} {A A' : Option Addr} {n c n' c' : Nat} {l' : List UInt8} (h : Whole w C 154 #[.bool true, .slice A n c, .bool false]) (hn : n ≤ 1000000000000) (h1 : n' ≤ c') (h2 : n' ≤ n) (hs : SlB w A' n' l') (hk : ∀ a : Addr, A' = some a → a.block < C) :
    RdQ (w.setCell ⟨C, 1, none⟩ (.slice A' n' c')) C (some l') ∧ w.grownBy (w.setCell ⟨C, 1, none⟩ (.slice A' n' c')) (some C) :=
  ⟨⟨A', n', c', by simpa using h.put 1 (.slice A' n' c'), h1, by omega, ⟨(fun e => by cases e), hk⟩, (fun l2 e => by
    cases e
    exact hs.grown (grown_set (World.grownBy.refl w (some C)) 1 _) (slB_ne h (by intros; simp) (by intros; simp) (by intros; simp) hs))⟩, grown_set (World.grownBy.refl w (some C)) 1 _⟩
set_option maxHeartbeats 1000000 in
theorem rread_any (A : Option Addr) (n c : Nat) (l : List UInt8) (w : World) (h : SlB w A n l) (hn : n ≤ 1000000000000) :
    Calls Tryz.prog 50 #[.slice A n c] w fun e w' => (∃ C, e = .returned (.pointer (some ⟨C, 0, none⟩)) ∧ w.heap.size ≤ C ∧ RdQ w' C (some l)) ∧ Below w.heap.size w w' := by
  have h2 := h.keep ((Below.refl _ w).alloc (Nat.le_refl _) (.cells #[] 5))
  have hm : (w.alloc (.cells #[] 5)).ownsRow w.heap.size 5 1 (.slice (some ⟨w.heap.size, 0, none⟩) 0 0) 0 [] := World.ownsRow_made _ _ _ (Nat.le_refl _) (Nat.zero_le _) rfl
  obtain ⟨v', w', hrun, hown', hgrow⟩ := run_app_src _ A n c l h2 hn hm (by omega) (by simp)
  have HR := Lib.hid hrun
  rw [Nat.zero_add, List.nil_append] at hown'
  obtain ⟨A1, c1, rfl, hc1⟩ := own_slice hown'
  have HF : Hid (SlB w' A1 n l ∧ Below w.heap.size w w' ∧ n ≤ c1 ∧ ∀ a : Addr, A1 = some a → a.block < w'.heap.size) := Lib.hid ⟨SlB.of_own hown', ((Below.refl _ w).alloc (Nat.le_refl _) _).grown hgrow (by simp) (fun k e => by simp [Value.ownBlock] at e; omega), hc1, fun a e => by subst e; exact (hown'.lt a.block rfl).2⟩
  clear hrun hown' hgrow hm h2 h hc1
  go_enter Tryz.func50, Tryz.ntmps50
  go_wp2_with (at_builtin; refine wpList_append_run rfl (.tmp 3) (.tmp 4) 22 22 rfl rfl rfl HR.out ?_)
  go_ret
  obtain ⟨h1, hB, hc, hk⟩ := HF.out
  exact ⟨⟨_, rfl, hB.size, A1, n, c1, Whole.new w' _ _, hc, hn, ⟨(fun e => by cases e), hk⟩, (fun l' e => by cases e; exact h1.keep ((Below.refl _ _).alloc (Nat.le_refl _) _))⟩, hB.alloc hB.size _⟩
theorem rvalid_any (C : Nat) (x y : Value) (w : World) (h : Whole w C 154 #[.bool true, x, y]) :
    Calls Tryz.prog 115 #[.pointer (some ⟨C, 0, none⟩)] w fun e w' => e = .returned (.bool true) ∧ w = w' := by
  have c0 := h.cell 0
  simp only [List.getElem?_toArray, List.getElem?_cons_zero] at c0
  clear h
  go_enter Tryz.func115, Tryz.ntmps115
  go_wp2
  go_ret
  exact ⟨rfl, rfl⟩
set_option maxHeartbeats 1000000 in
theorem qfail_any (C : Nat) (st : WS) (w : World) (h : RdQ w C st) :
    Calls Tryz.prog 52 #[.pointer (some ⟨C, 0, none⟩)] w fun e w' => e = .returned (.tuple #[]) ∧ RdQ w' C none ∧ w.grownBy w' (some C) := by
  obtain ⟨A, n, c, h1, _⟩ := h
  have V := Lib.hid (rvalid_any C _ _ w h1)
  have c1 := h1.cell 1
  have c2 := h1.cell 2
  have f1 := h1.fr 1
  have f2 := h1.fr 2
  simp only [List.getElem?_toArray, List.getElem?_cons_succ, List.getElem?_cons_zero] at c1 c2
  have HF : Hid (RdQ ((w.setCell ⟨C, 2, none⟩ (.bool true)).setCell ⟨C, 1, none⟩ (.slice none 0 0)) C none ∧ w.grownBy ((w.setCell ⟨C, 2, none⟩ (.bool true)).setCell ⟨C, 1, none⟩ (.slice none 0 0)) (some C)) :=
    Lib.hid ⟨⟨none, 0, 0, by simpa using (h1.put 2 (.bool true)).put 1 (.slice none 0 0), Nat.le_refl _, by omega, ⟨fun _ => ⟨rfl, rfl, rfl⟩, fun a e => by cases e⟩, fun l e => by cases e⟩, grown_set (grown_set (World.grownBy.refl w _) 2 _) 1 _⟩
  have d2 : (w.setCell ⟨C, 2, none⟩ (.bool true)).cell? ⟨C, 1, none⟩ = some (.slice A n c) := by
    have := (h1.put 2 (.bool true)).cell 1
    simpa using this
  clear h1
  go_enter Tryz.func52, Tryz.ntmps52
  go_wp2_with (go_at_call 115; refine V.out.mono ?_; rintro e w1 ⟨rfl, rfl⟩)
  go_end0
  exact ⟨rfl, HF.out⟩
theorem cut_to (A : Option Addr) (n c hi : Nat) (h2 : hi ≤ c) (w : World) : (Instr.slice 22 (.slice A n c) none (some (.int .i64 (hi : Int))) none).run Tryz.prog w = .ok (sliced A 0 hi c 1) w := by
  have hs : (sizeOf (Tryz.prog.elem 22)).run Tryz.prog w = .ok 1 w := by kernel_rfl
  have hu : Tryz.prog.underlying 22 = some (.slice (Tryz.prog.elem 22)) := by kernel_rfl
  rw [run_slice_h w 22 A n c hu .i64 (hi : Int) (by omega) (by omega), hs]
  rfl
theorem add_mod {V a d x k : Nat} (ha : a = V % 2 ^ 64) (hd : d = x % 128) : IntKind.u64.wrap ((a : Int) + IntKind.u64.wrap ((d : Int) * 2 ^ (7 * k))) = (((V + x % 128 * 128 ^ k) % 2 ^ 64 : Nat) : Int) := by
  have hc : (d : Int) * 2 ^ (7 * k) = ((d * 128 ^ k : Nat) : Int) := by rw [pow128]; simp
  rw [hc, IntKind.wrap_u64, IntKind.wrap_u64, ← hd, ha]
  generalize d * 128 ^ k = m
  have : (2 : Nat) ^ 64 = 18446744073709551616 := by decide
  rw [this]
  omega
end
section
open Go.RowKit Go.Shelf

theorem wU_hit {l : List UInt8} {v k : Nat} (h : uvR l = some (v, k)) : wU (some l) = (v, some (l.drop k)) := by unfold wU; simp only [h]
theorem wU_miss {l : List UInt8} (h : uvR l = none) : wU (some l) = (0, none) := by unfold wU; simp only [h]
theorem neq_str {a b : List UInt8} (h : a ≠ b) : ((⟨a.toArray⟩ : ByteArray).toList == (⟨b.toArray⟩ : ByteArray).toList) = false := by
  rw [ByteArray.toList_mk, ByteArray.toList_mk, beq_eq_false_iff_ne]; exact h
set_option maxRecDepth 100000 in
set_option maxHeartbeats 8000000 in
theorem quint_any (C : Nat) (st : WS) (w : World) (h : RdQ w C st) :
    Calls Tryz.prog 114 #[.pointer (some ⟨C, 0, none⟩)] w fun e w' => e = .returned (.int .u64 ((wU st).1 : Int)) ∧ RdQ w' C (wU st).2 ∧ w.grownBy w' (some C) := by
  have mixed : Tryz.prog.follows Departure.mixedOrders = true := by kernel_rfl
  have H := Lib.hid h
  obtain ⟨A, n, c, h1, h2, h3, h4, h5⟩ := id h
  have V := Lib.hid (rvalid_any C _ _ w h1)
  have c1 := h1.cell 1
  have c2 := h1.cell 2
  simp only [List.getElem?_toArray, List.getElem?_cons_succ, List.getElem?_cons_zero] at c1 c2
  cases st with
  | none =>
    simp only [Option.isNone_none] at c2
    clear h1 h2 h3 h4 h5 h
    go_enter Tryz.func114, Tryz.ntmps114
    go_wp2_with (go_at_call 115; refine V.out.mono ?_; rintro e w1 ⟨rfl, rfl⟩)
    go_ret
    exact ⟨rfl, H.out, World.grownBy.refl _ _⟩
  | some l =>
    simp only [Option.isNone_some] at c2 h1
    have HS := Lib.hid (h5 l rfl)
    have HW := Lib.hid h1
    have HL : Hid (l.length = n) := Lib.hid HS.out.1
    have F := Lib.hid (fun W (hW : RdQ W C (some l)) => qfail_any C (some l) W hW)
    have HBK := Lib.hid h4.2
    clear h1 h4 h5 h
    go_enter Tryz.func114, Tryz.ntmps114
    go_wp2_with (go_at_call 115; refine V.out.mono ?_; rintro e w1 ⟨rfl, rfl⟩)
    go_loop [3, 4] (fun a i => ∃ k acc : Nat, k ≤ n ∧ k ≤ 10 ∧ i = .int .i64 k ∧ a = .int .u64 acc ∧ Hid (acc = valR (l.take k) % 2 ^ 64 ∧ ∀ (j : Nat) x, j < k → l[j]? = some x → 128 ≤ x.toNat)) (fun _ i => 10 - (intOf i).toNat)
    case atStart => exact ⟨0, 0, Nat.zero_le _, by omega, rfl, rfl, Lib.hid ⟨by simp [valR], fun j x hj => absurd hj (Nat.not_lt_zero _)⟩⟩
    case round =>
      obtain ⟨k, acc, hk, hk10, rfl, rfl, HU⟩ := hrel
      by_cases hgo : k < n ∧ k < 10
      · obtain ⟨hlt, hlt10⟩ := hgo
        obtain ⟨b, hb⟩ : ∃ b, l[k]? = some b := ⟨_, List.getElem?_eq_getElem (show k < l.length by rw [HL.out]; exact hlt)⟩
        obtain ⟨g, o, rfl, hcell⟩ := HS.out.2 k b hb
        unfold u8V at hcell
        have hcl := b.toNat_lt
        have HBk := Lib.hid hb
        obtain ⟨d, hd⟩ : ∃ d : Nat, d = b.toNat % 128 := ⟨_, rfl⟩
        obtain ⟨ac, hac⟩ : ∃ ac : Nat, ac = (valR (l.take k) + b.toNat % 128 * 128 ^ k) % 2 ^ 64 := ⟨_, rfl⟩
        have e40 := add_mod (k := k) HU.out.1 hd
        rw [← hac] at e40
        have e35 : (b.toNat : Int) % 128 = (d : Int) := by omega
        have hw : IntKind.i64.wrap ((k : Int) + 1) = (k : Int) + 1 := IntWalk.i64_in _ (by omega)
        have HAC : Hid (ac = valR (l.take (k + 1)) % 2 ^ 64) := Lib.hid (by rw [valR_take hb]; exact hac)
        clear hb hac hd
        by_cases h128 : b.toNat < 128
        · have HIT := Lib.hid (ref_hit HU.out.2 HBk.out h128 HAC.out)
          generalize b.toNat = x at hcell hcl e35 h128
          obtain ⟨A', hA', hB'⟩ := sliced_B (lo := 0) (hi := k + 1) HS.out (by omega) (by omega) h2 rfl
          rw [Nat.sub_zero, Nat.sub_zero] at hA'
          rw [Nat.sub_zero, List.drop_zero] at hB'
          have hcut := fun W => cut_to (some ⟨g, o, none⟩) n c (k + 1) (by omega) W
          rw [hA'] at hcut
          have hcut2 := fun W => cut_bytes (some ⟨g, o, none⟩) n c (k + 1) (by omega) W
          obtain ⟨A2, hA2, hB2⟩ := sliced_B (lo := k + 1) (hi := n) HS.out (by omega) (Nat.le_refl _) h2 rfl
          rw [hA2] at hcut2
          have HBA := Lib.hid (sliced_blk hA2 HBK.out)
          rw [List.take_of_length_le (by rw [HL.out]; exact Nat.le_refl _)] at hB2
          have hcast : ((k + 1 : Nat) : Int) = (k : Int) + 1 := by omega
          simp only [hcast] at hcut hcut2
          have hacl : ac < 18446744073709551616 := by have := HAC.out; have := Nat.mod_lt (valR (l.take (k + 1))) (show 0 < 2 ^ 64 by decide); omega
          have NB := Lib.hid (fun W => rnumber_any ac W hacl)
          have HC1 := Lib.hid c1
          have HB2 := Lib.hid hB2
          have HB1 := Lib.hid hB'
          have HN1 := Lib.hid (show n - (k + 1) ≤ c - (k + 1) ∧ n - (k + 1) ≤ n by omega)
          clear hA' hA2 hB2 hB' hcast hacl HU HAC HBk
          obtain ⟨s1, hs1⟩ : ∃ s1 : ByteArray, s1 = ⟨(uvB ac).toArray⟩ := ⟨_, rfl⟩
          obtain ⟨s2, hs2⟩ : ∃ s2 : ByteArray, s2 = ⟨(l.take (k + 1)).toArray⟩ := ⟨_, rfl⟩
          have HS1 := Lib.hid hs1
          have HS2 := Lib.hid hs2
          clear hs1 hs2
          go_upto_region 9 with fail
          refine wp_region_held_drew (S := fun wx => wx.cell? ⟨C, 1, none⟩ = some (.slice (some ⟨g, o, none⟩) n c) ∧ (convert 22 9 (.slice A' (k + 1) c)).run Tryz.prog wx = .ok (.string s2) wx) (by kernel_rfl) ⟨HC1.out, by rw [HS2.out]; exact conv_bytes (HB1.out.keep (Below.refl _ _).drew) c⟩ (fun hHeld => ?_)
          refine wpAnyH_take (i := 0) (v := ?_) rfl (by kernel_rfl) (by kernel_rfl) (by kernel_rfl) (fun _ _ _ h => h) (Or.inl ⟨by rfl, ?_⟩) (by assumption) ?_
          rotate_left
          · intro w hSw
            go_simp
            try with_reducible rfl
          simp only [Act.put, List.getElem_toArray, List.getElem_cons_zero, List.setIfInBounds_toArray, List.set_cons_zero, List.set_cons_succ]
          refine wpAnyH_take (i := 3) (v := ?_) rfl (by kernel_rfl) (by kernel_rfl) (by kernel_rfl) (fun _ _ _ h => h) (Or.inl ⟨by rfl, ?_⟩) (by assumption) ?_
          rotate_left
          · intro w hSw
            go_simp
            try with_reducible rfl
          simp only [Act.put, List.getElem_toArray, List.getElem_cons_succ, List.getElem_cons_zero, List.setIfInBounds_toArray, List.set_cons_zero, List.set_cons_succ]
          refine wpAnyH_take (i := 4) (v := ?_) rfl (by kernel_rfl) (by kernel_rfl) (by kernel_rfl) (fun _ _ _ h => h) (Or.inl ⟨by rfl, ?_⟩) (by assumption) ?_
          rotate_left
          · intro w hSw
            go_simp
            try with_reducible rfl
          simp only [Act.put, List.getElem_toArray, List.getElem_cons_succ, List.getElem_cons_zero, List.setIfInBounds_toArray, List.set_cons_zero, List.set_cons_succ]
          refine wpAnyH_take (i := 5) (v := ?_) rfl (by kernel_rfl) (by kernel_rfl) (by kernel_rfl) (fun _ _ _ h => h) (Or.inl ⟨by rfl, ?_⟩) (by assumption) ?_
          rotate_left
          · intro w hSw
            go_simp
            try with_reducible rfl
          simp only [Act.put, List.getElem_toArray, List.getElem_cons_succ, List.getElem_cons_zero, List.setIfInBounds_toArray, List.set_cons_zero, List.set_cons_succ]
          refine wpAnyH_take (i := 6) (v := ?_) rfl (by kernel_rfl) (by kernel_rfl) (by kernel_rfl) (fun _ _ _ h => h) (Or.inl ⟨by rfl, ?_⟩) (by assumption) ?_
          rotate_left
          · intro w hSw
            go_simp
            try with_reducible rfl
          simp only [Act.put, List.getElem_toArray, List.getElem_cons_succ, List.getElem_cons_zero, List.setIfInBounds_toArray, List.set_cons_zero, List.set_cons_succ]
          refine wpAnyH_take (i := 7) (v := ?_) rfl (by kernel_rfl) (by kernel_rfl) (by kernel_rfl) (fun _ _ _ h => h) (Or.inl ⟨by rfl, ?_⟩) (by assumption) ?_
          rotate_left
          · intro w hSw
            go_simp
            try with_reducible rfl
          simp only [Act.put, List.getElem_toArray, List.getElem_cons_succ, List.getElem_cons_zero, List.setIfInBounds_toArray, List.set_cons_zero, List.set_cons_succ]
          refine wpAnyH_take (i := 8) (v := ?_) rfl (by kernel_rfl) (by kernel_rfl) (by kernel_rfl) (fun _ _ _ h => h) (Or.inl ⟨by rfl, ?_⟩) (by assumption) ?_
          rotate_left
          · intro w hSw
            go_simp
            try with_reducible rfl
          simp only [Act.put, List.getElem_toArray, List.getElem_cons_succ, List.getElem_cons_zero, List.setIfInBounds_toArray, List.set_cons_zero, List.set_cons_succ]
          refine wpAnyH_take (i := 9) (v := ?_) rfl (by kernel_rfl) (by kernel_rfl) (by kernel_rfl) (fun _ _ _ h => h) (Or.inl ⟨by rfl, ?_⟩) (by assumption) ?_
          rotate_left
          · intro w hSw
            go_simp
            try with_reducible rfl
          simp only [Act.put, List.getElem_toArray, List.getElem_cons_succ, List.getElem_cons_zero, List.setIfInBounds_toArray, List.set_cons_zero, List.set_cons_succ]
          refine wpAnyH_take (i := 10) (v := ?_) rfl (by kernel_rfl) (by kernel_rfl) (by kernel_rfl) (fun _ _ _ h => h) (Or.inl ⟨by rfl, ?_⟩) (by assumption) ?_
          rotate_left
          · intro w hSw
            go_simp
            try with_reducible rfl
          simp only [Act.put, List.getElem_toArray, List.getElem_cons_succ, List.getElem_cons_zero, List.setIfInBounds_toArray, List.set_cons_zero, List.set_cons_succ]
          refine wpAnyH_ready (rs := [1]) (by kernel_rfl) (by simp) ?_
          refine AllReadyH.cons rfl (fun K hK => ?_) AllReadyH.nil
          go_simp
          refine (NB.out _).mono ?_
          rintro e w1 ⟨⟨v1, rfl, ho1⟩, hB⟩
          obtain ⟨A1, cc1, rfl, hcc1⟩ := own_slice ho1
          have hcv1 := conv_bytes (SlB.of_own ho1) cc1
          rw [← HS1.out] at hcv1
          have HB1w : Hid (Below w.heap.size w w1) := Lib.hid (((Below.refl _ w).drew).trans hB)
          have SB : Hid (w1.cell? ⟨C, 1, none⟩ = some (.slice (some ⟨g, o, none⟩) n c) ∧ (convert 22 9 (.slice A' (k + 1) c)).run Tryz.prog w1 = .ok (.string s2) w1) := Lib.hid ⟨bcell HC1.out HB1w.out, by rw [HS2.out]; exact conv_bytes (HB1.out.keep HB1w.out) c⟩
          clear ho1 hB hcc1
          refine hK.out _ _ ?_ (fun hHeld' => ?_)
          · exact SB.out
          clear hK K hHeld
          have hHeld := hHeld'
          clear hHeld'
          try simp only [Act.put, List.getElem_toArray, List.getElem_cons_succ, List.getElem_cons_zero, List.setIfInBounds_toArray, List.set_cons_zero, List.set_cons_succ]
          refine wpAnyH_ready (rs := [2]) (by kernel_rfl) (by simp) ?_
          refine AllReadyH.cons rfl (fun K hK => ?_) AllReadyH.nil
          go_simp
          refine hK.out _ _ ?_ (fun hHeld' => ?_)
          · exact SB.out
          clear hK K hHeld
          have hHeld := hHeld'
          clear hHeld'
          try simp only [Act.put, List.getElem_toArray, List.getElem_cons_succ, List.getElem_cons_zero, List.setIfInBounds_toArray, List.set_cons_zero, List.set_cons_succ]
          refine wpAnyH_ready (rs := [11]) (by kernel_rfl) (by simp) ?_
          refine AllReadyH.cons rfl (fun K hK => ?_) AllReadyH.nil
          go_simp
          refine hK.out _ _ ?_ (fun hHeld' => ?_)
          · exact SB.out
          clear hK K hHeld
          have hHeld := hHeld'
          clear hHeld'
          try simp only [Act.put, List.getElem_toArray, List.getElem_cons_succ, List.getElem_cons_zero, List.setIfInBounds_toArray, List.set_cons_zero, List.set_cons_succ]
          refine wpAnyH_done (by kernel_rfl) ?_ _
          have c1' := SB.out.1
          have RQ := Lib.hid (H.out.keep HB1w.out)
          have F2 := Lib.hid (F.out w1 RQ.out)
          clear hHeld SB hcv1 hcut HB1 NB
          by_cases he : uvB ac = l.take (k + 1)
          · have HU2 : Hid (wU (some l) = (ac, some (l.drop (k + 1)))) := Lib.hid (wU_hit (HIT.out.1 he))
            have st := RdQ.step (A' := A2) (n' := n - (k + 1)) (c' := c - (k + 1)) (HW.out.keep HB1w.out) h3 HN1.out.1 HN1.out.2 (HB2.out.keep HB1w.out) HBA.out
            have HST := Lib.hid (And.intro st.1 ((gbelow HB1w.out)))
            have fr := (HW.out.keep HB1w.out).fr 1
            have HG := Lib.hid st.2
            clear HIT F2 st
            have heq0 : (s1.toList == s2.toList) = true := by rw [HS1.out, HS2.out, he]; simp
            have heq1 : (s1.toList = s2.toList) = True := by rw [beq_iff_eq] at heq0; simp [heq0]
            have heq : (!(s1.toList == s2.toList)) = false := by rw [heq0]; rfl
            rw [heq]
            clear heq heq0 heq1
            go_wp2
            go_ret
            exact ⟨by rw [HU2.out]; rfl, by rw [HU2.out]; exact HST.out.1, below_grown HB1w.out HG.out⟩
          · have HM : Hid (wU (some l) = (0, none)) := Lib.hid (wU_miss (HIT.out.2 he))
            have hne0 : (s1.toList == s2.toList) = false := by rw [HS1.out, HS2.out]; exact neq_str he
            have hne1 : (s1.toList = s2.toList) = False := by rw [beq_eq_false_iff_ne] at hne0; simp [hne0]
            have hne : (!(s1.toList == s2.toList)) = true := by rw [hne0]; rfl
            rw [hne]
            clear hne hne0 hne1
            clear HIT he
            go_wp2_with (go_at_call 52; refine F2.out.mono ?_; rintro e w2 ⟨rfl, hP, hg⟩)
            go_ret
            exact ⟨by rw [HM.out]; rfl, by rw [HM.out]; exact hP, below_grown HB1w.out hg⟩
        · have HN : Hid (ac = valR (l.take (k + 1)) % 2 ^ 64 ∧ ∀ (j : Nat) x, j < k + 1 → l[j]? = some x → 128 ≤ x.toNat) := Lib.hid ⟨HAC.out, fun j x hj hx => by
            by_cases e : j = k
            · subst e; rw [HBk.out] at hx; cases hx; omega
            · exact HU.out.2 j x (by omega) hx⟩
          clear HU HAC HBk
          generalize b.toNat = x at hcell hcl e35 h128
          go_wp2
          go_round
          case rel => exact ⟨k + 1, ac, by omega, by omega, by go_num, rfl, HN⟩
          case measure => simp [intOf]; omega
      · have HM : Hid (wU (some l) = (0, none)) := Lib.hid (wU_miss (ref_miss HU.out.2 (by rw [HL.out]; omega)))
        clear HU
        by_cases hkn : k < n
        · have h10 : (10 : Int) ≤ (k : Int) := by omega
          have F2 := Lib.hid (F.out w H.out)
          clear hgo
          go_wp2_with (go_at_call 52; refine F2.out.mono ?_; rintro e w1 ⟨rfl, hP, hg⟩)
          go_ret
          exact ⟨by rw [HM.out]; rfl, by rw [HM.out]; exact hP, hg⟩
        · have F2 := Lib.hid (F.out w H.out)
          clear hgo
          go_wp2_with (go_at_call 52; refine F2.out.mono ?_; rintro e w1 ⟨rfl, hP, hg⟩)
          go_ret
          exact ⟨by rw [HM.out]; rfl, by rw [HM.out]; exact hP, hg⟩
end
section
open Go.RowKit Go.Shelf

set_option maxHeartbeats 1000000 in
theorem qint_any (C : Nat) (st : WS) (w : World) (h : RdQ w C st) :
    Calls Tryz.prog 54 #[.pointer (some ⟨C, 0, none⟩)] w fun e w' => e = .returned (.int .i64 (wI st).1) ∧ RdQ w' C (wI st).2 ∧ w.grownBy w' (some C) := by
  have U := Lib.hid (quint_any C st w h)
  have Z := Lib.hid (fun W => rzag_any (wU st).1 W (by have := wU_lt st; omega))
  unfold wI
  simp only
  generalize zag (wU st).1 = z at Z ⊢
  generalize wU st = p at U Z ⊢
  clear h
  go_enter Tryz.func54, Tryz.ntmps54
  go_wp2_with (first
    | (go_at_call 114; refine U.out.mono ?_; rintro e w1 ⟨rfl, hP, hg⟩)
    | (go_at_call 116; refine (Z.out _).mono ?_; rintro e w2 ⟨rfl, rfl⟩))
  go_ret
  exact ⟨rfl, hP, hg⟩
theorem wT_of {st : WS} : (wU st).2 = none → wT st = ([], none) := by
  intro h
  unfold wU at h
  unfold wT
  cases st with
  | none => rfl
  | some l =>
    simp only at h ⊢
    cases hu : uvR l with
    | none => rfl
    | some p => rw [hu] at h; cases h
theorem wT_yes {st : WS} {m : List UInt8} (h : (wU st).2 = some m) (h1 : (wU st).1 ≤ 65536) (h2 : (wU st).1 ≤ m.length) : wT st = (m.take (wU st).1, some (m.drop (wU st).1)) := by
  obtain ⟨e, hv⟩ := wU_dec h
  generalize (wU st).1 = v at *
  rw [e]
  unfold wT
  simp only [uvR_enc hv]
  rw [if_pos ⟨h1, by rw [List.length_append]; omega⟩, List.drop_left, ← List.drop_drop, List.drop_left]
theorem wT_no {st : WS} {m : List UInt8} (h : (wU st).2 = some m) (h1 : 65536 < (wU st).1 ∨ m.length < (wU st).1) : wT st = ([], none) := by
  obtain ⟨e, hv⟩ := wU_dec h
  generalize (wU st).1 = v at *
  rw [e]
  unfold wT
  simp only [uvR_enc hv]
  rw [if_neg (by rw [List.length_append]; omega)]
theorem cut_to_u (A : Option Addr) (n c hi : Nat) (h2 : hi ≤ c) (w : World) : (Instr.slice 22 (.slice A n c) none (some (.int .u64 (hi : Int))) none).run Tryz.prog w = .ok (sliced A 0 hi c 1) w := by
  have hs : (sizeOf (Tryz.prog.elem 22)).run Tryz.prog w = .ok 1 w := by kernel_rfl
  have hu : Tryz.prog.underlying 22 = some (.slice (Tryz.prog.elem 22)) := by kernel_rfl
  rw [run_slice_h w 22 A n c hu .u64 (hi : Int) (by omega) (by omega), hs]
  rfl
theorem cut_from_u (A : Option Addr) (n c lo : Nat) (h1 : lo ≤ n) (w : World) : (Instr.slice 22 (.slice A n c) (some (.int .u64 (lo : Int))) none none).run Tryz.prog w = .ok (sliced A lo n c 1) w := by
  have hs : (sizeOf (Tryz.prog.elem 22)).run Tryz.prog w = .ok 1 w := by kernel_rfl
  have hu : Tryz.prog.underlying 22 = some (.slice (Tryz.prog.elem 22)) := by kernel_rfl
  rw [run_slice_l w 22 A n c hu .u64 (lo : Int) (by omega) (by omega), hs]
  rfl
set_option maxRecDepth 100000 in
set_option maxHeartbeats 4000000 in
theorem qtext_any (C : Nat) (st : WS) (w : World) (h : RdQ w C st) :
    Calls Tryz.prog 53 #[.pointer (some ⟨C, 0, none⟩)] w fun e w' => e = .returned (.string ⟨(wT st).1.toArray⟩) ∧ RdQ w' C (wT st).2 ∧ w.grownBy w' (some C) := by
  have U := Lib.hid (quint_any C st w h)
  have hv := wU_lt st
  have F := Lib.hid (fun W (hW : RdQ W C (wU st).2) => qfail_any C (wU st).2 W hW)
  generalize hq : wT st = q
  have H0 := Lib.hid (fun h => (wT_of (st := st) h).symm.trans hq)
  have H1 := Lib.hid (fun m h h1 h2 => (wT_yes (st := st) (m := m) h h1 h2).symm.trans hq)
  have H2 := Lib.hid (fun m h h1 => (wT_no (st := st) (m := m) h h1).symm.trans hq)
  generalize hu : wU st = u at *
  obtain ⟨v, s⟩ := u
  simp only at U F H0 H1 H2 hv
  clear h hq hu
  cases s with
  | none =>
    have HQ := Lib.hid (H0.out rfl)
    go_enter Tryz.func53, Tryz.ntmps53
    go_upto_region 2 with (go_at_call 114; refine U.out.mono ?_; rintro e w1 ⟨rfl, hP, hg⟩)
    obtain ⟨A, n, c, h1, _⟩ := id hP
    have V := Lib.hid (rvalid_any C _ _ w1 h1)
    have c2 := h1.cell 2
    simp only [List.getElem?_toArray, List.getElem?_cons_succ, List.getElem?_cons_zero, Option.isNone_none] at c2
    have HP := Lib.hid hP
    clear h1 hP
    go_wp2_with (go_at_call 115; refine V.out.mono ?_; rintro e w2 ⟨rfl, rfl⟩)
    go_ret
    exact ⟨by rw [← HQ.out]; rfl, by rw [← HQ.out]; exact HP.out, hg⟩
  | some m =>
    go_enter Tryz.func53, Tryz.ntmps53
    go_upto_region 2 with (go_at_call 114; refine U.out.mono ?_; rintro e w1 ⟨rfl, hP, hg⟩)
    obtain ⟨A, n, c, h1, h2, h3, h4, h5⟩ := id hP
    have V := Lib.hid (rvalid_any C _ _ w1 h1)
    have c1 := h1.cell 1
    have c2 := h1.cell 2
    have f1 := h1.fr 1
    simp only [List.getElem?_toArray, List.getElem?_cons_succ, List.getElem?_cons_zero, Option.isNone_some] at c1 c2 h1
    have hL := (h5 m rfl).1
    by_cases hb : 65536 < v ∨ m.length < v
    · have HQ := Lib.hid (H2.out m rfl hb)
      have F2 := Lib.hid (F.out w1 hP)
      have hcase : (65536 : Int) < (v : Int) ∨ ((v : Int) ≤ 65536 ∧ (n : Int) < (v : Int)) := by omega
      clear h1 h4 hP hb h5
      rcases hcase with h6 | ⟨h6, h7⟩
      all_goals
        go_wp2_with (first
          | (go_at_call 115; refine V.out.mono ?_; rintro e w2 ⟨rfl, rfl⟩)
          | (go_at_call 52; refine F2.out.mono ?_; rintro e w3 ⟨rfl, hP3, hg3⟩))
        go_ret
        exact ⟨by rw [← HQ.out]; rfl, by rw [← HQ.out]; exact hP3, grown_trans hg hg3⟩
    · have HQ := Lib.hid (H1.out m rfl (by omega) (by omega))
      have HS := h5 m rfl
      obtain ⟨A', hA', hB'⟩ := sliced_B (lo := 0) (hi := v) HS (by omega) (by omega) h2 rfl
      rw [Nat.sub_zero, Nat.sub_zero] at hA'
      rw [Nat.sub_zero, List.drop_zero] at hB'
      have hcut := fun W => cut_to_u A n c v (by omega) W
      rw [hA'] at hcut
      have hcv := conv_bytes hB' c
      obtain ⟨A2, hA2, hB2⟩ := sliced_B (lo := v) (hi := n) HS (by omega) (Nat.le_refl _) h2 rfl
      have hcut2 := fun W => cut_from_u A n c v (by omega) W
      rw [hA2] at hcut2
      rw [List.take_of_length_le (by omega)] at hB2
      have st2 := RdQ.step (A' := A2) (n' := n - v) (c' := c - v) h1 h3 (by omega) (by omega) hB2 (sliced_blk hA2 h4.2)
      have HST := Lib.hid st2
      have h6 : (v : Int) ≤ 65536 := by omega
      have h7 : (v : Int) ≤ (n : Int) := by omega
      obtain ⟨s, hs⟩ : ∃ s : ByteArray, s = ⟨(m.take v).toArray⟩ := ⟨_, rfl⟩
      rw [← hs] at hcv
      have HSS := Lib.hid hs
      clear h1 h4 hP hb h5 HS hA' hB' hA2 hB2 st2 hs
      go_wp2_with (go_at_call 115; refine V.out.mono ?_; rintro e w2 ⟨rfl, rfl⟩)
      go_ret
      exact ⟨by rw [← HQ.out, HSS.out]; rfl, by rw [← HQ.out]; exact HST.out.1, grown_trans hg HST.out.2⟩
set_option maxHeartbeats 1000000 in
theorem qend_any (C : Nat) (st : WS) (w : World) (h : RdQ w C st) :
    Calls Tryz.prog 58 #[.pointer (some ⟨C, 0, none⟩)] w fun e w' => e = .returned (.int .i64 (wEnd st)) ∧ w = w' := by
  obtain ⟨A, n, c, h1, h2, h3, h4, h5⟩ := h
  have V := Lib.hid (rvalid_any C _ _ w h1)
  have c1 := h1.cell 1
  have c2 := h1.cell 2
  simp only [List.getElem?_toArray, List.getElem?_cons_succ, List.getElem?_cons_zero] at c1 c2
  cases st with
  | none =>
    simp only [Option.isNone_none] at c2
    clear h1 h2 h3 h4 h5
    go_enter Tryz.func58, Tryz.ntmps58
    go_wp2_with (go_at_call 115; refine V.out.mono ?_; rintro e w2 ⟨rfl, rfl⟩)
    go_ret
    exact ⟨rfl, rfl⟩
  | some l =>
    simp only [Option.isNone_some] at c2
    have hl := (h5 l rfl).1
    by_cases h0 : 0 < n
    · have HE : Hid (wEnd (some l) = 10) := Lib.hid (by unfold wEnd; rw [if_neg (by intro e; cases e; simp at hl; omega)])
      rw [HE.out]
      clear h1 h2 h3 h4 h5 hl HE
      go_enter Tryz.func58, Tryz.ntmps58
      go_wp2_with (go_at_call 115; refine V.out.mono ?_; rintro e w2 ⟨rfl, rfl⟩)
      go_ret
      exact ⟨rfl, rfl⟩
    · have HE : Hid (wEnd (some l) = 0) := Lib.hid (by unfold wEnd; rw [if_pos]; rw [List.eq_nil_of_length_eq_zero (by omega : l.length = 0)])
      rw [HE.out]
      clear h1 h2 h3 h4 h5 hl HE
      go_enter Tryz.func58, Tryz.ntmps58
      go_wp2_with (go_at_call 115; refine V.out.mono ?_; rintro e w2 ⟨rfl, rfl⟩)
      go_ret
      exact ⟨rfl, rfl⟩
end
section
open Go.RowKit Go.Shelf

theorem RdP.other {W W2 : World} {C : Nat} {st : WS} {row : Option Nat} (h : RdP W C st) (hg : W.grownBy W2 row) (hr : ∀ k, row = some k → C < k) : RdP W2 C st := by
  obtain ⟨A, n, c, h1, h2, h3, h4, h5⟩ := h
  refine ⟨A, n, c, h1.grown hg (fun e => by have := hr C e.symm; omega), h2, h3, h4, fun l e => (h5 l e).grown hg (fun a ha _ e => ?_)⟩
  have a1 := h4.2 a ha
  have a2 := hr a.block e.symm
  omega
/-- What Decode holds in memory: its result, its reader, its definition. -/
structure DecM (w W : World) (C D : Nat) (st : WS) (dv : Array Value) : Prop where
  rd : RdP W C st
  d : Whole W D 31 dv
  r : Whole W w.heap.size 31 #[.string ⟨#[]⟩, .int .i64 0, .int .i64 0, .slice none 0 0]
  b : Below w.heap.size w W
  o1 : w.heap.size < C
  o2 : C < D
theorem DecM.reads {w W W2 : World} {C D : Nat} {st st2 : WS} {dv : Array Value} (h : DecM w W C D st dv) (hp : RdP W2 C st2) (hg : W.grownBy W2 (some C)) : DecM w W2 C D st2 dv :=
  ⟨hp, h.d.grown hg (by have := h.o2; simp; omega), h.r.grown hg (by have := h.o1; simp; omega), h.b.grown hg h.b.size (fun k e => by cases e; exact Nat.le_of_lt h.o1), h.o1, h.o2⟩
theorem DecM.other {w W W2 : World} {C D : Nat} {st : WS} {dv : Array Value} {row : Option Nat} (h : DecM w W C D st dv) (hg : W.grownBy W2 row) (hr : ∀ k, row = some k → D < k) : DecM w W2 C D st dv := by
  have a := h.o1
  have b := h.o2
  exact ⟨h.rd.other hg (fun k e => by have := hr k e; omega), h.d.grown hg (fun e => by have := hr D e.symm; omega), h.r.grown hg (fun e => by have := hr _ e.symm; omega), h.b.grown hg h.b.size (fun k e => by have := hr k e; omega), a, b⟩
theorem DecM.keep {w W W2 : World} {C D : Nat} {st : WS} {dv : Array Value} (h : DecM w W C D st dv) (hb : Below W.heap.size W W2) : DecM w W2 C D st dv := h.other (gbelow hb) (by simp)
theorem DecM.put {w W : World} {C D : Nat} {st : WS} {dv : Array Value} (h : DecM w W C D st dv) (i : Nat) (v : Value) : DecM w (W.setCell ⟨D, i, none⟩ v) C D st (dv.setIfInBounds i v) := by
  have a := h.o1
  have b := h.o2
  have hg := grown_set (World.grownBy.refl W (some D)) i v
  exact ⟨h.rd.other hg (fun k e => by cases e; exact b), h.d.put i v, h.r.grown hg (fun e => by cases e; omega), h.b.grown hg h.b.size (fun k e => by cases e; omega), a, b⟩
/-- A step is appended to those of the definition behind the reader's number. -/
theorem dec_pack {w w6 w7 : World} {C D B0 k : Nat} {st2 st3 : WS} {x y z v : Value} {xs : List Value} (hM : DecM w w6 C D st2 #[x, y, z, v]) (hO : w6.ownsRow B0 53 2 v k xs) (hD : D < B0) (hB : B0 ≤ w6.heap.size) (hP : RdP w7 C st3) (hg : w6.grownBy w7 (some C)) (hk : k ≤ 1000) (ky : ByteArray) (iv : Int) :
    w7.cell? ⟨D, 3, none⟩ = some v ∧ (w7.alloc (.cells #[.string ky, .int .i64 iv] 53)).cell? ⟨D, 3, none⟩ = some v ∧
    ∃ (A' : Option Addr) (c' : Nat) (w8 : World), Hid ((Builtin.append_ #[29, 29] 29 #[v, .slice (some ⟨w7.heap.size, 0, none⟩) 1 1]).run Tryz.prog (w7.alloc (.cells #[.string ky, .int .i64 iv] 53)) = .ok (.slice A' (k + 1) c') w8) ∧ w8.cell? ⟨D, 3, none⟩ = some v ∧ w8.frozen? ⟨D, 3, none⟩ = false ∧
      Hid (DecM w (w8.setCell ⟨D, 3, none⟩ (.slice A' (k + 1) c')) C D st3 #[x, y, z, .slice A' (k + 1) c'] ∧ (w8.setCell ⟨D, 3, none⟩ (.slice A' (k + 1) c')).ownsRow B0 53 2 (.slice A' (k + 1) c') (k + 1) (xs ++ [.string ky, .int .i64 iv]) ∧ B0 ≤ (w8.setCell ⟨D, 3, none⟩ (.slice A' (k + 1) c')).heap.size) := by
  have o1 := hM.o1
  have o2 := hM.o2
  have hne : v.ownBlock = none ∨ v.ownBlock ≠ some C := Or.inr (fun e => by have := (hO.lt C e).1; omega)
  have M7 := hM.reads hP hg
  have O7 := hO.kept hg hne
  have hB7 : B0 ≤ w7.heap.size := Nat.le_trans hB hg.size
  have M7a := M7.keep ((Below.refl _ w7).alloc (Nat.le_refl _) (.cells #[.string ky, .int .i64 iv] 53))
  obtain ⟨v', w8, hrun, hown, hgr⟩ := run_app_step (w7.alloc (.cells #[.string ky, .int .i64 iv] 53)) B0 v k xs (O7.alloc _) ⟨w7.heap.size, 0, none⟩ 1 1 [.string ky, .int .i64 iv] rfl (news_at w7 _ [.string ky, .int .i64 iv] _ rfl) (by simp [Value.oneCell']) (by omega) (by simp; omega)
  obtain ⟨A', c', rfl, _⟩ := own_slice2 hown
  have hvb : ∀ j, v.ownBlock = some j → D < j := fun j e => Nat.lt_of_lt_of_le hD (hO.lt j e).1
  have M8 := M7a.other hgr hvb
  have g9 := grown_set (World.grownBy.refl w8 (some D)) 3 (.slice A' (k + 1) c')
  refine ⟨M7.d.cell 3, M7a.d.cell 3, A', c', w8, hrun, M8.d.cell 3, M8.d.fr 3, ⟨?_, hown.kept g9 (Or.inr (fun e => by have := (hown.lt D e).1; omega)), ?_⟩⟩
  · have := M8.put 3 (.slice A' (k + 1) c')
    simpa using this
  · have := hgr.size
    simp only [World.size_alloc] at this
    simp [World.setCell]; omega
theorem RdQ.other {W W2 : World} {C : Nat} {st : WS} {row : Option Nat} (h : RdQ W C st) (hg : W.grownBy W2 row) (hr : ∀ k, row = some k → C < k) : RdQ W2 C st := by
  obtain ⟨A, n, c, h1, h2, h3, h4, h5⟩ := h
  refine ⟨A, n, c, h1.grown hg (fun e => by have := hr C e.symm; omega), h2, h3, h4, fun l e => (h5 l e).grown hg (fun a ha _ e => ?_)⟩
  have a1 := h4.2 a ha
  have a2 := hr a.block e.symm
  omega
/-- What Decode holds in memory: its result, its reader, its definition. -/
structure DecQ (w W : World) (C D : Nat) (st : WS) (dv : Array Value) : Prop where
  rd : RdQ W C st
  d : Whole W D 31 dv
  r : Whole W w.heap.size 31 #[.string ⟨#[]⟩, .int .i64 0, .int .i64 0, .slice none 0 0]
  b : Below w.heap.size w W
  o1 : w.heap.size < C
  o2 : C < D
theorem DecQ.reads {w W W2 : World} {C D : Nat} {st st2 : WS} {dv : Array Value} (h : DecQ w W C D st dv) (hp : RdQ W2 C st2) (hg : W.grownBy W2 (some C)) : DecQ w W2 C D st2 dv :=
  ⟨hp, h.d.grown hg (by have := h.o2; simp; omega), h.r.grown hg (by have := h.o1; simp; omega), h.b.grown hg h.b.size (fun k e => by cases e; exact Nat.le_of_lt h.o1), h.o1, h.o2⟩
theorem DecQ.other {w W W2 : World} {C D : Nat} {st : WS} {dv : Array Value} {row : Option Nat} (h : DecQ w W C D st dv) (hg : W.grownBy W2 row) (hr : ∀ k, row = some k → D < k) : DecQ w W2 C D st dv := by
  have a := h.o1
  have b := h.o2
  exact ⟨h.rd.other hg (fun k e => by have := hr k e; omega), h.d.grown hg (fun e => by have := hr D e.symm; omega), h.r.grown hg (fun e => by have := hr _ e.symm; omega), h.b.grown hg h.b.size (fun k e => by have := hr k e; omega), a, b⟩
theorem DecQ.keep {w W W2 : World} {C D : Nat} {st : WS} {dv : Array Value} (h : DecQ w W C D st dv) (hb : Below W.heap.size W W2) : DecQ w W2 C D st dv := h.other (gbelow hb) (by simp)
theorem DecQ.put {w W : World} {C D : Nat} {st : WS} {dv : Array Value} (h : DecQ w W C D st dv) (i : Nat) (v : Value) : DecQ w (W.setCell ⟨D, i, none⟩ v) C D st (dv.setIfInBounds i v) := by
  have a := h.o1
  have b := h.o2
  have hg := grown_set (World.grownBy.refl W (some D)) i v
  exact ⟨h.rd.other hg (fun k e => by cases e; exact b), h.d.put i v, h.r.grown hg (fun e => by cases e; omega), h.b.grown hg h.b.size (fun k e => by cases e; omega), a, b⟩
/-- A step is appended to those of the definition behind the reader's number. -/
theorem decq_pack {w w6 w7 : World} {C D B0 k : Nat} {st2 st3 : WS} {x y z v : Value} {xs : List Value} (hM : DecQ w w6 C D st2 #[x, y, z, v]) (hO : w6.ownsRow B0 53 2 v k xs) (hD : D < B0) (hB : B0 ≤ w6.heap.size) (hP : RdQ w7 C st3) (hg : w6.grownBy w7 (some C)) (hk : k ≤ 1000) (ky : ByteArray) (iv : Int) :
    w7.cell? ⟨D, 3, none⟩ = some v ∧ (w7.alloc (.cells #[.string ky, .int .i64 iv] 53)).cell? ⟨D, 3, none⟩ = some v ∧
    ∃ (A' : Option Addr) (c' : Nat) (w8 : World), Hid ((Builtin.append_ #[29, 29] 29 #[v, .slice (some ⟨w7.heap.size, 0, none⟩) 1 1]).run Tryz.prog (w7.alloc (.cells #[.string ky, .int .i64 iv] 53)) = .ok (.slice A' (k + 1) c') w8) ∧ w8.cell? ⟨D, 3, none⟩ = some v ∧ w8.frozen? ⟨D, 3, none⟩ = false ∧
      Hid (DecQ w (w8.setCell ⟨D, 3, none⟩ (.slice A' (k + 1) c')) C D st3 #[x, y, z, .slice A' (k + 1) c'] ∧ (w8.setCell ⟨D, 3, none⟩ (.slice A' (k + 1) c')).ownsRow B0 53 2 (.slice A' (k + 1) c') (k + 1) (xs ++ [.string ky, .int .i64 iv]) ∧ B0 ≤ (w8.setCell ⟨D, 3, none⟩ (.slice A' (k + 1) c')).heap.size) := by
  have o1 := hM.o1
  have o2 := hM.o2
  have hne : v.ownBlock = none ∨ v.ownBlock ≠ some C := Or.inr (fun e => by have := (hO.lt C e).1; omega)
  have M7 := hM.reads hP hg
  have O7 := hO.kept hg hne
  have hB7 : B0 ≤ w7.heap.size := Nat.le_trans hB hg.size
  have M7a := M7.keep ((Below.refl _ w7).alloc (Nat.le_refl _) (.cells #[.string ky, .int .i64 iv] 53))
  obtain ⟨v', w8, hrun, hown, hgr⟩ := run_app_step (w7.alloc (.cells #[.string ky, .int .i64 iv] 53)) B0 v k xs (O7.alloc _) ⟨w7.heap.size, 0, none⟩ 1 1 [.string ky, .int .i64 iv] rfl (news_at w7 _ [.string ky, .int .i64 iv] _ rfl) (by simp [Value.oneCell']) (by omega) (by simp; omega)
  obtain ⟨A', c', rfl, _⟩ := own_slice2 hown
  have hvb : ∀ j, v.ownBlock = some j → D < j := fun j e => Nat.lt_of_lt_of_le hD (hO.lt j e).1
  have M8 := M7a.other hgr hvb
  have g9 := grown_set (World.grownBy.refl w8 (some D)) 3 (.slice A' (k + 1) c')
  refine ⟨M7.d.cell 3, M7a.d.cell 3, A', c', w8, hrun, M8.d.cell 3, M8.d.fr 3, ⟨?_, hown.kept g9 (Or.inr (fun e => by have := (hown.lt D e).1; omega)), ?_⟩⟩
  · have := M8.put 3 (.slice A' (k + 1) c')
    simpa using this
  · have := hgr.size
    simp only [World.size_alloc] at this
    simp [World.setCell]; omega
theorem wT_len (s : WS) : (wT s).1.length ≤ 65536 := by
  unfold wT
  cases s with
  | none => simp
  | some x =>
    simp only
    cases hx : uvR x with
    | none => simp
    | some p =>
      obtain ⟨n, k⟩ := p
      dsimp only
      split
      · rw [List.length_take]; omega
      · simp
theorem wSps_z : ∀ (n : Nat) (st : WS) (p : Sp), p ∈ (wSps n st).1 → SpZ p
  | 0, st, p, h => by cases h
  | n + 1, st, p, h => by
    rw [wSps] at h
    rcases List.mem_cons.1 h with rfl | h
    · have h1 := zag_i64 (wU_lt (wT st).2)
      refine ⟨?_, h1.1, h1.2⟩
      show (⟨(wT st).1.toArray⟩ : ByteArray).size ≤ _
      rw [Lib.size_mk]
      have := wT_len st
      omega
    · exact wSps_z n _ p h
/-- What reading a definition from bytes answers. -/
def DecodeR (l : List UInt8) (w w' : World) (e : Ending) : Prop := (∃ d A n c er, e = .returned (.tuple #[dV d A n c, .int .i64 er]) ∧ DecR l d er ∧ DefAt w' A n c d) ∧ Below w.heap.size w w'
/-- The same; what holds its steps is new memory. -/
def DecodeN (l : List UInt8) (w w' : World) (e : Ending) : Prop := (∃ d A n c er, e = .returned (.tuple #[dV d A n c, .int .i64 er]) ∧ DecR l d er ∧ DefAt w' A n c d ∧ ∀ a : Addr, A = some a → w.heap.size ≤ a.block) ∧ Below w.heap.size w w'
theorem DecodeN.any {l : List UInt8} {w w' : World} {e : Ending} (h : DecodeN l w w' e) : DecodeR l w w' e := by
  obtain ⟨⟨d, A, n, c, er, h1, h2, h3, _⟩, hb⟩ := h
  exact ⟨⟨d, A, n, c, er, h1, h2, h3⟩, hb⟩
end
end Go.Proofs.YtgjnmfmbheejoaaGreatDoor
