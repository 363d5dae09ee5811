/- CmdsDiffer returns true at every input. Conditions: as the statement's own. -/
import Derived.Test.YtgjnmfmbheejoaaGreatDoorCmUse
import Derived.Test.YtgjnmfmbheejoaaGreatDoorCmMd
import Derived.Deep.MidRow
namespace Go.Proofs.YtgjnmfmbheejoaaGreatDoor
open Go.RowKit Go.Shelf

/-- The numbers' cells as a list. -/
def nL (x : Nv) : List Value := (nA x).toList
theorem nL_arr (x : Nv) : (nL x).toArray = nA x := by simp [nL]
theorem nL_info (x : Nv) : (Tryz.prog.info? 62).map (·.size) = some (nL x).length := by kernel_rfl
theorem Whole.nrng {W : World} {B : Nat} {x : Nv} (h : Whole W B 62 (nA x)) : W.rangeAt B 0 (nL x) := by
  intro i v hi
  rw [Nat.zero_add, h.cell]
  unfold nL at hi
  rw [Array.getElem?_toList] at hi
  exact hi
theorem dif_leaf {w W : World} {P Q : Nat} {c d : Cv} {A1 A2 : Option Addr} {n1 m1 n2 m2 : Nat} (hb : Below w.heap.size w W) (hP : Whole W P 36 (cA (zeroC 0) none 0 0)) (hQ : Whole W Q 36 (cA (zeroC 0) none 0 0)) (hne : P ≠ Q)
    (h1 : CmdIn W c A1 n1 m1) (h2 : CmdIn W d A2 n2 m2) (o1 : cmdOk c) (o2 : cmdOk d) (lP : w.heap.size ≤ P) (lQ : w.heap.size ≤ Q) :
    Whole (W.setRow P (cA c A1 n1 m1)) Q 36 (cA (zeroC 0) none 0 0) ∧ (Below w.heap.size w ((W.setRow P (cA c A1 n1 m1)).setRow Q (cA d A2 n2 m2)) ∧ CmdAt ((W.setRow P (cA c A1 n1 m1)).setRow Q (cA d A2 n2 m2)) P c A1 n1 m1 ∧ CmdAt ((W.setRow P (cA c A1 n1 m1)).setRow Q (cA d A2 n2 m2)) Q d A2 n2 m2) := by
  have a1 : ∀ a : Addr, A1 = some a → c.d.s ≠ [] → a.block ≠ P := fun a ha hs => hr_ne hP h1.d.s ((ok_def o1).resolve_left hs) a ha
  have a2 : ∀ a : Addr, A1 = some a → c.d.s ≠ [] → a.block ≠ Q := fun a ha hs => hr_ne hQ h1.d.s ((ok_def o1).resolve_left hs) a ha
  have a3 : ∀ a : Addr, A2 = some a → d.d.s ≠ [] → a.block ≠ P := fun a ha hs => hr_ne hP h2.d.s ((ok_def o2).resolve_left hs) a ha
  have a4 : ∀ a : Addr, A2 = some a → d.d.s ≠ [] → a.block ≠ Q := fun a ha hs => hr_ne hQ h2.d.s ((ok_def o2).resolve_left hs) a ha
  have g1 := setRow_grown W P (cA c A1 n1 m1)
  have g2 := setRow_grown (W.setRow P (cA c A1 n1 m1)) Q (cA d A2 n2 m2)
  have hQ1 := hQ.grown g1 (fun e => hne (Option.some.inj e).symm)
  have b1 := hb.grown g1 hb.size (fun k e => by cases e; exact lP)
  have w1 : Whole (W.setRow P (cA c A1 n1 m1)) P 36 (cA c A1 n1 m1) := setRow_heap _ _ _ _ _ _ hP
  have i1 : CmdIn (W.setRow P (cA c A1 n1 m1)) c A1 n1 m1 := ⟨h1.d.grown g1 (fun a ha hs e => a1 a ha hs (Option.some.inj e)), h1.z⟩
  have i2 : CmdIn (W.setRow P (cA c A1 n1 m1)) d A2 n2 m2 := ⟨h2.d.grown g1 (fun a ha hs e => a3 a ha hs (Option.some.inj e)), h2.z⟩
  exact ⟨hQ1, b1.grown g2 b1.size (fun k e => by cases e; exact lQ),
    ⟨w1.grown g2 (fun e => hne (Option.some.inj e)), ⟨i1.d.grown g2 (fun a ha hs e => a2 a ha hs (Option.some.inj e)), i1.z⟩, a1⟩,
    ⟨setRow_heap _ _ _ _ _ _ hQ1, ⟨i2.d.grown g2 (fun a ha hs e => a4 a ha hs (Option.some.inj e)), i2.z⟩, a4⟩⟩
set_option maxRecDepth 100000 in
set_option maxHeartbeats 16000000 in
theorem cmdsDiffer_any (x y : Nv) (hx : NvZ x) (hy : NvZ y) (w : World) (hE : DfE w) (hK : KndE w) :
    Calls Tryz.prog 7 #[.agg (nA x), .agg (nA y)] w fun e w' => e = .returned (.bool true) ∧ Below w.heap.size w w' := by
  have HE := Lib.hid hE
  obtain ⟨c, hc⟩ : ∃ c, c = madeC x := ⟨_, rfl⟩
  obtain ⟨d, hd⟩ : ∃ d, d = madeC y := ⟨_, rfl⟩
  have hcok : cmdOk c := by rw [hc]; exact madeC_ok x hx.data
  have hdok : cmdOk d := by rw [hd]; exact madeC_ok y hy.data
  have HC := Lib.hid hcok
  have HD := Lib.hid hdok
  have HCL : Hid ((bytesC c).length ≤ 7000) := Lib.hid (bytesC_short hcok (by rw [hc]; exact madeC_data x))
  have HDL : Hid ((bytesC d).length ≤ 7000) := Lib.hid (bytesC_short hdok (by rw [hd]; exact madeC_data y))
  have MXa := fun W (h : Below w.heap.size w W) => made_any x hx W (hK.keep h)
  have MYa := fun W (h : Below w.heap.size w W) => made_any y hy W (hK.keep h)
  unfold MadeR at MXa MYa
  rw [← hc, ← nL_arr x] at MXa
  rw [← hd, ← nL_arr y] at MYa
  obtain ⟨LX, hLX⟩ : ∃ L, L = nL x := ⟨_, rfl⟩
  obtain ⟨LY, hLY⟩ : ∃ L, L = nL y := ⟨_, rfl⟩
  rw [← hLX] at MXa
  rw [← hLY] at MYa
  have MX := Lib.hid MXa
  have MY := Lib.hid MYa
  have hi1 : (Tryz.prog.info? 62).map (·.size) = some LX.length := by rw [hLX]; exact nL_info x
  have hi2 : (Tryz.prog.info? 62).map (·.size) = some LY.length := by rw [hLY]; exact nL_info y
  have hRX : Hid (∀ {W : World} {B : Nat}, Whole W B 62 (nA x) → W.rangeAt B 0 LX) := Lib.hid (fun h => by rw [hLX]; exact h.nrng)
  have hRY : Hid (∀ {W : World} {B : Nat}, Whole W B 62 (nA y) → W.rangeAt B 0 LY) := Lib.hid (fun h => by rw [hLY]; exact h.nrng)
  have WK := Lib.hid (fun (W : World) (hb : Below w.heap.size w W) => works_any W (hE.keep hb))
  have I1 : Hid (Below w.heap.size w ((w.alloc (.cells (nA x) 62)).alloc (.cells (nA y) 62)) ∧ Whole ((w.alloc (.cells (nA x) 62)).alloc (.cells (nA y) 62)) w.heap.size 62 (nA x) ∧ Whole ((w.alloc (.cells (nA x) 62)).alloc (.cells (nA y) 62)) (w.heap.size + 1) 62 (nA y)) := by
    have b1 := (Below.refl w.heap.size w).alloc (Nat.le_refl _) (.cells (nA x) 62)
    have b2 := b1.alloc b1.size (.cells (nA y) 62)
    have W2 := Whole.new (w.alloc (.cells (nA x) 62)) 62 (nA y)
    rw [World.size_alloc] at W2
    exact Lib.hid ⟨b2, (Whole.new w 62 (nA x)).alloc _, W2⟩
  have hu := Tryz.underlying62
  clear hx hy hE hK hc hd hcok hdok MXa MYa hLX hLY
  go_enter Tryz.func7, Tryz.ntmps7
  go_upto_region 1 with fail
  generalize ((w.alloc (.cells (nA x) 62)).alloc (.cells (nA y) 62)) = w1 at I1 ⊢
  have SA : Hid (Whole w1.drew w.heap.size 62 (nA x) ∧ Whole w1.drew (w.heap.size + 1) 62 (nA y) ∧ Below w.heap.size w w1.drew) := Lib.hid ⟨I1.out.2.1.keep (Below.refl _ _).drew, I1.out.2.2.keep (Below.refl _ _).drew, I1.out.1.drew⟩
  clear I1
  go_cut [5, 6] from 12 to 15 (fun s5 s6 wx => ∃ (P Q : Nat) (A1 : Option Addr) (n1 m1 : Nat) (A2 : Option Addr) (n2 m2 : Nat), s5 = .pointer (some ⟨P, 0, none⟩) ∧ s6 = .pointer (some ⟨Q, 0, none⟩) ∧ Hid (Below w.heap.size w wx ∧ CmdAt wx P c A1 n1 m1 ∧ CmdAt wx Q d A2 n2 m2))
  case first =>
    refine wp_region_held_drew (S := fun wx => Whole wx w.heap.size 62 (nA x) ∧ Whole wx (w.heap.size + 1) 62 (nA y) ∧ Below w.heap.size w wx) (by kernel_rfl) SA.out (fun hHeld => ?_)
    clear SA
    generalize w1.drew = wz at hHeld ⊢
    refine wpAnyH_take (i := 0) (v := _) rfl (by kernel_rfl) (by kernel_rfl) (by kernel_rfl) (fun _ _ _ h => h) (yieldsIf_load_mid (by rfl) _ _ rfl _ _ rfl _ _ (fun w hSw => hRX.out hSw.1) hu rfl hi1) (by assumption) ?_
    simp only [Act.put, List.getElem_toArray, List.getElem_cons_zero, List.setIfInBounds_toArray, List.set_cons_zero, List.set_cons_succ]
    refine wpAnyH_take (i := 2) (v := _) rfl (by kernel_rfl) (by kernel_rfl) (by kernel_rfl) (fun _ _ _ h => h) (yieldsIf_load_mid (by rfl) _ _ rfl _ _ rfl _ _ (fun w hSw => hRY.out hSw.2.1) hu rfl hi2) (by assumption) ?_
    simp only [Act.put, List.getElem_toArray, List.getElem_cons_succ, List.getElem_cons_zero, List.setIfInBounds_toArray, List.set_cons_zero, List.set_cons_succ]
    refine wpAnyH_ready (rs := [1, 4, 5]) (by kernel_rfl) (by simp) ?_
    refine AllReadyH.cons rfl (fun K hK => ?_) (AllReadyH.cons rfl (fun K hK => ?_) (AllReadyH.cons rfl (fun K hK => ?_) AllReadyH.nil))
    · go_simp
      refine (MX.out _ hHeld.2.2).mono ?_
      rintro e v0 ⟨⟨A1, n1, m1, rfl, hi⟩, hb⟩
      try go_simp
      have H1 := Lib.hid hi
      refine hK.out _ _ ?_ (fun hHeld' => ?_)
      · exact ⟨hHeld.1.keep hb, hHeld.2.1.keep hb, hHeld.2.2.trans (hb.mono hHeld.2.2.size)⟩
      clear hK K hHeld
      have hHeld := hHeld'
      clear hHeld'
      try simp only [Act.put, List.getElem_toArray, List.getElem_cons_succ, List.getElem_cons_zero, List.setIfInBounds_toArray, List.set_cons_zero, List.set_cons_succ]
      clear hi hb
      refine wpAnyH_ready (rs := [3, 4, 5]) (by kernel_rfl) (by simp) ?_
      refine AllReadyH.cons rfl (fun K hK => ?_) (AllReadyH.cons rfl (fun K hK => ?_) (AllReadyH.cons rfl (fun K hK => ?_) AllReadyH.nil))
      · go_simp
        refine (MY.out _ hHeld.2.2).mono ?_
        rintro e v1 ⟨⟨A2, n2, m2, rfl, hi⟩, hb⟩
        try go_simp
        have H1 := Lib.hid (H1.out.keep hb)
        have H3 := Lib.hid hi
        refine hK.out _ _ ?_ (fun hHeld' => ?_)
        · exact ⟨hHeld.1.keep hb, hHeld.2.1.keep hb, hHeld.2.2.trans (hb.mono hHeld.2.2.size)⟩
        clear hK K hHeld
        have hHeld := hHeld'
        clear hHeld'
        try simp only [Act.put, List.getElem_toArray, List.getElem_cons_succ, List.getElem_cons_zero, List.setIfInBounds_toArray, List.set_cons_zero, List.set_cons_succ]
        clear hi hb
        refine wpAnyH_ready (rs := [4, 5]) (by kernel_rfl) (by simp) ?_
        refine AllReadyH.cons rfl (fun K hK => ?_) (AllReadyH.cons rfl (fun K hK => ?_) AllReadyH.nil)
        · go_simp
          rw [← zero24 0]
          have ba := (Below.refl v1.heap.size v1).alloc (Nat.le_refl _) (.cells (cA (zeroC 0) none 0 0) 36)
          have H1 := Lib.hid (H1.out.keep ba)
          have H3 := Lib.hid (H3.out.keep ba)
          have N4 := Lib.hid (Whole.new v1 36 (cA (zeroC 0) none 0 0))
          have LP := Lib.hid (And.intro hHeld.2.2.size (And.intro (Nat.ne_of_lt hHeld.1.lt) (Nat.ne_of_lt hHeld.2.1.lt)))
          refine hK.out _ _ ?_ (fun hHeld' => ?_)
          · exact ⟨hHeld.1.keep ba, hHeld.2.1.keep ba, hHeld.2.2.alloc hHeld.2.2.size _⟩
          clear hK K hHeld
          have hHeld := hHeld'
          clear hHeld'
          try simp only [Act.put, List.getElem_toArray, List.getElem_cons_succ, List.getElem_cons_zero, List.setIfInBounds_toArray, List.set_cons_zero, List.set_cons_succ]
          clear ba
          generalize (v1.alloc (.cells (cA (zeroC 0) none 0 0) 36)) = v2 at hHeld H1 H3 N4 ⊢
          generalize v1.heap.size = P at LP N4 ⊢
          refine wpAnyH_ready (rs := [5]) (by kernel_rfl) (by simp) ?_
          refine AllReadyH.cons rfl (fun K hK => ?_) AllReadyH.nil
          go_simp
          rw [← zero24 0]
          have ba := (Below.refl v2.heap.size v2).alloc (Nat.le_refl _) (.cells (cA (zeroC 0) none 0 0) 36)
          have HNE := Lib.hid (Nat.ne_of_lt N4.out.lt)
          have H1 := Lib.hid (H1.out.keep ba)
          have H3 := Lib.hid (H3.out.keep ba)
          have N4 := Lib.hid (N4.out.keep ba)
          have N5 := Lib.hid (Whole.new v2 36 (cA (zeroC 0) none 0 0))
          have LQ := Lib.hid (And.intro hHeld.2.2.size (And.intro (Nat.ne_of_lt hHeld.1.lt) (Nat.ne_of_lt hHeld.2.1.lt)))
          refine hK.out _ _ ?_ (fun hHeld' => ?_)
          · exact ⟨hHeld.1.keep ba, hHeld.2.1.keep ba, hHeld.2.2.alloc hHeld.2.2.size _⟩
          clear hK K hHeld
          have hHeld := hHeld'
          clear hHeld'
          try simp only [Act.put, List.getElem_toArray, List.getElem_cons_succ, List.getElem_cons_zero, List.setIfInBounds_toArray, List.set_cons_zero, List.set_cons_succ]
          clear ba
          generalize (v2.alloc (.cells (cA (zeroC 0) none 0 0) 36)) = v3 at hHeld H1 H3 N4 N5 ⊢
          generalize v2.heap.size = Q at LQ N5 HNE ⊢
          have LF := Lib.hid (dif_leaf hHeld.2.2 N4.out N5.out HNE.out H1.out H3.out HC.out HD.out LP.out.1 LQ.out.1)
          refine wpAnyH_ready (rs := [6]) (by kernel_rfl) (by simp) ?_
          refine AllReadyH.cons rfl (fun K hK => ?_) AllReadyH.nil
          rw [if_pos (by rfl)]
          refine wp_store_row 36 (.tmp 5) (.tmp 13) (by rfl) P (cA c A1 n1 m1) (by rfl) (by rfl) 36 (cA (zeroC 0) none 0 0) N4.out (info24 c A1 n1 m1) (by rfl) (all24 c A1 n1 m1) ?_
          refine hK.out _ _ ?_ (fun hHeld' => ?_)
          · exact ⟨hHeld.1.grown (setRow_grown _ _ _) (fun e => LP.out.2.1 (Option.some.inj e)), hHeld.2.1.grown (setRow_grown _ _ _) (fun e => LP.out.2.2 (Option.some.inj e)), hHeld.2.2.grown (setRow_grown _ _ _) hHeld.2.2.size (fun k e => by cases e; exact LP.out.1)⟩
          clear hK K hHeld
          have hHeld := hHeld'
          clear hHeld'
          try simp only [Act.put, List.getElem_toArray, List.getElem_cons_succ, List.getElem_cons_zero]
          refine wpAnyH_ready (rs := [7]) (by kernel_rfl) (by simp) ?_
          refine AllReadyH.cons rfl (fun K hK => ?_) AllReadyH.nil
          rw [if_pos (by rfl)]
          refine wp_store_row 36 (.tmp 6) (.tmp 15) (by rfl) Q (cA d A2 n2 m2) (by rfl) (by rfl) 36 (cA (zeroC 0) none 0 0) LF.out.1 (info24 d A2 n2 m2) (by rfl) (all24 d A2 n2 m2) ?_
          refine hK.out _ _ ?_ (fun hHeld' => ?_)
          · exact ⟨hHeld.1.grown (setRow_grown _ _ _) (fun e => LQ.out.2.1 (Option.some.inj e)), hHeld.2.1.grown (setRow_grown _ _ _) (fun e => LQ.out.2.2 (Option.some.inj e)), hHeld.2.2.grown (setRow_grown _ _ _) hHeld.2.2.size (fun k e => by cases e; exact LQ.out.1)⟩
          clear hK K hHeld
          have hHeld := hHeld'
          clear hHeld'
          try simp only [Act.put, List.getElem_toArray, List.getElem_cons_succ, List.getElem_cons_zero]
          refine wpAnyH_done (by kernel_rfl) ?_ _
          have LG := Lib.hid LF.out.2
          clear hHeld H1 H3 N4 N5 LF LP LQ HNE
          go_wp2_with fail
          go_meet
          case rel => exact ⟨P, Q, A1, n1, m1, A2, n2, m2, rfl, rfl, LG⟩
        · go_simp
          rw [← zero24 0]
          have ba := (Below.refl v1.heap.size v1).alloc (Nat.le_refl _) (.cells (cA (zeroC 0) none 0 0) 36)
          have H1 := Lib.hid (H1.out.keep ba)
          have H3 := Lib.hid (H3.out.keep ba)
          have N5 := Lib.hid (Whole.new v1 36 (cA (zeroC 0) none 0 0))
          have LQ := Lib.hid (And.intro hHeld.2.2.size (And.intro (Nat.ne_of_lt hHeld.1.lt) (Nat.ne_of_lt hHeld.2.1.lt)))
          refine hK.out _ _ ?_ (fun hHeld' => ?_)
          · exact ⟨hHeld.1.keep ba, hHeld.2.1.keep ba, hHeld.2.2.alloc hHeld.2.2.size _⟩
          clear hK K hHeld
          have hHeld := hHeld'
          clear hHeld'
          try simp only [Act.put, List.getElem_toArray, List.getElem_cons_succ, List.getElem_cons_zero, List.setIfInBounds_toArray, List.set_cons_zero, List.set_cons_succ]
          clear ba
          generalize (v1.alloc (.cells (cA (zeroC 0) none 0 0) 36)) = v2 at hHeld H1 H3 N5 ⊢
          generalize v1.heap.size = Q at LQ N5 ⊢
          refine wpAnyH_ready (rs := [4]) (by kernel_rfl) (by simp) ?_
          refine AllReadyH.cons rfl (fun K hK => ?_) AllReadyH.nil
          go_simp
          rw [← zero24 0]
          have ba := (Below.refl v2.heap.size v2).alloc (Nat.le_refl _) (.cells (cA (zeroC 0) none 0 0) 36)
          have HNE := Lib.hid (Nat.ne_of_gt N5.out.lt)
          have H1 := Lib.hid (H1.out.keep ba)
          have H3 := Lib.hid (H3.out.keep ba)
          have N5 := Lib.hid (N5.out.keep ba)
          have N4 := Lib.hid (Whole.new v2 36 (cA (zeroC 0) none 0 0))
          have LP := Lib.hid (And.intro hHeld.2.2.size (And.intro (Nat.ne_of_lt hHeld.1.lt) (Nat.ne_of_lt hHeld.2.1.lt)))
          refine hK.out _ _ ?_ (fun hHeld' => ?_)
          · exact ⟨hHeld.1.keep ba, hHeld.2.1.keep ba, hHeld.2.2.alloc hHeld.2.2.size _⟩
          clear hK K hHeld
          have hHeld := hHeld'
          clear hHeld'
          try simp only [Act.put, List.getElem_toArray, List.getElem_cons_succ, List.getElem_cons_zero, List.setIfInBounds_toArray, List.set_cons_zero, List.set_cons_succ]
          clear ba
          generalize (v2.alloc (.cells (cA (zeroC 0) none 0 0) 36)) = v3 at hHeld H1 H3 N4 N5 ⊢
          generalize v2.heap.size = P at LP N4 HNE ⊢
          have LF := Lib.hid (dif_leaf hHeld.2.2 N4.out N5.out HNE.out H1.out H3.out HC.out HD.out LP.out.1 LQ.out.1)
          refine wpAnyH_ready (rs := [6]) (by kernel_rfl) (by simp) ?_
          refine AllReadyH.cons rfl (fun K hK => ?_) AllReadyH.nil
          rw [if_pos (by rfl)]
          refine wp_store_row 36 (.tmp 5) (.tmp 13) (by rfl) P (cA c A1 n1 m1) (by rfl) (by rfl) 36 (cA (zeroC 0) none 0 0) N4.out (info24 c A1 n1 m1) (by rfl) (all24 c A1 n1 m1) ?_
          refine hK.out _ _ ?_ (fun hHeld' => ?_)
          · exact ⟨hHeld.1.grown (setRow_grown _ _ _) (fun e => LP.out.2.1 (Option.some.inj e)), hHeld.2.1.grown (setRow_grown _ _ _) (fun e => LP.out.2.2 (Option.some.inj e)), hHeld.2.2.grown (setRow_grown _ _ _) hHeld.2.2.size (fun k e => by cases e; exact LP.out.1)⟩
          clear hK K hHeld
          have hHeld := hHeld'
          clear hHeld'
          try simp only [Act.put, List.getElem_toArray, List.getElem_cons_succ, List.getElem_cons_zero]
          refine wpAnyH_ready (rs := [7]) (by kernel_rfl) (by simp) ?_
          refine AllReadyH.cons rfl (fun K hK => ?_) AllReadyH.nil
          rw [if_pos (by rfl)]
          refine wp_store_row 36 (.tmp 6) (.tmp 15) (by rfl) Q (cA d A2 n2 m2) (by rfl) (by rfl) 36 (cA (zeroC 0) none 0 0) LF.out.1 (info24 d A2 n2 m2) (by rfl) (all24 d A2 n2 m2) ?_
          refine hK.out _ _ ?_ (fun hHeld' => ?_)
          · exact ⟨hHeld.1.grown (setRow_grown _ _ _) (fun e => LQ.out.2.1 (Option.some.inj e)), hHeld.2.1.grown (setRow_grown _ _ _) (fun e => LQ.out.2.2 (Option.some.inj e)), hHeld.2.2.grown (setRow_grown _ _ _) hHeld.2.2.size (fun k e => by cases e; exact LQ.out.1)⟩
          clear hK K hHeld
          have hHeld := hHeld'
          clear hHeld'
          try simp only [Act.put, List.getElem_toArray, List.getElem_cons_succ, List.getElem_cons_zero]
          refine wpAnyH_done (by kernel_rfl) ?_ _
          have LG := Lib.hid LF.out.2
          clear hHeld H1 H3 N4 N5 LF LP LQ HNE
          go_wp2_with fail
          go_meet
          case rel => exact ⟨P, Q, A1, n1, m1, A2, n2, m2, rfl, rfl, LG⟩
      · go_simp
        rw [← zero24 0]
        have ba := (Below.refl v0.heap.size v0).alloc (Nat.le_refl _) (.cells (cA (zeroC 0) none 0 0) 36)
        have H1 := Lib.hid (H1.out.keep ba)
        have N4 := Lib.hid (Whole.new v0 36 (cA (zeroC 0) none 0 0))
        have LP := Lib.hid (And.intro hHeld.2.2.size (And.intro (Nat.ne_of_lt hHeld.1.lt) (Nat.ne_of_lt hHeld.2.1.lt)))
        refine hK.out _ _ ?_ (fun hHeld' => ?_)
        · exact ⟨hHeld.1.keep ba, hHeld.2.1.keep ba, hHeld.2.2.alloc hHeld.2.2.size _⟩
        clear hK K hHeld
        have hHeld := hHeld'
        clear hHeld'
        try simp only [Act.put, List.getElem_toArray, List.getElem_cons_succ, List.getElem_cons_zero, List.setIfInBounds_toArray, List.set_cons_zero, List.set_cons_succ]
        clear ba
        generalize (v0.alloc (.cells (cA (zeroC 0) none 0 0) 36)) = v1 at hHeld H1 N4 ⊢
        generalize v0.heap.size = P at LP N4 ⊢
        refine wpAnyH_ready (rs := [3, 5]) (by kernel_rfl) (by simp) ?_
        refine AllReadyH.cons rfl (fun K hK => ?_) (AllReadyH.cons rfl (fun K hK => ?_) AllReadyH.nil)
        · go_simp
          refine (MY.out _ hHeld.2.2).mono ?_
          rintro e v2 ⟨⟨A2, n2, m2, rfl, hi⟩, hb⟩
          try go_simp
          have H1 := Lib.hid (H1.out.keep hb)
          have N4 := Lib.hid (N4.out.keep hb)
          have H3 := Lib.hid hi
          refine hK.out _ _ ?_ (fun hHeld' => ?_)
          · exact ⟨hHeld.1.keep hb, hHeld.2.1.keep hb, hHeld.2.2.trans (hb.mono hHeld.2.2.size)⟩
          clear hK K hHeld
          have hHeld := hHeld'
          clear hHeld'
          try simp only [Act.put, List.getElem_toArray, List.getElem_cons_succ, List.getElem_cons_zero, List.setIfInBounds_toArray, List.set_cons_zero, List.set_cons_succ]
          clear hi hb
          refine wpAnyH_ready (rs := [5]) (by kernel_rfl) (by simp) ?_
          refine AllReadyH.cons rfl (fun K hK => ?_) AllReadyH.nil
          go_simp
          rw [← zero24 0]
          have ba := (Below.refl v2.heap.size v2).alloc (Nat.le_refl _) (.cells (cA (zeroC 0) none 0 0) 36)
          have HNE := Lib.hid (Nat.ne_of_lt N4.out.lt)
          have H1 := Lib.hid (H1.out.keep ba)
          have H3 := Lib.hid (H3.out.keep ba)
          have N4 := Lib.hid (N4.out.keep ba)
          have N5 := Lib.hid (Whole.new v2 36 (cA (zeroC 0) none 0 0))
          have LQ := Lib.hid (And.intro hHeld.2.2.size (And.intro (Nat.ne_of_lt hHeld.1.lt) (Nat.ne_of_lt hHeld.2.1.lt)))
          refine hK.out _ _ ?_ (fun hHeld' => ?_)
          · exact ⟨hHeld.1.keep ba, hHeld.2.1.keep ba, hHeld.2.2.alloc hHeld.2.2.size _⟩
          clear hK K hHeld
          have hHeld := hHeld'
          clear hHeld'
          try simp only [Act.put, List.getElem_toArray, List.getElem_cons_succ, List.getElem_cons_zero, List.setIfInBounds_toArray, List.set_cons_zero, List.set_cons_succ]
          clear ba
          generalize (v2.alloc (.cells (cA (zeroC 0) none 0 0) 36)) = v3 at hHeld H1 H3 N4 N5 ⊢
          generalize v2.heap.size = Q at LQ N5 HNE ⊢
          have LF := Lib.hid (dif_leaf hHeld.2.2 N4.out N5.out HNE.out H1.out H3.out HC.out HD.out LP.out.1 LQ.out.1)
          refine wpAnyH_ready (rs := [6]) (by kernel_rfl) (by simp) ?_
          refine AllReadyH.cons rfl (fun K hK => ?_) AllReadyH.nil
          rw [if_pos (by rfl)]
          refine wp_store_row 36 (.tmp 5) (.tmp 13) (by rfl) P (cA c A1 n1 m1) (by rfl) (by rfl) 36 (cA (zeroC 0) none 0 0) N4.out (info24 c A1 n1 m1) (by rfl) (all24 c A1 n1 m1) ?_
          refine hK.out _ _ ?_ (fun hHeld' => ?_)
          · exact ⟨hHeld.1.grown (setRow_grown _ _ _) (fun e => LP.out.2.1 (Option.some.inj e)), hHeld.2.1.grown (setRow_grown _ _ _) (fun e => LP.out.2.2 (Option.some.inj e)), hHeld.2.2.grown (setRow_grown _ _ _) hHeld.2.2.size (fun k e => by cases e; exact LP.out.1)⟩
          clear hK K hHeld
          have hHeld := hHeld'
          clear hHeld'
          try simp only [Act.put, List.getElem_toArray, List.getElem_cons_succ, List.getElem_cons_zero]
          refine wpAnyH_ready (rs := [7]) (by kernel_rfl) (by simp) ?_
          refine AllReadyH.cons rfl (fun K hK => ?_) AllReadyH.nil
          rw [if_pos (by rfl)]
          refine wp_store_row 36 (.tmp 6) (.tmp 15) (by rfl) Q (cA d A2 n2 m2) (by rfl) (by rfl) 36 (cA (zeroC 0) none 0 0) LF.out.1 (info24 d A2 n2 m2) (by rfl) (all24 d A2 n2 m2) ?_
          refine hK.out _ _ ?_ (fun hHeld' => ?_)
          · exact ⟨hHeld.1.grown (setRow_grown _ _ _) (fun e => LQ.out.2.1 (Option.some.inj e)), hHeld.2.1.grown (setRow_grown _ _ _) (fun e => LQ.out.2.2 (Option.some.inj e)), hHeld.2.2.grown (setRow_grown _ _ _) hHeld.2.2.size (fun k e => by cases e; exact LQ.out.1)⟩
          clear hK K hHeld
          have hHeld := hHeld'
          clear hHeld'
          try simp only [Act.put, List.getElem_toArray, List.getElem_cons_succ, List.getElem_cons_zero]
          refine wpAnyH_done (by kernel_rfl) ?_ _
          have LG := Lib.hid LF.out.2
          clear hHeld H1 H3 N4 N5 LF LP LQ HNE
          go_wp2_with fail
          go_meet
          case rel => exact ⟨P, Q, A1, n1, m1, A2, n2, m2, rfl, rfl, LG⟩
        · go_simp
          rw [← zero24 0]
          have ba := (Below.refl v1.heap.size v1).alloc (Nat.le_refl _) (.cells (cA (zeroC 0) none 0 0) 36)
          have HNE := Lib.hid (Nat.ne_of_lt N4.out.lt)
          have H1 := Lib.hid (H1.out.keep ba)
          have N4 := Lib.hid (N4.out.keep ba)
          have N5 := Lib.hid (Whole.new v1 36 (cA (zeroC 0) none 0 0))
          have LQ := Lib.hid (And.intro hHeld.2.2.size (And.intro (Nat.ne_of_lt hHeld.1.lt) (Nat.ne_of_lt hHeld.2.1.lt)))
          refine hK.out _ _ ?_ (fun hHeld' => ?_)
          · exact ⟨hHeld.1.keep ba, hHeld.2.1.keep ba, hHeld.2.2.alloc hHeld.2.2.size _⟩
          clear hK K hHeld
          have hHeld := hHeld'
          clear hHeld'
          try simp only [Act.put, List.getElem_toArray, List.getElem_cons_succ, List.getElem_cons_zero, List.setIfInBounds_toArray, List.set_cons_zero, List.set_cons_succ]
          clear ba
          generalize (v1.alloc (.cells (cA (zeroC 0) none 0 0) 36)) = v2 at hHeld H1 N4 N5 ⊢
          generalize v1.heap.size = Q at LQ N5 HNE ⊢
          refine wpAnyH_ready (rs := [3]) (by kernel_rfl) (by simp) ?_
          refine AllReadyH.cons rfl (fun K hK => ?_) AllReadyH.nil
          go_simp
          refine (MY.out _ hHeld.2.2).mono ?_
          rintro e v3 ⟨⟨A2, n2, m2, rfl, hi⟩, hb⟩
          try go_simp
          have H1 := Lib.hid (H1.out.keep hb)
          have N4 := Lib.hid (N4.out.keep hb)
          have N5 := Lib.hid (N5.out.keep hb)
          have H3 := Lib.hid hi
          refine hK.out _ _ ?_ (fun hHeld' => ?_)
          · exact ⟨hHeld.1.keep hb, hHeld.2.1.keep hb, hHeld.2.2.trans (hb.mono hHeld.2.2.size)⟩
          clear hK K hHeld
          have hHeld := hHeld'
          clear hHeld'
          try simp only [Act.put, List.getElem_toArray, List.getElem_cons_succ, List.getElem_cons_zero, List.setIfInBounds_toArray, List.set_cons_zero, List.set_cons_succ]
          clear hi hb
          have LF := Lib.hid (dif_leaf hHeld.2.2 N4.out N5.out HNE.out H1.out H3.out HC.out HD.out LP.out.1 LQ.out.1)
          refine wpAnyH_ready (rs := [6]) (by kernel_rfl) (by simp) ?_
          refine AllReadyH.cons rfl (fun K hK => ?_) AllReadyH.nil
          rw [if_pos (by rfl)]
          refine wp_store_row 36 (.tmp 5) (.tmp 13) (by rfl) P (cA c A1 n1 m1) (by rfl) (by rfl) 36 (cA (zeroC 0) none 0 0) N4.out (info24 c A1 n1 m1) (by rfl) (all24 c A1 n1 m1) ?_
          refine hK.out _ _ ?_ (fun hHeld' => ?_)
          · exact ⟨hHeld.1.grown (setRow_grown _ _ _) (fun e => LP.out.2.1 (Option.some.inj e)), hHeld.2.1.grown (setRow_grown _ _ _) (fun e => LP.out.2.2 (Option.some.inj e)), hHeld.2.2.grown (setRow_grown _ _ _) hHeld.2.2.size (fun k e => by cases e; exact LP.out.1)⟩
          clear hK K hHeld
          have hHeld := hHeld'
          clear hHeld'
          try simp only [Act.put, List.getElem_toArray, List.getElem_cons_succ, List.getElem_cons_zero]
          refine wpAnyH_ready (rs := [7]) (by kernel_rfl) (by simp) ?_
          refine AllReadyH.cons rfl (fun K hK => ?_) AllReadyH.nil
          rw [if_pos (by rfl)]
          refine wp_store_row 36 (.tmp 6) (.tmp 15) (by rfl) Q (cA d A2 n2 m2) (by rfl) (by rfl) 36 (cA (zeroC 0) none 0 0) LF.out.1 (info24 d A2 n2 m2) (by rfl) (all24 d A2 n2 m2) ?_
          refine hK.out _ _ ?_ (fun hHeld' => ?_)
          · exact ⟨hHeld.1.grown (setRow_grown _ _ _) (fun e => LQ.out.2.1 (Option.some.inj e)), hHeld.2.1.grown (setRow_grown _ _ _) (fun e => LQ.out.2.2 (Option.some.inj e)), hHeld.2.2.grown (setRow_grown _ _ _) hHeld.2.2.size (fun k e => by cases e; exact LQ.out.1)⟩
          clear hK K hHeld
          have hHeld := hHeld'
          clear hHeld'
          try simp only [Act.put, List.getElem_toArray, List.getElem_cons_succ, List.getElem_cons_zero]
          refine wpAnyH_done (by kernel_rfl) ?_ _
          have LG := Lib.hid LF.out.2
          clear hHeld H1 H3 N4 N5 LF LP LQ HNE
          go_wp2_with fail
          go_meet
          case rel => exact ⟨P, Q, A1, n1, m1, A2, n2, m2, rfl, rfl, LG⟩
      · go_simp
        rw [← zero24 0]
        have ba := (Below.refl v0.heap.size v0).alloc (Nat.le_refl _) (.cells (cA (zeroC 0) none 0 0) 36)
        have H1 := Lib.hid (H1.out.keep ba)
        have N5 := Lib.hid (Whole.new v0 36 (cA (zeroC 0) none 0 0))
        have LQ := Lib.hid (And.intro hHeld.2.2.size (And.intro (Nat.ne_of_lt hHeld.1.lt) (Nat.ne_of_lt hHeld.2.1.lt)))
        refine hK.out _ _ ?_ (fun hHeld' => ?_)
        · exact ⟨hHeld.1.keep ba, hHeld.2.1.keep ba, hHeld.2.2.alloc hHeld.2.2.size _⟩
        clear hK K hHeld
        have hHeld := hHeld'
        clear hHeld'
        try simp only [Act.put, List.getElem_toArray, List.getElem_cons_succ, List.getElem_cons_zero, List.setIfInBounds_toArray, List.set_cons_zero, List.set_cons_succ]
        clear ba
        generalize (v0.alloc (.cells (cA (zeroC 0) none 0 0) 36)) = v1 at hHeld H1 N5 ⊢
        generalize v0.heap.size = Q at LQ N5 ⊢
        refine wpAnyH_ready (rs := [3, 4]) (by kernel_rfl) (by simp) ?_
        refine AllReadyH.cons rfl (fun K hK => ?_) (AllReadyH.cons rfl (fun K hK => ?_) AllReadyH.nil)
        · go_simp
          refine (MY.out _ hHeld.2.2).mono ?_
          rintro e v2 ⟨⟨A2, n2, m2, rfl, hi⟩, hb⟩
          try go_simp
          have H1 := Lib.hid (H1.out.keep hb)
          have N5 := Lib.hid (N5.out.keep hb)
          have H3 := Lib.hid hi
          refine hK.out _ _ ?_ (fun hHeld' => ?_)
          · exact ⟨hHeld.1.keep hb, hHeld.2.1.keep hb, hHeld.2.2.trans (hb.mono hHeld.2.2.size)⟩
          clear hK K hHeld
          have hHeld := hHeld'
          clear hHeld'
          try simp only [Act.put, List.getElem_toArray, List.getElem_cons_succ, List.getElem_cons_zero, List.setIfInBounds_toArray, List.set_cons_zero, List.set_cons_succ]
          clear hi hb
          refine wpAnyH_ready (rs := [4]) (by kernel_rfl) (by simp) ?_
          refine AllReadyH.cons rfl (fun K hK => ?_) AllReadyH.nil
          go_simp
          rw [← zero24 0]
          have ba := (Below.refl v2.heap.size v2).alloc (Nat.le_refl _) (.cells (cA (zeroC 0) none 0 0) 36)
          have HNE := Lib.hid (Nat.ne_of_gt N5.out.lt)
          have H1 := Lib.hid (H1.out.keep ba)
          have H3 := Lib.hid (H3.out.keep ba)
          have N5 := Lib.hid (N5.out.keep ba)
          have N4 := Lib.hid (Whole.new v2 36 (cA (zeroC 0) none 0 0))
          have LP := Lib.hid (And.intro hHeld.2.2.size (And.intro (Nat.ne_of_lt hHeld.1.lt) (Nat.ne_of_lt hHeld.2.1.lt)))
          refine hK.out _ _ ?_ (fun hHeld' => ?_)
          · exact ⟨hHeld.1.keep ba, hHeld.2.1.keep ba, hHeld.2.2.alloc hHeld.2.2.size _⟩
          clear hK K hHeld
          have hHeld := hHeld'
          clear hHeld'
          try simp only [Act.put, List.getElem_toArray, List.getElem_cons_succ, List.getElem_cons_zero, List.setIfInBounds_toArray, List.set_cons_zero, List.set_cons_succ]
          clear ba
          generalize (v2.alloc (.cells (cA (zeroC 0) none 0 0) 36)) = v3 at hHeld H1 H3 N4 N5 ⊢
          generalize v2.heap.size = P at LP N4 HNE ⊢
          have LF := Lib.hid (dif_leaf hHeld.2.2 N4.out N5.out HNE.out H1.out H3.out HC.out HD.out LP.out.1 LQ.out.1)
          refine wpAnyH_ready (rs := [6]) (by kernel_rfl) (by simp) ?_
          refine AllReadyH.cons rfl (fun K hK => ?_) AllReadyH.nil
          rw [if_pos (by rfl)]
          refine wp_store_row 36 (.tmp 5) (.tmp 13) (by rfl) P (cA c A1 n1 m1) (by rfl) (by rfl) 36 (cA (zeroC 0) none 0 0) N4.out (info24 c A1 n1 m1) (by rfl) (all24 c A1 n1 m1) ?_
          refine hK.out _ _ ?_ (fun hHeld' => ?_)
          · exact ⟨hHeld.1.grown (setRow_grown _ _ _) (fun e => LP.out.2.1 (Option.some.inj e)), hHeld.2.1.grown (setRow_grown _ _ _) (fun e => LP.out.2.2 (Option.some.inj e)), hHeld.2.2.grown (setRow_grown _ _ _) hHeld.2.2.size (fun k e => by cases e; exact LP.out.1)⟩
          clear hK K hHeld
          have hHeld := hHeld'
          clear hHeld'
          try simp only [Act.put, List.getElem_toArray, List.getElem_cons_succ, List.getElem_cons_zero]
          refine wpAnyH_ready (rs := [7]) (by kernel_rfl) (by simp) ?_
          refine AllReadyH.cons rfl (fun K hK => ?_) AllReadyH.nil
          rw [if_pos (by rfl)]
          refine wp_store_row 36 (.tmp 6) (.tmp 15) (by rfl) Q (cA d A2 n2 m2) (by rfl) (by rfl) 36 (cA (zeroC 0) none 0 0) LF.out.1 (info24 d A2 n2 m2) (by rfl) (all24 d A2 n2 m2) ?_
          refine hK.out _ _ ?_ (fun hHeld' => ?_)
          · exact ⟨hHeld.1.grown (setRow_grown _ _ _) (fun e => LQ.out.2.1 (Option.some.inj e)), hHeld.2.1.grown (setRow_grown _ _ _) (fun e => LQ.out.2.2 (Option.some.inj e)), hHeld.2.2.grown (setRow_grown _ _ _) hHeld.2.2.size (fun k e => by cases e; exact LQ.out.1)⟩
          clear hK K hHeld
          have hHeld := hHeld'
          clear hHeld'
          try simp only [Act.put, List.getElem_toArray, List.getElem_cons_succ, List.getElem_cons_zero]
          refine wpAnyH_done (by kernel_rfl) ?_ _
          have LG := Lib.hid LF.out.2
          clear hHeld H1 H3 N4 N5 LF LP LQ HNE
          go_wp2_with fail
          go_meet
          case rel => exact ⟨P, Q, A1, n1, m1, A2, n2, m2, rfl, rfl, LG⟩
        · go_simp
          rw [← zero24 0]
          have ba := (Below.refl v1.heap.size v1).alloc (Nat.le_refl _) (.cells (cA (zeroC 0) none 0 0) 36)
          have HNE := Lib.hid (Nat.ne_of_gt N5.out.lt)
          have H1 := Lib.hid (H1.out.keep ba)
          have N5 := Lib.hid (N5.out.keep ba)
          have N4 := Lib.hid (Whole.new v1 36 (cA (zeroC 0) none 0 0))
          have LP := Lib.hid (And.intro hHeld.2.2.size (And.intro (Nat.ne_of_lt hHeld.1.lt) (Nat.ne_of_lt hHeld.2.1.lt)))
          refine hK.out _ _ ?_ (fun hHeld' => ?_)
          · exact ⟨hHeld.1.keep ba, hHeld.2.1.keep ba, hHeld.2.2.alloc hHeld.2.2.size _⟩
          clear hK K hHeld
          have hHeld := hHeld'
          clear hHeld'
          try simp only [Act.put, List.getElem_toArray, List.getElem_cons_succ, List.getElem_cons_zero, List.setIfInBounds_toArray, List.set_cons_zero, List.set_cons_succ]
          clear ba
          generalize (v1.alloc (.cells (cA (zeroC 0) none 0 0) 36)) = v2 at hHeld H1 N4 N5 ⊢
          generalize v1.heap.size = P at LP N4 HNE ⊢
          refine wpAnyH_ready (rs := [3]) (by kernel_rfl) (by simp) ?_
          refine AllReadyH.cons rfl (fun K hK => ?_) AllReadyH.nil
          go_simp
          refine (MY.out _ hHeld.2.2).mono ?_
          rintro e v3 ⟨⟨A2, n2, m2, rfl, hi⟩, hb⟩
          try go_simp
          have H1 := Lib.hid (H1.out.keep hb)
          have N4 := Lib.hid (N4.out.keep hb)
          have N5 := Lib.hid (N5.out.keep hb)
          have H3 := Lib.hid hi
          refine hK.out _ _ ?_ (fun hHeld' => ?_)
          · exact ⟨hHeld.1.keep hb, hHeld.2.1.keep hb, hHeld.2.2.trans (hb.mono hHeld.2.2.size)⟩
          clear hK K hHeld
          have hHeld := hHeld'
          clear hHeld'
          try simp only [Act.put, List.getElem_toArray, List.getElem_cons_succ, List.getElem_cons_zero, List.setIfInBounds_toArray, List.set_cons_zero, List.set_cons_succ]
          clear hi hb
          have LF := Lib.hid (dif_leaf hHeld.2.2 N4.out N5.out HNE.out H1.out H3.out HC.out HD.out LP.out.1 LQ.out.1)
          refine wpAnyH_ready (rs := [6]) (by kernel_rfl) (by simp) ?_
          refine AllReadyH.cons rfl (fun K hK => ?_) AllReadyH.nil
          rw [if_pos (by rfl)]
          refine wp_store_row 36 (.tmp 5) (.tmp 13) (by rfl) P (cA c A1 n1 m1) (by rfl) (by rfl) 36 (cA (zeroC 0) none 0 0) N4.out (info24 c A1 n1 m1) (by rfl) (all24 c A1 n1 m1) ?_
          refine hK.out _ _ ?_ (fun hHeld' => ?_)
          · exact ⟨hHeld.1.grown (setRow_grown _ _ _) (fun e => LP.out.2.1 (Option.some.inj e)), hHeld.2.1.grown (setRow_grown _ _ _) (fun e => LP.out.2.2 (Option.some.inj e)), hHeld.2.2.grown (setRow_grown _ _ _) hHeld.2.2.size (fun k e => by cases e; exact LP.out.1)⟩
          clear hK K hHeld
          have hHeld := hHeld'
          clear hHeld'
          try simp only [Act.put, List.getElem_toArray, List.getElem_cons_succ, List.getElem_cons_zero]
          refine wpAnyH_ready (rs := [7]) (by kernel_rfl) (by simp) ?_
          refine AllReadyH.cons rfl (fun K hK => ?_) AllReadyH.nil
          rw [if_pos (by rfl)]
          refine wp_store_row 36 (.tmp 6) (.tmp 15) (by rfl) Q (cA d A2 n2 m2) (by rfl) (by rfl) 36 (cA (zeroC 0) none 0 0) LF.out.1 (info24 d A2 n2 m2) (by rfl) (all24 d A2 n2 m2) ?_
          refine hK.out _ _ ?_ (fun hHeld' => ?_)
          · exact ⟨hHeld.1.grown (setRow_grown _ _ _) (fun e => LQ.out.2.1 (Option.some.inj e)), hHeld.2.1.grown (setRow_grown _ _ _) (fun e => LQ.out.2.2 (Option.some.inj e)), hHeld.2.2.grown (setRow_grown _ _ _) hHeld.2.2.size (fun k e => by cases e; exact LQ.out.1)⟩
          clear hK K hHeld
          have hHeld := hHeld'
          clear hHeld'
          try simp only [Act.put, List.getElem_toArray, List.getElem_cons_succ, List.getElem_cons_zero]
          refine wpAnyH_done (by kernel_rfl) ?_ _
          have LG := Lib.hid LF.out.2
          clear hHeld H1 H3 N4 N5 LF LP LQ HNE
          go_wp2_with fail
          go_meet
          case rel => exact ⟨P, Q, A1, n1, m1, A2, n2, m2, rfl, rfl, LG⟩
    · go_simp
      rw [← zero24 0]
      have ba := (Below.refl wz.heap.size wz).alloc (Nat.le_refl _) (.cells (cA (zeroC 0) none 0 0) 36)
      have N4 := Lib.hid (Whole.new wz 36 (cA (zeroC 0) none 0 0))
      have LP := Lib.hid (And.intro hHeld.2.2.size (And.intro (Nat.ne_of_lt hHeld.1.lt) (Nat.ne_of_lt hHeld.2.1.lt)))
      refine hK.out _ _ ?_ (fun hHeld' => ?_)
      · exact ⟨hHeld.1.keep ba, hHeld.2.1.keep ba, hHeld.2.2.alloc hHeld.2.2.size _⟩
      clear hK K hHeld
      have hHeld := hHeld'
      clear hHeld'
      try simp only [Act.put, List.getElem_toArray, List.getElem_cons_succ, List.getElem_cons_zero, List.setIfInBounds_toArray, List.set_cons_zero, List.set_cons_succ]
      clear ba
      generalize (wz.alloc (.cells (cA (zeroC 0) none 0 0) 36)) = v0 at hHeld N4 ⊢
      generalize wz.heap.size = P at LP N4 ⊢
      refine wpAnyH_ready (rs := [1, 5]) (by kernel_rfl) (by simp) ?_
      refine AllReadyH.cons rfl (fun K hK => ?_) (AllReadyH.cons rfl (fun K hK => ?_) AllReadyH.nil)
      · go_simp
        refine (MX.out _ hHeld.2.2).mono ?_
        rintro e v1 ⟨⟨A1, n1, m1, rfl, hi⟩, hb⟩
        try go_simp
        have N4 := Lib.hid (N4.out.keep hb)
        have H1 := Lib.hid hi
        refine hK.out _ _ ?_ (fun hHeld' => ?_)
        · exact ⟨hHeld.1.keep hb, hHeld.2.1.keep hb, hHeld.2.2.trans (hb.mono hHeld.2.2.size)⟩
        clear hK K hHeld
        have hHeld := hHeld'
        clear hHeld'
        try simp only [Act.put, List.getElem_toArray, List.getElem_cons_succ, List.getElem_cons_zero, List.setIfInBounds_toArray, List.set_cons_zero, List.set_cons_succ]
        clear hi hb
        refine wpAnyH_ready (rs := [3, 5]) (by kernel_rfl) (by simp) ?_
        refine AllReadyH.cons rfl (fun K hK => ?_) (AllReadyH.cons rfl (fun K hK => ?_) AllReadyH.nil)
        · go_simp
          refine (MY.out _ hHeld.2.2).mono ?_
          rintro e v2 ⟨⟨A2, n2, m2, rfl, hi⟩, hb⟩
          try go_simp
          have H1 := Lib.hid (H1.out.keep hb)
          have N4 := Lib.hid (N4.out.keep hb)
          have H3 := Lib.hid hi
          refine hK.out _ _ ?_ (fun hHeld' => ?_)
          · exact ⟨hHeld.1.keep hb, hHeld.2.1.keep hb, hHeld.2.2.trans (hb.mono hHeld.2.2.size)⟩
          clear hK K hHeld
          have hHeld := hHeld'
          clear hHeld'
          try simp only [Act.put, List.getElem_toArray, List.getElem_cons_succ, List.getElem_cons_zero, List.setIfInBounds_toArray, List.set_cons_zero, List.set_cons_succ]
          clear hi hb
          refine wpAnyH_ready (rs := [5]) (by kernel_rfl) (by simp) ?_
          refine AllReadyH.cons rfl (fun K hK => ?_) AllReadyH.nil
          go_simp
          rw [← zero24 0]
          have ba := (Below.refl v2.heap.size v2).alloc (Nat.le_refl _) (.cells (cA (zeroC 0) none 0 0) 36)
          have HNE := Lib.hid (Nat.ne_of_lt N4.out.lt)
          have H1 := Lib.hid (H1.out.keep ba)
          have H3 := Lib.hid (H3.out.keep ba)
          have N4 := Lib.hid (N4.out.keep ba)
          have N5 := Lib.hid (Whole.new v2 36 (cA (zeroC 0) none 0 0))
          have LQ := Lib.hid (And.intro hHeld.2.2.size (And.intro (Nat.ne_of_lt hHeld.1.lt) (Nat.ne_of_lt hHeld.2.1.lt)))
          refine hK.out _ _ ?_ (fun hHeld' => ?_)
          · exact ⟨hHeld.1.keep ba, hHeld.2.1.keep ba, hHeld.2.2.alloc hHeld.2.2.size _⟩
          clear hK K hHeld
          have hHeld := hHeld'
          clear hHeld'
          try simp only [Act.put, List.getElem_toArray, List.getElem_cons_succ, List.getElem_cons_zero, List.setIfInBounds_toArray, List.set_cons_zero, List.set_cons_succ]
          clear ba
          generalize (v2.alloc (.cells (cA (zeroC 0) none 0 0) 36)) = v3 at hHeld H1 H3 N4 N5 ⊢
          generalize v2.heap.size = Q at LQ N5 HNE ⊢
          have LF := Lib.hid (dif_leaf hHeld.2.2 N4.out N5.out HNE.out H1.out H3.out HC.out HD.out LP.out.1 LQ.out.1)
          refine wpAnyH_ready (rs := [6]) (by kernel_rfl) (by simp) ?_
          refine AllReadyH.cons rfl (fun K hK => ?_) AllReadyH.nil
          rw [if_pos (by rfl)]
          refine wp_store_row 36 (.tmp 5) (.tmp 13) (by rfl) P (cA c A1 n1 m1) (by rfl) (by rfl) 36 (cA (zeroC 0) none 0 0) N4.out (info24 c A1 n1 m1) (by rfl) (all24 c A1 n1 m1) ?_
          refine hK.out _ _ ?_ (fun hHeld' => ?_)
          · exact ⟨hHeld.1.grown (setRow_grown _ _ _) (fun e => LP.out.2.1 (Option.some.inj e)), hHeld.2.1.grown (setRow_grown _ _ _) (fun e => LP.out.2.2 (Option.some.inj e)), hHeld.2.2.grown (setRow_grown _ _ _) hHeld.2.2.size (fun k e => by cases e; exact LP.out.1)⟩
          clear hK K hHeld
          have hHeld := hHeld'
          clear hHeld'
          try simp only [Act.put, List.getElem_toArray, List.getElem_cons_succ, List.getElem_cons_zero]
          refine wpAnyH_ready (rs := [7]) (by kernel_rfl) (by simp) ?_
          refine AllReadyH.cons rfl (fun K hK => ?_) AllReadyH.nil
          rw [if_pos (by rfl)]
          refine wp_store_row 36 (.tmp 6) (.tmp 15) (by rfl) Q (cA d A2 n2 m2) (by rfl) (by rfl) 36 (cA (zeroC 0) none 0 0) LF.out.1 (info24 d A2 n2 m2) (by rfl) (all24 d A2 n2 m2) ?_
          refine hK.out _ _ ?_ (fun hHeld' => ?_)
          · exact ⟨hHeld.1.grown (setRow_grown _ _ _) (fun e => LQ.out.2.1 (Option.some.inj e)), hHeld.2.1.grown (setRow_grown _ _ _) (fun e => LQ.out.2.2 (Option.some.inj e)), hHeld.2.2.grown (setRow_grown _ _ _) hHeld.2.2.size (fun k e => by cases e; exact LQ.out.1)⟩
          clear hK K hHeld
          have hHeld := hHeld'
          clear hHeld'
          try simp only [Act.put, List.getElem_toArray, List.getElem_cons_succ, List.getElem_cons_zero]
          refine wpAnyH_done (by kernel_rfl) ?_ _
          have LG := Lib.hid LF.out.2
          clear hHeld H1 H3 N4 N5 LF LP LQ HNE
          go_wp2_with fail
          go_meet
          case rel => exact ⟨P, Q, A1, n1, m1, A2, n2, m2, rfl, rfl, LG⟩
        · go_simp
          rw [← zero24 0]
          have ba := (Below.refl v1.heap.size v1).alloc (Nat.le_refl _) (.cells (cA (zeroC 0) none 0 0) 36)
          have HNE := Lib.hid (Nat.ne_of_lt N4.out.lt)
          have H1 := Lib.hid (H1.out.keep ba)
          have N4 := Lib.hid (N4.out.keep ba)
          have N5 := Lib.hid (Whole.new v1 36 (cA (zeroC 0) none 0 0))
          have LQ := Lib.hid (And.intro hHeld.2.2.size (And.intro (Nat.ne_of_lt hHeld.1.lt) (Nat.ne_of_lt hHeld.2.1.lt)))
          refine hK.out _ _ ?_ (fun hHeld' => ?_)
          · exact ⟨hHeld.1.keep ba, hHeld.2.1.keep ba, hHeld.2.2.alloc hHeld.2.2.size _⟩
          clear hK K hHeld
          have hHeld := hHeld'
          clear hHeld'
          try simp only [Act.put, List.getElem_toArray, List.getElem_cons_succ, List.getElem_cons_zero, List.setIfInBounds_toArray, List.set_cons_zero, List.set_cons_succ]
          clear ba
          generalize (v1.alloc (.cells (cA (zeroC 0) none 0 0) 36)) = v2 at hHeld H1 N4 N5 ⊢
          generalize v1.heap.size = Q at LQ N5 HNE ⊢
          refine wpAnyH_ready (rs := [3]) (by kernel_rfl) (by simp) ?_
          refine AllReadyH.cons rfl (fun K hK => ?_) AllReadyH.nil
          go_simp
          refine (MY.out _ hHeld.2.2).mono ?_
          rintro e v3 ⟨⟨A2, n2, m2, rfl, hi⟩, hb⟩
          try go_simp
          have H1 := Lib.hid (H1.out.keep hb)
          have N4 := Lib.hid (N4.out.keep hb)
          have N5 := Lib.hid (N5.out.keep hb)
          have H3 := Lib.hid hi
          refine hK.out _ _ ?_ (fun hHeld' => ?_)
          · exact ⟨hHeld.1.keep hb, hHeld.2.1.keep hb, hHeld.2.2.trans (hb.mono hHeld.2.2.size)⟩
          clear hK K hHeld
          have hHeld := hHeld'
          clear hHeld'
          try simp only [Act.put, List.getElem_toArray, List.getElem_cons_succ, List.getElem_cons_zero, List.setIfInBounds_toArray, List.set_cons_zero, List.set_cons_succ]
          clear hi hb
          have LF := Lib.hid (dif_leaf hHeld.2.2 N4.out N5.out HNE.out H1.out H3.out HC.out HD.out LP.out.1 LQ.out.1)
          refine wpAnyH_ready (rs := [6]) (by kernel_rfl) (by simp) ?_
          refine AllReadyH.cons rfl (fun K hK => ?_) AllReadyH.nil
          rw [if_pos (by rfl)]
          refine wp_store_row 36 (.tmp 5) (.tmp 13) (by rfl) P (cA c A1 n1 m1) (by rfl) (by rfl) 36 (cA (zeroC 0) none 0 0) N4.out (info24 c A1 n1 m1) (by rfl) (all24 c A1 n1 m1) ?_
          refine hK.out _ _ ?_ (fun hHeld' => ?_)
          · exact ⟨hHeld.1.grown (setRow_grown _ _ _) (fun e => LP.out.2.1 (Option.some.inj e)), hHeld.2.1.grown (setRow_grown _ _ _) (fun e => LP.out.2.2 (Option.some.inj e)), hHeld.2.2.grown (setRow_grown _ _ _) hHeld.2.2.size (fun k e => by cases e; exact LP.out.1)⟩
          clear hK K hHeld
          have hHeld := hHeld'
          clear hHeld'
          try simp only [Act.put, List.getElem_toArray, List.getElem_cons_succ, List.getElem_cons_zero]
          refine wpAnyH_ready (rs := [7]) (by kernel_rfl) (by simp) ?_
          refine AllReadyH.cons rfl (fun K hK => ?_) AllReadyH.nil
          rw [if_pos (by rfl)]
          refine wp_store_row 36 (.tmp 6) (.tmp 15) (by rfl) Q (cA d A2 n2 m2) (by rfl) (by rfl) 36 (cA (zeroC 0) none 0 0) LF.out.1 (info24 d A2 n2 m2) (by rfl) (all24 d A2 n2 m2) ?_
          refine hK.out _ _ ?_ (fun hHeld' => ?_)
          · exact ⟨hHeld.1.grown (setRow_grown _ _ _) (fun e => LQ.out.2.1 (Option.some.inj e)), hHeld.2.1.grown (setRow_grown _ _ _) (fun e => LQ.out.2.2 (Option.some.inj e)), hHeld.2.2.grown (setRow_grown _ _ _) hHeld.2.2.size (fun k e => by cases e; exact LQ.out.1)⟩
          clear hK K hHeld
          have hHeld := hHeld'
          clear hHeld'
          try simp only [Act.put, List.getElem_toArray, List.getElem_cons_succ, List.getElem_cons_zero]
          refine wpAnyH_done (by kernel_rfl) ?_ _
          have LG := Lib.hid LF.out.2
          clear hHeld H1 H3 N4 N5 LF LP LQ HNE
          go_wp2_with fail
          go_meet
          case rel => exact ⟨P, Q, A1, n1, m1, A2, n2, m2, rfl, rfl, LG⟩
      · go_simp
        rw [← zero24 0]
        have ba := (Below.refl v0.heap.size v0).alloc (Nat.le_refl _) (.cells (cA (zeroC 0) none 0 0) 36)
        have HNE := Lib.hid (Nat.ne_of_lt N4.out.lt)
        have N4 := Lib.hid (N4.out.keep ba)
        have N5 := Lib.hid (Whole.new v0 36 (cA (zeroC 0) none 0 0))
        have LQ := Lib.hid (And.intro hHeld.2.2.size (And.intro (Nat.ne_of_lt hHeld.1.lt) (Nat.ne_of_lt hHeld.2.1.lt)))
        refine hK.out _ _ ?_ (fun hHeld' => ?_)
        · exact ⟨hHeld.1.keep ba, hHeld.2.1.keep ba, hHeld.2.2.alloc hHeld.2.2.size _⟩
        clear hK K hHeld
        have hHeld := hHeld'
        clear hHeld'
        try simp only [Act.put, List.getElem_toArray, List.getElem_cons_succ, List.getElem_cons_zero, List.setIfInBounds_toArray, List.set_cons_zero, List.set_cons_succ]
        clear ba
        generalize (v0.alloc (.cells (cA (zeroC 0) none 0 0) 36)) = v1 at hHeld N4 N5 ⊢
        generalize v0.heap.size = Q at LQ N5 HNE ⊢
        refine wpAnyH_ready (rs := [1]) (by kernel_rfl) (by simp) ?_
        refine AllReadyH.cons rfl (fun K hK => ?_) AllReadyH.nil
        go_simp
        refine (MX.out _ hHeld.2.2).mono ?_
        rintro e v2 ⟨⟨A1, n1, m1, rfl, hi⟩, hb⟩
        try go_simp
        have N4 := Lib.hid (N4.out.keep hb)
        have N5 := Lib.hid (N5.out.keep hb)
        have H1 := Lib.hid hi
        refine hK.out _ _ ?_ (fun hHeld' => ?_)
        · exact ⟨hHeld.1.keep hb, hHeld.2.1.keep hb, hHeld.2.2.trans (hb.mono hHeld.2.2.size)⟩
        clear hK K hHeld
        have hHeld := hHeld'
        clear hHeld'
        try simp only [Act.put, List.getElem_toArray, List.getElem_cons_succ, List.getElem_cons_zero, List.setIfInBounds_toArray, List.set_cons_zero, List.set_cons_succ]
        clear hi hb
        refine wpAnyH_ready (rs := [3]) (by kernel_rfl) (by simp) ?_
        refine AllReadyH.cons rfl (fun K hK => ?_) AllReadyH.nil
        go_simp
        refine (MY.out _ hHeld.2.2).mono ?_
        rintro e v3 ⟨⟨A2, n2, m2, rfl, hi⟩, hb⟩
        try go_simp
        have H1 := Lib.hid (H1.out.keep hb)
        have N4 := Lib.hid (N4.out.keep hb)
        have N5 := Lib.hid (N5.out.keep hb)
        have H3 := Lib.hid hi
        refine hK.out _ _ ?_ (fun hHeld' => ?_)
        · exact ⟨hHeld.1.keep hb, hHeld.2.1.keep hb, hHeld.2.2.trans (hb.mono hHeld.2.2.size)⟩
        clear hK K hHeld
        have hHeld := hHeld'
        clear hHeld'
        try simp only [Act.put, List.getElem_toArray, List.getElem_cons_succ, List.getElem_cons_zero, List.setIfInBounds_toArray, List.set_cons_zero, List.set_cons_succ]
        clear hi hb
        have LF := Lib.hid (dif_leaf hHeld.2.2 N4.out N5.out HNE.out H1.out H3.out HC.out HD.out LP.out.1 LQ.out.1)
        refine wpAnyH_ready (rs := [6]) (by kernel_rfl) (by simp) ?_
        refine AllReadyH.cons rfl (fun K hK => ?_) AllReadyH.nil
        rw [if_pos (by rfl)]
        refine wp_store_row 36 (.tmp 5) (.tmp 13) (by rfl) P (cA c A1 n1 m1) (by rfl) (by rfl) 36 (cA (zeroC 0) none 0 0) N4.out (info24 c A1 n1 m1) (by rfl) (all24 c A1 n1 m1) ?_
        refine hK.out _ _ ?_ (fun hHeld' => ?_)
        · exact ⟨hHeld.1.grown (setRow_grown _ _ _) (fun e => LP.out.2.1 (Option.some.inj e)), hHeld.2.1.grown (setRow_grown _ _ _) (fun e => LP.out.2.2 (Option.some.inj e)), hHeld.2.2.grown (setRow_grown _ _ _) hHeld.2.2.size (fun k e => by cases e; exact LP.out.1)⟩
        clear hK K hHeld
        have hHeld := hHeld'
        clear hHeld'
        try simp only [Act.put, List.getElem_toArray, List.getElem_cons_succ, List.getElem_cons_zero]
        refine wpAnyH_ready (rs := [7]) (by kernel_rfl) (by simp) ?_
        refine AllReadyH.cons rfl (fun K hK => ?_) AllReadyH.nil
        rw [if_pos (by rfl)]
        refine wp_store_row 36 (.tmp 6) (.tmp 15) (by rfl) Q (cA d A2 n2 m2) (by rfl) (by rfl) 36 (cA (zeroC 0) none 0 0) LF.out.1 (info24 d A2 n2 m2) (by rfl) (all24 d A2 n2 m2) ?_
        refine hK.out _ _ ?_ (fun hHeld' => ?_)
        · exact ⟨hHeld.1.grown (setRow_grown _ _ _) (fun e => LQ.out.2.1 (Option.some.inj e)), hHeld.2.1.grown (setRow_grown _ _ _) (fun e => LQ.out.2.2 (Option.some.inj e)), hHeld.2.2.grown (setRow_grown _ _ _) hHeld.2.2.size (fun k e => by cases e; exact LQ.out.1)⟩
        clear hK K hHeld
        have hHeld := hHeld'
        clear hHeld'
        try simp only [Act.put, List.getElem_toArray, List.getElem_cons_succ, List.getElem_cons_zero]
        refine wpAnyH_done (by kernel_rfl) ?_ _
        have LG := Lib.hid LF.out.2
        clear hHeld H1 H3 N4 N5 LF LP LQ HNE
        go_wp2_with fail
        go_meet
        case rel => exact ⟨P, Q, A1, n1, m1, A2, n2, m2, rfl, rfl, LG⟩
    · go_simp
      rw [← zero24 0]
      have ba := (Below.refl wz.heap.size wz).alloc (Nat.le_refl _) (.cells (cA (zeroC 0) none 0 0) 36)
      have N5 := Lib.hid (Whole.new wz 36 (cA (zeroC 0) none 0 0))
      have LQ := Lib.hid (And.intro hHeld.2.2.size (And.intro (Nat.ne_of_lt hHeld.1.lt) (Nat.ne_of_lt hHeld.2.1.lt)))
      refine hK.out _ _ ?_ (fun hHeld' => ?_)
      · exact ⟨hHeld.1.keep ba, hHeld.2.1.keep ba, hHeld.2.2.alloc hHeld.2.2.size _⟩
      clear hK K hHeld
      have hHeld := hHeld'
      clear hHeld'
      try simp only [Act.put, List.getElem_toArray, List.getElem_cons_succ, List.getElem_cons_zero, List.setIfInBounds_toArray, List.set_cons_zero, List.set_cons_succ]
      clear ba
      generalize (wz.alloc (.cells (cA (zeroC 0) none 0 0) 36)) = v0 at hHeld N5 ⊢
      generalize wz.heap.size = Q at LQ N5 ⊢
      refine wpAnyH_ready (rs := [1, 4]) (by kernel_rfl) (by simp) ?_
      refine AllReadyH.cons rfl (fun K hK => ?_) (AllReadyH.cons rfl (fun K hK => ?_) AllReadyH.nil)
      · go_simp
        refine (MX.out _ hHeld.2.2).mono ?_
        rintro e v1 ⟨⟨A1, n1, m1, rfl, hi⟩, hb⟩
        try go_simp
        have N5 := Lib.hid (N5.out.keep hb)
        have H1 := Lib.hid hi
        refine hK.out _ _ ?_ (fun hHeld' => ?_)
        · exact ⟨hHeld.1.keep hb, hHeld.2.1.keep hb, hHeld.2.2.trans (hb.mono hHeld.2.2.size)⟩
        clear hK K hHeld
        have hHeld := hHeld'
        clear hHeld'
        try simp only [Act.put, List.getElem_toArray, List.getElem_cons_succ, List.getElem_cons_zero, List.setIfInBounds_toArray, List.set_cons_zero, List.set_cons_succ]
        clear hi hb
        refine wpAnyH_ready (rs := [3, 4]) (by kernel_rfl) (by simp) ?_
        refine AllReadyH.cons rfl (fun K hK => ?_) (AllReadyH.cons rfl (fun K hK => ?_) AllReadyH.nil)
        · go_simp
          refine (MY.out _ hHeld.2.2).mono ?_
          rintro e v2 ⟨⟨A2, n2, m2, rfl, hi⟩, hb⟩
          try go_simp
          have H1 := Lib.hid (H1.out.keep hb)
          have N5 := Lib.hid (N5.out.keep hb)
          have H3 := Lib.hid hi
          refine hK.out _ _ ?_ (fun hHeld' => ?_)
          · exact ⟨hHeld.1.keep hb, hHeld.2.1.keep hb, hHeld.2.2.trans (hb.mono hHeld.2.2.size)⟩
          clear hK K hHeld
          have hHeld := hHeld'
          clear hHeld'
          try simp only [Act.put, List.getElem_toArray, List.getElem_cons_succ, List.getElem_cons_zero, List.setIfInBounds_toArray, List.set_cons_zero, List.set_cons_succ]
          clear hi hb
          refine wpAnyH_ready (rs := [4]) (by kernel_rfl) (by simp) ?_
          refine AllReadyH.cons rfl (fun K hK => ?_) AllReadyH.nil
          go_simp
          rw [← zero24 0]
          have ba := (Below.refl v2.heap.size v2).alloc (Nat.le_refl _) (.cells (cA (zeroC 0) none 0 0) 36)
          have HNE := Lib.hid (Nat.ne_of_gt N5.out.lt)
          have H1 := Lib.hid (H1.out.keep ba)
          have H3 := Lib.hid (H3.out.keep ba)
          have N5 := Lib.hid (N5.out.keep ba)
          have N4 := Lib.hid (Whole.new v2 36 (cA (zeroC 0) none 0 0))
          have LP := Lib.hid (And.intro hHeld.2.2.size (And.intro (Nat.ne_of_lt hHeld.1.lt) (Nat.ne_of_lt hHeld.2.1.lt)))
          refine hK.out _ _ ?_ (fun hHeld' => ?_)
          · exact ⟨hHeld.1.keep ba, hHeld.2.1.keep ba, hHeld.2.2.alloc hHeld.2.2.size _⟩
          clear hK K hHeld
          have hHeld := hHeld'
          clear hHeld'
          try simp only [Act.put, List.getElem_toArray, List.getElem_cons_succ, List.getElem_cons_zero, List.setIfInBounds_toArray, List.set_cons_zero, List.set_cons_succ]
          clear ba
          generalize (v2.alloc (.cells (cA (zeroC 0) none 0 0) 36)) = v3 at hHeld H1 H3 N4 N5 ⊢
          generalize v2.heap.size = P at LP N4 HNE ⊢
          have LF := Lib.hid (dif_leaf hHeld.2.2 N4.out N5.out HNE.out H1.out H3.out HC.out HD.out LP.out.1 LQ.out.1)
          refine wpAnyH_ready (rs := [6]) (by kernel_rfl) (by simp) ?_
          refine AllReadyH.cons rfl (fun K hK => ?_) AllReadyH.nil
          rw [if_pos (by rfl)]
          refine wp_store_row 36 (.tmp 5) (.tmp 13) (by rfl) P (cA c A1 n1 m1) (by rfl) (by rfl) 36 (cA (zeroC 0) none 0 0) N4.out (info24 c A1 n1 m1) (by rfl) (all24 c A1 n1 m1) ?_
          refine hK.out _ _ ?_ (fun hHeld' => ?_)
          · exact ⟨hHeld.1.grown (setRow_grown _ _ _) (fun e => LP.out.2.1 (Option.some.inj e)), hHeld.2.1.grown (setRow_grown _ _ _) (fun e => LP.out.2.2 (Option.some.inj e)), hHeld.2.2.grown (setRow_grown _ _ _) hHeld.2.2.size (fun k e => by cases e; exact LP.out.1)⟩
          clear hK K hHeld
          have hHeld := hHeld'
          clear hHeld'
          try simp only [Act.put, List.getElem_toArray, List.getElem_cons_succ, List.getElem_cons_zero]
          refine wpAnyH_ready (rs := [7]) (by kernel_rfl) (by simp) ?_
          refine AllReadyH.cons rfl (fun K hK => ?_) AllReadyH.nil
          rw [if_pos (by rfl)]
          refine wp_store_row 36 (.tmp 6) (.tmp 15) (by rfl) Q (cA d A2 n2 m2) (by rfl) (by rfl) 36 (cA (zeroC 0) none 0 0) LF.out.1 (info24 d A2 n2 m2) (by rfl) (all24 d A2 n2 m2) ?_
          refine hK.out _ _ ?_ (fun hHeld' => ?_)
          · exact ⟨hHeld.1.grown (setRow_grown _ _ _) (fun e => LQ.out.2.1 (Option.some.inj e)), hHeld.2.1.grown (setRow_grown _ _ _) (fun e => LQ.out.2.2 (Option.some.inj e)), hHeld.2.2.grown (setRow_grown _ _ _) hHeld.2.2.size (fun k e => by cases e; exact LQ.out.1)⟩
          clear hK K hHeld
          have hHeld := hHeld'
          clear hHeld'
          try simp only [Act.put, List.getElem_toArray, List.getElem_cons_succ, List.getElem_cons_zero]
          refine wpAnyH_done (by kernel_rfl) ?_ _
          have LG := Lib.hid LF.out.2
          clear hHeld H1 H3 N4 N5 LF LP LQ HNE
          go_wp2_with fail
          go_meet
          case rel => exact ⟨P, Q, A1, n1, m1, A2, n2, m2, rfl, rfl, LG⟩
        · go_simp
          rw [← zero24 0]
          have ba := (Below.refl v1.heap.size v1).alloc (Nat.le_refl _) (.cells (cA (zeroC 0) none 0 0) 36)
          have HNE := Lib.hid (Nat.ne_of_gt N5.out.lt)
          have H1 := Lib.hid (H1.out.keep ba)
          have N5 := Lib.hid (N5.out.keep ba)
          have N4 := Lib.hid (Whole.new v1 36 (cA (zeroC 0) none 0 0))
          have LP := Lib.hid (And.intro hHeld.2.2.size (And.intro (Nat.ne_of_lt hHeld.1.lt) (Nat.ne_of_lt hHeld.2.1.lt)))
          refine hK.out _ _ ?_ (fun hHeld' => ?_)
          · exact ⟨hHeld.1.keep ba, hHeld.2.1.keep ba, hHeld.2.2.alloc hHeld.2.2.size _⟩
          clear hK K hHeld
          have hHeld := hHeld'
          clear hHeld'
          try simp only [Act.put, List.getElem_toArray, List.getElem_cons_succ, List.getElem_cons_zero, List.setIfInBounds_toArray, List.set_cons_zero, List.set_cons_succ]
          clear ba
          generalize (v1.alloc (.cells (cA (zeroC 0) none 0 0) 36)) = v2 at hHeld H1 N4 N5 ⊢
          generalize v1.heap.size = P at LP N4 HNE ⊢
          refine wpAnyH_ready (rs := [3]) (by kernel_rfl) (by simp) ?_
          refine AllReadyH.cons rfl (fun K hK => ?_) AllReadyH.nil
          go_simp
          refine (MY.out _ hHeld.2.2).mono ?_
          rintro e v3 ⟨⟨A2, n2, m2, rfl, hi⟩, hb⟩
          try go_simp
          have H1 := Lib.hid (H1.out.keep hb)
          have N4 := Lib.hid (N4.out.keep hb)
          have N5 := Lib.hid (N5.out.keep hb)
          have H3 := Lib.hid hi
          refine hK.out _ _ ?_ (fun hHeld' => ?_)
          · exact ⟨hHeld.1.keep hb, hHeld.2.1.keep hb, hHeld.2.2.trans (hb.mono hHeld.2.2.size)⟩
          clear hK K hHeld
          have hHeld := hHeld'
          clear hHeld'
          try simp only [Act.put, List.getElem_toArray, List.getElem_cons_succ, List.getElem_cons_zero, List.setIfInBounds_toArray, List.set_cons_zero, List.set_cons_succ]
          clear hi hb
          have LF := Lib.hid (dif_leaf hHeld.2.2 N4.out N5.out HNE.out H1.out H3.out HC.out HD.out LP.out.1 LQ.out.1)
          refine wpAnyH_ready (rs := [6]) (by kernel_rfl) (by simp) ?_
          refine AllReadyH.cons rfl (fun K hK => ?_) AllReadyH.nil
          rw [if_pos (by rfl)]
          refine wp_store_row 36 (.tmp 5) (.tmp 13) (by rfl) P (cA c A1 n1 m1) (by rfl) (by rfl) 36 (cA (zeroC 0) none 0 0) N4.out (info24 c A1 n1 m1) (by rfl) (all24 c A1 n1 m1) ?_
          refine hK.out _ _ ?_ (fun hHeld' => ?_)
          · exact ⟨hHeld.1.grown (setRow_grown _ _ _) (fun e => LP.out.2.1 (Option.some.inj e)), hHeld.2.1.grown (setRow_grown _ _ _) (fun e => LP.out.2.2 (Option.some.inj e)), hHeld.2.2.grown (setRow_grown _ _ _) hHeld.2.2.size (fun k e => by cases e; exact LP.out.1)⟩
          clear hK K hHeld
          have hHeld := hHeld'
          clear hHeld'
          try simp only [Act.put, List.getElem_toArray, List.getElem_cons_succ, List.getElem_cons_zero]
          refine wpAnyH_ready (rs := [7]) (by kernel_rfl) (by simp) ?_
          refine AllReadyH.cons rfl (fun K hK => ?_) AllReadyH.nil
          rw [if_pos (by rfl)]
          refine wp_store_row 36 (.tmp 6) (.tmp 15) (by rfl) Q (cA d A2 n2 m2) (by rfl) (by rfl) 36 (cA (zeroC 0) none 0 0) LF.out.1 (info24 d A2 n2 m2) (by rfl) (all24 d A2 n2 m2) ?_
          refine hK.out _ _ ?_ (fun hHeld' => ?_)
          · exact ⟨hHeld.1.grown (setRow_grown _ _ _) (fun e => LQ.out.2.1 (Option.some.inj e)), hHeld.2.1.grown (setRow_grown _ _ _) (fun e => LQ.out.2.2 (Option.some.inj e)), hHeld.2.2.grown (setRow_grown _ _ _) hHeld.2.2.size (fun k e => by cases e; exact LQ.out.1)⟩
          clear hK K hHeld
          have hHeld := hHeld'
          clear hHeld'
          try simp only [Act.put, List.getElem_toArray, List.getElem_cons_succ, List.getElem_cons_zero]
          refine wpAnyH_done (by kernel_rfl) ?_ _
          have LG := Lib.hid LF.out.2
          clear hHeld H1 H3 N4 N5 LF LP LQ HNE
          go_wp2_with fail
          go_meet
          case rel => exact ⟨P, Q, A1, n1, m1, A2, n2, m2, rfl, rfl, LG⟩
      · go_simp
        rw [← zero24 0]
        have ba := (Below.refl v0.heap.size v0).alloc (Nat.le_refl _) (.cells (cA (zeroC 0) none 0 0) 36)
        have HNE := Lib.hid (Nat.ne_of_gt N5.out.lt)
        have N5 := Lib.hid (N5.out.keep ba)
        have N4 := Lib.hid (Whole.new v0 36 (cA (zeroC 0) none 0 0))
        have LP := Lib.hid (And.intro hHeld.2.2.size (And.intro (Nat.ne_of_lt hHeld.1.lt) (Nat.ne_of_lt hHeld.2.1.lt)))
        refine hK.out _ _ ?_ (fun hHeld' => ?_)
        · exact ⟨hHeld.1.keep ba, hHeld.2.1.keep ba, hHeld.2.2.alloc hHeld.2.2.size _⟩
        clear hK K hHeld
        have hHeld := hHeld'
        clear hHeld'
        try simp only [Act.put, List.getElem_toArray, List.getElem_cons_succ, List.getElem_cons_zero, List.setIfInBounds_toArray, List.set_cons_zero, List.set_cons_succ]
        clear ba
        generalize (v0.alloc (.cells (cA (zeroC 0) none 0 0) 36)) = v1 at hHeld N4 N5 ⊢
        generalize v0.heap.size = P at LP N4 HNE ⊢
        refine wpAnyH_ready (rs := [1]) (by kernel_rfl) (by simp) ?_
        refine AllReadyH.cons rfl (fun K hK => ?_) AllReadyH.nil
        go_simp
        refine (MX.out _ hHeld.2.2).mono ?_
        rintro e v2 ⟨⟨A1, n1, m1, rfl, hi⟩, hb⟩
        try go_simp
        have N4 := Lib.hid (N4.out.keep hb)
        have N5 := Lib.hid (N5.out.keep hb)
        have H1 := Lib.hid hi
        refine hK.out _ _ ?_ (fun hHeld' => ?_)
        · exact ⟨hHeld.1.keep hb, hHeld.2.1.keep hb, hHeld.2.2.trans (hb.mono hHeld.2.2.size)⟩
        clear hK K hHeld
        have hHeld := hHeld'
        clear hHeld'
        try simp only [Act.put, List.getElem_toArray, List.getElem_cons_succ, List.getElem_cons_zero, List.setIfInBounds_toArray, List.set_cons_zero, List.set_cons_succ]
        clear hi hb
        refine wpAnyH_ready (rs := [3]) (by kernel_rfl) (by simp) ?_
        refine AllReadyH.cons rfl (fun K hK => ?_) AllReadyH.nil
        go_simp
        refine (MY.out _ hHeld.2.2).mono ?_
        rintro e v3 ⟨⟨A2, n2, m2, rfl, hi⟩, hb⟩
        try go_simp
        have H1 := Lib.hid (H1.out.keep hb)
        have N4 := Lib.hid (N4.out.keep hb)
        have N5 := Lib.hid (N5.out.keep hb)
        have H3 := Lib.hid hi
        refine hK.out _ _ ?_ (fun hHeld' => ?_)
        · exact ⟨hHeld.1.keep hb, hHeld.2.1.keep hb, hHeld.2.2.trans (hb.mono hHeld.2.2.size)⟩
        clear hK K hHeld
        have hHeld := hHeld'
        clear hHeld'
        try simp only [Act.put, List.getElem_toArray, List.getElem_cons_succ, List.getElem_cons_zero, List.setIfInBounds_toArray, List.set_cons_zero, List.set_cons_succ]
        clear hi hb
        have LF := Lib.hid (dif_leaf hHeld.2.2 N4.out N5.out HNE.out H1.out H3.out HC.out HD.out LP.out.1 LQ.out.1)
        refine wpAnyH_ready (rs := [6]) (by kernel_rfl) (by simp) ?_
        refine AllReadyH.cons rfl (fun K hK => ?_) AllReadyH.nil
        rw [if_pos (by rfl)]
        refine wp_store_row 36 (.tmp 5) (.tmp 13) (by rfl) P (cA c A1 n1 m1) (by rfl) (by rfl) 36 (cA (zeroC 0) none 0 0) N4.out (info24 c A1 n1 m1) (by rfl) (all24 c A1 n1 m1) ?_
        refine hK.out _ _ ?_ (fun hHeld' => ?_)
        · exact ⟨hHeld.1.grown (setRow_grown _ _ _) (fun e => LP.out.2.1 (Option.some.inj e)), hHeld.2.1.grown (setRow_grown _ _ _) (fun e => LP.out.2.2 (Option.some.inj e)), hHeld.2.2.grown (setRow_grown _ _ _) hHeld.2.2.size (fun k e => by cases e; exact LP.out.1)⟩
        clear hK K hHeld
        have hHeld := hHeld'
        clear hHeld'
        try simp only [Act.put, List.getElem_toArray, List.getElem_cons_succ, List.getElem_cons_zero]
        refine wpAnyH_ready (rs := [7]) (by kernel_rfl) (by simp) ?_
        refine AllReadyH.cons rfl (fun K hK => ?_) AllReadyH.nil
        rw [if_pos (by rfl)]
        refine wp_store_row 36 (.tmp 6) (.tmp 15) (by rfl) Q (cA d A2 n2 m2) (by rfl) (by rfl) 36 (cA (zeroC 0) none 0 0) LF.out.1 (info24 d A2 n2 m2) (by rfl) (all24 d A2 n2 m2) ?_
        refine hK.out _ _ ?_ (fun hHeld' => ?_)
        · exact ⟨hHeld.1.grown (setRow_grown _ _ _) (fun e => LQ.out.2.1 (Option.some.inj e)), hHeld.2.1.grown (setRow_grown _ _ _) (fun e => LQ.out.2.2 (Option.some.inj e)), hHeld.2.2.grown (setRow_grown _ _ _) hHeld.2.2.size (fun k e => by cases e; exact LQ.out.1)⟩
        clear hK K hHeld
        have hHeld := hHeld'
        clear hHeld'
        try simp only [Act.put, List.getElem_toArray, List.getElem_cons_succ, List.getElem_cons_zero]
        refine wpAnyH_done (by kernel_rfl) ?_ _
        have LG := Lib.hid LF.out.2
        clear hHeld H1 H3 N4 N5 LF LP LQ HNE
        go_wp2_with fail
        go_meet
        case rel => exact ⟨P, Q, A1, n1, m1, A2, n2, m2, rfl, rfl, LG⟩
  case rest =>
  generalize wc = w2 at hcut ⊢
  obtain ⟨P, Q, A1, n1, m1, A2, n2, m2, rfl, rfl, hI⟩ := hcut
  have I2 := hI
  clear hI SA hu hi1 hi2 hRX hRY MX MY
  have ENC := Lib.hid ((cencode_any c A1 n1 m1 w2 (HE.out.keep I2.out.1) I2.out.2.1.i).mono (R' := fun e w' => (∃ A n m, e = .returned (.tuple #[.slice A n m, .int .i64 0]) ∧ SlB w' A n (bytesC c)) ∧ Below w2.heap.size w2 w') (fun e w' ⟨⟨A, n, m, he, hs, _⟩, hb⟩ => by
    have hv := encBC_yes HC.out (by have := HCL.out; omega)
    rw [hv.2] at he
    rw [hv.1] at hs
    exact ⟨⟨A, n, m, he, hs⟩, hb⟩))
  go_upto_region 3 with (first
    | (refine wpList_load_row (by rfl) 36 (.tmp 5) (by rfl) _ (by rfl) 36 (cA c A1 n1 m1) (0, 0) _ I2.out.2.1.w Tryz.underlying36 (by rfl) (info24 c A1 n1 m1) ?_)
    | (go_at_call 26; refine ENC.out.mono ?_; rintro e w3 ⟨⟨B1, k1, j1, rfl, hs⟩, hb⟩; have I3 := Lib.hid (And.intro (I2.out.1.trans (hb.mono I2.out.1.size)) (And.intro (I2.out.2.1.keep hb) (And.intro (I2.out.2.2.keep hb) hs))); clear hb hs ENC))
  clear I2
  have ENC := Lib.hid ((cencode_any d A2 n2 m2 w3 (HE.out.keep I3.out.1) I3.out.2.2.1.i).mono (R' := fun e w' => (∃ A n m, e = .returned (.tuple #[.slice A n m, .int .i64 0]) ∧ SlB w' A n (bytesC d)) ∧ Below w3.heap.size w3 w') (fun e w' ⟨⟨A, n, m, he, hs, _⟩, hb⟩ => by
    have hv := encBC_yes HD.out (by have := HDL.out; omega)
    rw [hv.2] at he
    rw [hv.1] at hs
    exact ⟨⟨A, n, m, he, hs⟩, hb⟩))
  go_upto_region 4 with (first
    | (refine wpList_load_row (by rfl) 36 (.tmp 6) (by rfl) _ (by rfl) 36 (cA d A2 n2 m2) (0, 0) _ I3.out.2.2.1.w Tryz.underlying36 (by rfl) (info24 d A2 n2 m2) ?_)
    | (go_at_call 26; refine ENC.out.mono ?_; rintro e w4 ⟨⟨B2, k2, j2, rfl, hs⟩, hb⟩; have I4 := Lib.hid (And.intro (I3.out.1.trans (hb.mono I3.out.1.size)) (And.intro (I3.out.2.1.keep hb) (And.intro (I3.out.2.2.1.keep hb) (And.intro (I3.out.2.2.2.keep hb) hs)))); clear hb hs ENC))
  clear I3
  obtain ⟨q, hq⟩ : ∃ q : Bool, q = true ↔ c = d := by
    by_cases e : c = d
    · exact ⟨true, ⟨fun _ => e, fun _ => rfl⟩⟩
    · exact ⟨false, ⟨(fun h => by cases h), fun h => absurd h e⟩⟩
  have EQ1 := Lib.hid ((equal_any c d A1 A2 n1 n2 m1 m2 w4 I4.out.2.1.i I4.out.2.2.1.i).mono (R' := fun e w' => e = .returned (.bool q) ∧ Below w4.heap.size w4 w') (fun e w' hh => by
    unfold BoolR at hh
    obtain ⟨⟨b, he, hb⟩, hw⟩ := hh
    exact ⟨by rw [he, show b = q from Bool.eq_iff_iff.2 (hb.trans hq.symm)], hw⟩))
  have EQ2 := Lib.hid (fun (W : World) (h1 : CmdIn W c A1 n1 m1) (h2 : CmdIn W d A2 n2 m2) => (equal_any d c A2 A1 n2 n1 m2 m1 W h2 h1).mono (R' := fun e w' => e = .returned (.bool q) ∧ Below W.heap.size W w') (fun e w' hh => by
    unfold BoolR at hh
    obtain ⟨⟨b, he, hb⟩, hw⟩ := hh
    exact ⟨by rw [he, show b = q from Bool.eq_iff_iff.2 (hb.trans (eq_comm.trans hq.symm))], hw⟩))
  have HQB : Hid ((bytesC c == bytesC d) = q) := Lib.hid (by
    have h := bytesC_iff HC.out HD.out
    exact Bool.eq_iff_iff.2 ((beq_iff_eq).trans (h.2.trans hq.symm)))
  have hqq : (q == q) = true := beq_self_eq_true q
  clear hq HC HD HCL HDL
  go_upto_region 5 with (first
    | (refine wpList_load_row (by rfl) 36 (.tmp 5) (by rfl) _ (by rfl) 36 (cA c A1 n1 m1) (0, 0) _ I4.out.2.1.w Tryz.underlying36 (by rfl) (info24 c A1 n1 m1) ?_)
    | (refine wpList_load_row (by rfl) 36 (.tmp 6) (by rfl) _ (by rfl) 36 (cA d A2 n2 m2) (0, 0) _ I4.out.2.2.1.w Tryz.underlying36 (by rfl) (info24 d A2 n2 m2) ?_)
    | (go_at_call 34; refine EQ1.out.mono ?_; rintro e w5 ⟨rfl, hb⟩; have I5 := Lib.hid (And.intro (I4.out.1.trans (hb.mono I4.out.1.size)) (And.intro (I4.out.2.1.keep hb) (And.intro (I4.out.2.2.1.keep hb) (And.intro (I4.out.2.2.2.1.keep hb) (I4.out.2.2.2.2.keep hb))))); clear hb EQ1))
  clear I4
  have BE := Lib.hid ((bEq_any B1 B2 k1 k2 j1 j2 _ _ w5 I5.out.2.2.2.1 I5.out.2.2.2.2).mono (R' := fun e w' => e = .returned (.bool q) ∧ w5 = w') (fun e w' ⟨he, hw⟩ => ⟨by rw [he, HQB.out], hw⟩))
  have EQ3 := Lib.hid (EQ2.out w5 I5.out.2.1.i I5.out.2.2.1.i)
  clear EQ2 HQB
  go_wp2_with (first
    | (go_at_call 19; refine BE.out.mono ?_; rintro e v ⟨rfl, rfl⟩)
    | (refine wpList_load_rowG (by rfl) 36 (.tmp 6) (by rfl) _ (by rfl) 36 (cA d A2 n2 m2) (0, 0) _ I5.out.2.2.1.w Tryz.underlying36 (by rfl) (info24 d A2 n2 m2) ?_)
    | (refine wpList_load_rowG (by rfl) 36 (.tmp 5) (by rfl) _ (by rfl) 36 (cA c A1 n1 m1) (0, 0) _ I5.out.2.1.w Tryz.underlying36 (by rfl) (info24 c A1 n1 m1) ?_)
    | (go_at_call 34; refine EQ3.out.mono ?_; rintro e w6 ⟨rfl, hb⟩; have B6 := Lib.hid (I5.out.1.trans (hb.mono I5.out.1.size)); have W1 := Lib.hid (WK.out w6 B6.out); clear hb)
    | (go_at_call 12; refine W1.out.mono ?_; rintro e w7 ⟨rfl, hb⟩; have B7 := Lib.hid (B6.out.trans (hb.mono B6.out.size)); clear hb))
  go_ret
  exact ⟨rfl, B7.out⟩
end Go.Proofs.YtgjnmfmbheejoaaGreatDoor
