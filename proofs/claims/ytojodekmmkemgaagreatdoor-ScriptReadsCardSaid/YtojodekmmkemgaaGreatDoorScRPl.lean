/- A text read as a script, by the reference. Condition: the text is no longer than 65,536 bytes. -/
import Derived.Test.YtojodekmmkemgaaGreatDoorScRPs
import Derived.Test.YtojodekmmkemgaaGreatDoorScLin
import Derived.Test.YtojodekmmkemgaaGreatDoorScPall
namespace Go.Proofs.YtojodekmmkemgaaGreatDoor
open Go.RowKit Go.Shelf

theorem row_lines {w : World} {B : Nat} {v : Value} {W : List ByteArray} (h : w.ownsRow B 9 1 v W.length (W.map sV)) : ∃ A c, v = .slice A W.length c ∧ ∀ (i : Nat) t, W[i]? = some t → ∃ g, A = some ⟨g, 0, none⟩ ∧ w.cell? ⟨g, i, none⟩ = some (.string t) := by
  rcases h.2 with ⟨h1, h2⟩ | ⟨g, cap, cur, h1, _, _⟩
  · refine ⟨none, 0, by rw [h1, h2], fun i t hi => ?_⟩
    have := (List.getElem?_eq_some_iff.1 hi).1
    omega
  · subst h1
    refine ⟨_, cap, rfl, fun i t hi => ⟨g, rfl, ?_⟩⟩
    have hlt := (List.getElem?_eq_some_iff.1 hi).1
    rw [h.cellAt _ (by omega), List.getElem?_map, hi]
    rfl
/-- What ParseAll holds in memory: the operations so far. -/
structure PlI (wL : World) (l : List Oq) (v : Value) (W : World) : Prop where
  bl : Below wL.heap.size wL W
  own : W.ownsRow wL.heap.size 34 10 v l.length (l.flatMap qL)
  ins : ∀ q ∈ l, OpIn W q.o q.A q.n q.m
  ne : ∀ q ∈ l, ∀ a : Addr, q.A = some a → q.o.d.s ≠ [] → some a.block ≠ v.ownBlock
  le : l.length ≤ 2000
theorem PlI.keep {wL W W' : World} {l : List Oq} {v : Value} (h : PlI wL l v W) (hb : Below W.heap.size W W') : PlI wL l v W' :=
  ⟨h.bl.trans (hb.mono h.bl.size), h.own.kept (gbelow hb) (Classical.em _), fun q hq => (h.ins q hq).keep hb, h.ne, h.le⟩
theorem PlI.app {wL W : World} {l : List Oq} {v : Value} (h : PlI wL l v W) (q : Oq) (hq : OpIn W q.o q.A q.n q.m) (hne : ∀ a : Addr, q.A = some a → q.o.d.s ≠ [] → some a.block ≠ v.ownBlock) (hl : l.length < 2000) :
    ∃ v' w', (Builtin.append_ #[24, 24] 24 #[v, .slice (some ⟨W.heap.size, 0, none⟩) 1 1]).run Tryz.prog (W.alloc (.cells (oA q.o q.A q.n q.m) 34)) = .ok v' w' ∧ PlI wL (l ++ [q]) v' w' := by
  have ba := (Below.refl W.heap.size W).alloc (Nat.le_refl _) (.cells (oA q.o q.A q.n q.m) 34)
  have K := h.keep ba
  have hin := hq.keep ba
  obtain ⟨v', w', hrun, h2, h3, h4⟩ := run_app_op (W.alloc (.cells (oA q.o q.A q.n q.m) 34)) wL.heap.size v l.length (l.flatMap qL) K.own ⟨W.heap.size, 0, none⟩ 1 1 (qL q) (by rw [qL_len]) (fun j u hu => by
      have ha : (⟨W.heap.size, 0, none⟩ : Addr).add j = ⟨W.heap.size, j, none⟩ := by unfold Addr.add; split <;> simp_all
      rw [ha, (Whole.new W 34 (oA q.o q.A q.n q.m)).cell, ← Array.getElem?_toList]
      exact hu) (fun u hu => by
      have h10 := all10 q.o q.A q.n q.m
      rw [Array.all_eq_true_iff_forall_mem] at h10
      exact h10 u (by unfold qL at hu; simpa using hu)) (by omega) K.bl.size
  refine ⟨v', w', hrun, K.bl.grown h3 K.bl.size (fun k e => (K.own.lt k e).1), ?_, fun p hp => ?_, fun p hp a ha hs => ?_, ?_⟩
  · rw [List.length_append, List.flatMap_append]
    simpa using h2
  · rcases List.mem_append.1 hp with hp | hp
    · exact ⟨(K.ins p hp).d.grown h3 (fun a ha hs => K.ne p hp a ha hs), (K.ins p hp).z⟩
    · rw [List.mem_singleton.1 hp]
      exact ⟨hin.d.grown h3 hne, hin.z⟩
  · rcases List.mem_append.1 hp with hp | hp
    · rcases h4 with e | e
      · rw [e]; exact K.ne p hp a ha hs
      · rw [e]
        have := slD_lt (K.ins p hp).d.s a ha hs
        intro e2
        have := Option.some.inj e2
        omega
    · rw [List.mem_singleton.1 hp] at ha hs
      rcases h4 with e | e
      · rw [e]; exact hne a ha hs
      · rw [e]
        have := slD_lt hin.d.s a ha hs
        intro e2
        have := Option.some.inj e2
        omega
  · rw [List.length_append, List.length_singleton]; omega
theorem pass_e : passL [] = true := rfl
theorem pass_c {l : List UInt8} (h : l[0]? = some 35) : passL l = true := by
  cases l with
  | nil => rfl
  | cons c r =>
    simp only [List.getElem?_cons_zero, Option.some.injEq] at h
    subst h
    rfl
theorem pass_n {l : List UInt8} {x : UInt8} (h : l[0]? = some x) (hx : x ≠ 35) : ¬ passL l = true := by
  cases l with
  | nil => simp at h
  | cons c r =>
    simp only [List.getElem?_cons_zero, Option.some.injEq] at h
    subst h
    unfold passL
    simpa using hx
set_option maxRecDepth 100000 in
set_option maxHeartbeats 8000000 in
theorem rpall_any (s : ByteArray) (w : World) (hs : s.size ≤ 65536) :
    Calls Tryz.prog 30 #[.string s] w fun e w' => PAllR s.data.toList w e w' := by
  have HT : Hid (paTop s.data.toList = paAll (linesL s.data.toList) 0 []) := Lib.hid (if_neg (by rw [szl]; omega))
  have h1 : ¬ ((65536 : Int) < (s.size : Int)) := by omega
  have LN := Lib.hid (lines_any s w (by omega))
  have HS := Lib.hid hs
  clear hs
  go_enter Tryz.func30, Tryz.ntmps30
  go_upto_region 5 with (go_at_call 72; refine LN.out.mono ?_; rintro e w1 ⟨⟨v, W, rfl, hl, hwl, hwz, hown⟩, hb⟩; have HLL := Lib.hid hl; have HWZ := Lib.hid hwz; have HWN := Lib.hid hwl; have HO := Lib.hid hown; have B1 := Lib.hid hb; clear hl hwl hwz hown hb LN)
  obtain ⟨A0, c0, rfl, hcell⟩ := row_lines HO.out
  have HCE := Lib.hid hcell
  obtain ⟨N, hN⟩ : ∃ N, N = W.length := ⟨_, rfl⟩
  have HN := Lib.hid hN
  rw [← hN]
  obtain ⟨WL, hWL⟩ : ∃ WL, WL = W.map (·.data.toList) := ⟨_, rfl⟩
  have HTW : Hid (paTop s.data.toList = paAll WL 0 []) := Lib.hid (by
    rw [HT.out, hWL]
    rcases HLL.out with h | h
    · rw [h]
    · rw [h, paAll_end])
  have HWL := Lib.hid hWL
  have hN6 : N ≤ 65537 := by rw [hN]; have := HWN.out; have := HS.out; omega
  clear hcell hN hWL
  go_wp2_with fail
  clear h1
  go_loopw [5, 7] (fun v iv wr => ∃ (l : List Oq) (i : Nat), iv = .int .i64 i ∧ i ≤ N ∧ Hid (PlI w1 l v wr) ∧ Hid (paAll WL 0 [] = paAll (WL.drop i) i (l.map (·.o)))) (fun _ iv _ => N - (intOf iv).toNat)
  case atStart => exact ⟨[], 0, rfl, by omega, Lib.hid ⟨Below.refl _ _, ⟨rfl, Or.inl ⟨rfl, rfl⟩⟩, (fun q h => by cases h), (fun q h => by cases h), Nat.zero_le _⟩, Lib.hid rfl⟩
  case round =>
    obtain ⟨l, i, rfl, hi, HI, HP⟩ := hrel
    obtain ⟨A3, c3, rfl, hmc⟩ := own_slice2 HI.out.own
    obtain ⟨m, hm⟩ : ∃ m, m = l.length := ⟨_, rfl⟩
    have HM := Lib.hid hm
    rw [← hm] at HI hmc ⊢
    have hm2 : m ≤ 2000 := by rw [hm]; exact HI.out.le
    clear hm
    have hi0 : (0 : Int) ≤ (i : Int) := by omega
    have hwi : IntKind.i64.wrap ((i : Int) + 1) = (i : Int) + 1 := IntWalk.i64_in _ (by omega)
    by_cases hiN : i < N
    · have hiI : (i : Int) < (N : Int) := by omega
      obtain ⟨t, ht⟩ : ∃ t, W[i]? = some t := ⟨_, List.getElem?_eq_getElem (by rw [← HN.out]; exact hiN)⟩
      obtain ⟨g, rfl, hc0⟩ := HCE.out i t ht
      have x0 : wr.cell? ⟨g, i, none⟩ = some (.string t) := bcell hc0 HI.out.bl
      have htz := HWZ.out t (List.mem_of_getElem? ht)
      have HDR : Hid (WL.drop i = t.data.toList :: WL.drop (i + 1)) := Lib.hid (by
        have h2 : WL[i]? = some t.data.toList := by rw [HWL.out, List.getElem?_map, ht]; rfl
        obtain ⟨hlt, he⟩ := List.getElem?_eq_some_iff.1 h2
        rw [List.drop_eq_getElem_cons hlt, he])
      have HTZ : Hid (t.size ≤ 65536) := Lib.hid (by have := HS.out; omega)
      clear ht hc0 htz
      by_cases hz : t.size = 0
      · have ht0 : t = ⟨#[]⟩ := ba_of (l := []) (List.length_eq_zero_iff.1 (by rw [szl]; exact hz))
        subst ht0
        have hee : ((⟨#[]⟩ : ByteArray).toList == (⟨#[]⟩ : ByteArray).toList) = true := beq_self_eq_true _
        have HP2 : Hid (paAll WL 0 [] = paAll (WL.drop (i + 1)) (i + 1) (l.map (·.o))) := Lib.hid (HP.out.trans (by rw [HDR.out]; exact paAll_pass pass_e _ _ _))
        clear hz
        go_wp2_with fail
        go_roundw
        case rel => exact ⟨l, i + 1, by go_num, by omega, HI, HP2⟩
        case measure => simp [intOf]; omega
      · have h0t : 0 < t.size := by omega
        have h0I : (0 : Int) < (t.size : Int) := by omega
        have hee0 : ¬ (t.toList = []) := fun e => hz (by rw [← szl, ← ByteArray.toList_eq, e]; rfl)
        have hee : t.toList.isEmpty = false := by cases h : t.toList with
          | nil => exact absurd h hee0
          | cons a r => rfl
        clear hee0
        obtain ⟨x, hx⟩ : ∃ x : UInt8, t[0]'h0t = x := ⟨_, rfl⟩
        have HX := Lib.hid (show t.data.toList[0]? = some x by rw [← hx]; exact Lib.data_getElem? t 0 h0t)
        by_cases hc : x = 35
        · subst hc
          have h35 : ((((35 : UInt8).toNat : Nat) : Int) == 35) = true := by decide
          have HP2 : Hid (paAll WL 0 [] = paAll (WL.drop (i + 1)) (i + 1) (l.map (·.o))) := Lib.hid (HP.out.trans (by rw [HDR.out]; exact paAll_pass (pass_c HX.out) _ _ _))
          clear hz
          go_wp2_with fail
          go_roundw
          case rel => exact ⟨l, i + 1, by go_num, by omega, HI, HP2⟩
          case measure => simp [intOf]; omega
        · have h35 : ((x.toNat : Int) == 35) = false := by rw [beq_eq_false_iff_ne]; intro e; exact hc (UInt8.toNat_inj.1 (show x.toNat = 35 by omega))
          have HNP := Lib.hid (pass_n HX.out hc)
          clear hz hc
          by_cases hfull : m = 2000
          · have hf1 : (2000 : Int) ≤ (m : Int) := by omega
            have HP2 : Hid (paAll WL 0 [] = ([], i + 1, 12)) := Lib.hid (HP.out.trans (by rw [HDR.out]; exact paAll_many HNP.out _ _ _ (by rw [List.length_map, ← HM.out]; exact hfull)))
            have BF := Lib.hid (B1.out.trans (HI.out.bl.mono B1.out.size))
            clear hfull
            go_wp2_with fail
            go_ret3
            exact ⟨[], none, 0, i + 1, 12, by rw [show ((i + 1 : Nat) : Int) = (i : Int) + 1 by omega]; rfl, by rw [HTW.out]; exact HP2.out, fun j q h => by simp at h, Nat.le_refl _, BF.out⟩
          · have hf1 : ¬ ((2000 : Int) ≤ (m : Int)) := by omega
            have PS := Lib.hid (roparse_any t wr (by have := HTZ.out; omega))
            unfold OParR at PS
            have HFR : Hid (∀ k, some k = (Value.slice A3 m c3).ownBlock → k < wr.heap.size) := Lib.hid (fun k e => (HI.out.own.lt k e.symm).2)
            have hm3 : m < 2000 := by omega
            clear hfull
            go_upto_region 12 with (first
              | (go_at_call 29; refine PS.out.mono ?_; rintro e w10 ⟨o, er, A4, n4, m4, rfl, hr, hin, hb, hfr⟩; have HR := Lib.hid hr; have ba := (Below.refl w10.heap.size w10).alloc (Nat.le_refl _) (.cells (oA o A4 n4 m4) 34); have I11 := Lib.hid (And.intro ((HI.out.keep hb).keep ba) (OpAt.new hin)); have HF2 : Hid (∀ a : Addr, A4 = some a → o.d.s ≠ [] → some a.block ≠ (Value.slice A3 m c3).ownBlock) := Lib.hid (fun a ha _ e => by have := hfr a ha; have := HFR.out a.block e; omega); clear hr hin hb hfr ba PS)
              | (refine wpList_store_row (by rfl) 34 (.tmp 8) (.tmp 45) (by rfl) _ (oA o A4 n4 m4) (by rfl) (by rfl) 34 _ (heap_alloc_new _ _) (info10 _ _ _ _) (by rfl) (all10 _ _ _ _) ?_; rw [World.setRow_alloc_new]))
            generalize w10.alloc (.cells (oA o A4 n4 m4) 34) = w11 at I11 ⊢
            generalize w10.heap.size = X at I11 ⊢
            by_cases her : er = 0
            · have HPV : Hid (parOV t.data.toList = (o, er)) := Lib.hid (parOV_of HR.out)
              have HP2 : Hid (paAll WL 0 [] = paAll (WL.drop (i + 1)) (i + 1) ((l ++ [(⟨o, A4, n4, m4⟩ : Oq)]).map (·.o))) := Lib.hid (HP.out.trans (by
                rw [HDR.out, paAll_op HNP.out _ _ _ (by rw [List.length_map, ← HM.out]; omega) (by rw [HPV.out]; exact her), HPV.out, List.map_append]
                rfl))
              obtain ⟨v', w', hrun, hpl⟩ := I11.out.1.app ⟨o, A4, n4, m4⟩ I11.out.2.i HF2.out (by rw [← HM.out]; exact hm3)
              have R := Lib.hid hrun
              have HPL := Lib.hid hpl
              subst her
              clear hrun hpl
              go_wp2_with (first
                | (refine wpList_load_row (by rfl) 34 (.tmp 8) (by rfl) _ (by rfl) 34 (oA o A4 n4 m4) (0, 0) _ I11.out.2.w Tryz.underlying34 (by rfl) (info10 o A4 n4 m4) ?_)
                | (refine Great.wpList_buildSliceTo (by rfl) 24 34 1 #[(0, .tmp 52)] (by rfl) w11.heap.size rfl (some 53) (by rfl) Tryz.underlying24 (oA o A4 n4 m4) (by kernel_rfl) ?_)
                | (at_builtin; refine wpList_append_run rfl (.tmp 51) (.tmp 53) 24 24 rfl rfl rfl R.out ?_))
              go_roundw
              case rel => exact ⟨l ++ [(⟨o, A4, n4, m4⟩ : Oq)], i + 1, by go_num, by omega, HPL, HP2⟩
              case measure => simp [intOf]; omega
            · have he : er = 10 := by
                rcases HR.out with ⟨h, _⟩ | ⟨h, _⟩
                · exact absurd h her
                · exact h
              subst he
              have HPV : Hid (parOV t.data.toList = (o, 10)) := Lib.hid (parOV_of HR.out)
              have HP2 : Hid (paAll WL 0 [] = ([], i + 1, 10)) := Lib.hid (HP.out.trans (by rw [HDR.out]; exact paAll_bad HNP.out _ _ _ (by rw [List.length_map, ← HM.out]; omega) (by rw [HPV.out]; show ¬ (10 : Int) = 0; decide)))
              have BF := Lib.hid (B1.out.trans (I11.out.1.bl.mono B1.out.size))
              clear her
              go_wp2_with fail
              go_ret3
              exact ⟨[], none, 0, i + 1, 10, by rw [show ((i + 1 : Nat) : Int) = (i : Int) + 1 by omega]; rfl, by rw [HTW.out]; exact HP2.out, fun j q h => by simp at h, Nat.le_refl _, BF.out⟩
    · obtain rfl : i = N := by omega
      have hnl : ¬ ((i : Int) < (i : Int)) := by omega
      have HP2 : Hid (paAll WL 0 [] = (l.map (·.o), 0, 0)) := Lib.hid (by rw [HP.out, List.drop_of_length_le (by rw [HWL.out, List.length_map, ← HN.out]; exact Nat.le_refl _)]; rfl)
      have HSL : Hid (SlO wr A3 l) := Lib.hid (slO_own (n := m) (by have h := HI.out.own; rw [← HM.out] at h; exact h) HM.out.symm HI.out.ins)
      have BF := Lib.hid (B1.out.trans (HI.out.bl.mono B1.out.size))
      clear hiN
      go_wp2_with fail
      go_ret3
      exact ⟨l, A3, c3, 0, 0, by rw [← HM.out]; rfl, by rw [HTW.out]; exact HP2.out, HSL.out, by rw [← HM.out]; exact hmc, BF.out⟩
end Go.Proofs.YtojodekmmkemgaaGreatDoor
