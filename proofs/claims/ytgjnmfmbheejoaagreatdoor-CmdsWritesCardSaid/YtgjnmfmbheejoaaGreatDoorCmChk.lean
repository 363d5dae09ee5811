/- Which commands cmds.Check allows. Condition: the program's own variables lie as its start lays them. -/
import Derived.Test.YtgjnmfmbheejoaaGreatDoorCmRow

namespace Go.Proofs.YtgjnmfmbheejoaaGreatDoor
open Go.RowKit Go.Shelf

theorem fieldsK_len (k : Int) : ((fieldsK k).getD []).length ≤ 3 := by
  cases h : fieldsK k with
  | none => simp
  | some l => rcases fieldsK_some h with h | h | h | h | h | h | h | h | h | h <;> (rw [h.2]; simp)
theorem ck_final (c : Cv) : cmdOk c ↔ ((fieldsK c.k).isSome = true ∧ ∀ x ∈ (fieldsK c.k).getD [], okF x c) ∧ clrA ((fieldsK c.k).getD []) c = zeroC c.k := by
  unfold cmdOk
  cases hf : fieldsK c.k with
  | none => simp
  | some l => simp
/-- What Check holds in memory. -/
structure ChkI (w : World) (c : Cv) (A : Option Addr) (n m B R : Nat) (L : List Cap) (c' : Cv) (W : World) : Prop where
  bl : Below w.heap.size w W
  cm : CmdAt W B c A n m
  cl : Caps W L
  rs : ∃ A' n' m', CmdAt W R c' A' n' m'
  o1 : w.heap.size ≤ B
  o2 : B < R
  s : ∀ a : Addr, A = some a → c.d.s ≠ [] → a.block < w.heap.size
theorem ChkI.keep {w W W' : World} {c c' : Cv} {A : Option Addr} {n m B R : Nat} {L : List Cap} (h : ChkI w c A n m B R L c' W) (hb : Below W.heap.size W W') : ChkI w c A n m B R L c' W' :=
  ⟨h.bl.trans (hb.mono h.bl.size), h.cm.keep hb, h.cl.keep hb, let ⟨A', n', m', hr⟩ := h.rs; ⟨A', n', m', hr.keep hb⟩, h.o1, h.o2, h.s⟩
theorem ChkI.clear {w W W' : World} {c c' c'' : Cv} {A A' : Option Addr} {n m n' m' B R : Nat} {L : List Cap} (h : ChkI w c A n m B R L c' W) (hg : W.grownBy W' (some R)) (hr : CmdAt W' R c'' A' n' m') : ChkI w c A n m B R L c'' W' := by
  obtain ⟨b, hc, hl, ⟨A0, n0, m0, hr0⟩, o1, o2, s⟩ := h
  exact ⟨b.grown hg b.size (fun k e => by cases e; omega), hc.grown hg (fun e => by have := Option.some.inj e; omega) (fun a ha hs e => by have := s a ha hs; have := Option.some.inj e; omega), hl.one hg hr0.w, ⟨A', n', m', hr⟩, o1, o2, s⟩
theorem take_all {p : Fl → Prop} {l : List Fl} {j : Nat} {x : Fl} (hx : l[j]? = some x) : (∀ y ∈ l.take (j + 1), p y) ↔ (∀ y ∈ l.take j, p y) ∧ p x := by
  rw [List.take_add_one, hx]
  simp only [Option.toList_some, List.mem_append, List.mem_singleton]
  exact ⟨fun h => ⟨fun y hy => h y (Or.inl hy), h x (Or.inr rfl)⟩, fun h y hy => hy.elim (h.1 y) (fun e => e ▸ h.2)⟩
theorem clrA_next {l : List Fl} {j : Nat} {x : Fl} (hx : l[j]? = some x) (c : Cv) : clrF x (clrA (l.take j) c) = clrA (l.take (j + 1)) c := by
  rw [List.take_add_one, hx]
  unfold clrA
  rw [List.foldl_append]
  rfl
theorem cmdIn_zero (W : World) (k : Int) (hk : In64 k) : CmdIn W (zeroC k) none 0 0 := ⟨defAt_zero W, by constructor <;> first | exact hk | exact in64_0 | exact (show (0 : Nat) ≤ _ from Nat.zero_le _)⟩
theorem ck_val {c : Cv} {b : Bool} (h : b = true ↔ cmdOk c) : ckC c = if b then 0 else 2 := by
  cases b with
  | true => rw [ckC_yes (h.1 rfl)]; rfl
  | false => rw [ckC_no (fun e => by cases h.2 e)]; rfl
set_option maxRecDepth 100000 in
set_option maxHeartbeats 8000000 in
theorem ccheck_any (c : Cv) (A : Option Addr) (n m : Nat) (w : World) (hE : DfE w) (h : CmdIn w c A n m) :
    Calls Tryz.prog 30 #[.agg (cA c A n m)] w fun e w' => e = .returned (.int .i64 (ckC c)) ∧ Below w.heap.size w w' := by
  have B1 := Lib.hid ((Below.refl w.heap.size w).alloc (Nat.le_refl _) (.cells (cA c A n m) 36))
  have C1 := Lib.hid (CmdAt.new h)
  have HE := Lib.hid hE
  have HS := Lib.hid (slD_lt h.d.s)
  have HKI := Lib.hid h.z.k
  have FK := fun V => fields_any c.k V
  have HCK := Lib.hid (ck_final c)
  have HN3 := fieldsK_len c.k
  unfold FldsR at FK
  generalize (fieldsK c.k).getD [] = l at FK HCK HN3
  generalize (fieldsK c.k).isSome = sm at FK HCK
  generalize (⟨(wordK c.k).toArray⟩ : ByteArray) = wd at FK
  have FK := Lib.hid FK
  clear hE h
  go_enter Tryz.func30, Tryz.ntmps30
  go_upto_region 1 with fail
  generalize w.alloc (.cells (cA c A n m) 36) = w1 at B1 C1 ⊢
  have HBW : Hid (∃ B, B = w.heap.size) := Lib.hid ⟨_, rfl⟩
  obtain ⟨B, hB⟩ := HBW.out
  rw [← hB] at C1
  rw [show ({ block := w.heap.size, off := 0 } : Addr) = { block := B, off := 0 } by rw [hB]]
  have HBB := Lib.hid (Nat.le_of_eq hB.symm)
  clear hB HBW
  have xk : w1.cell? ⟨B, 0, none⟩ = some (.int .i64 c.k) := C1.out.w.cell 0
  go_upto_region 2 with (go_at_call 48; refine (FK.out w1).mono ?_; rintro e w2 ⟨⟨Af, L, rfl, hfl⟩, hb⟩; have B2 := Lib.hid (B1.out.trans (hb.mono B1.out.size)); have C2 := Lib.hid (C1.out.keep hb); have HFL := Lib.hid hfl; clear hfl hb FK)
  clear xk B1 C1
  have R3 := CmdAt.new C2.out.i
  have b3 := (Below.refl w2.heap.size w2).alloc (Nat.le_refl _) (.cells (cA c A n m) 36)
  have I3 := Lib.hid (show ChkI w c A n m B w2.heap.size L (clrA (l.take 0) c) (w2.alloc (.cells (cA c A n m) 36)) from ⟨B2.out.trans (b3.mono B2.out.size), C2.out.keep b3, HFL.out.1.keep b3, ⟨A, n, m, R3⟩, HBB.out, C2.out.lt, HS.out⟩)
  clear R3 b3
  go_upto_region 3 with (first
    | (refine wpList_load_row rfl 36 (.tmp 1) rfl B rfl 36 (cA c A n m) (0, 0) _ C2.out.w Tryz.underlying36 rfl (info24 c A n m) ?_)
    | (refine wpList_store_row rfl 36 (.tmp 6) (.tmp 16) rfl _ (cA c A n m) rfl rfl 36 _ (heap_alloc_new _ _) (info24 c A n m) rfl (all24 c A n m) ?_; rw [World.setRow_alloc_new]))
  generalize w2.alloc (.cells (cA c A n m) 36) = w3 at I3 ⊢
  generalize w2.heap.size = R at I3 ⊢
  clear B2 C2 HBB HS
  have HFA := Lib.hid HFL.out.2
  have hNl : ∃ N, N = l.length := ⟨_, rfl⟩
  obtain ⟨N, hN⟩ := hNl
  rw [← hN]
  rw [← hN] at HN3
  have HN := Lib.hid hN
  clear hN HFL
  have J0 : Hid ((sm = true ↔ (sm = true ∧ ∀ x ∈ l.take 0, okF x c)) ∧ ChkI w c A n m B R L (clrA (l.take 0) c) w3) := Lib.hid ⟨by simp, I3.out⟩
  clear I3
  go_wp2_with fail
  go_loopw [5, 19] (fun ok i wr => ∃ (j : Nat) (b : Bool), j ≤ N ∧ i = .int .i64 j ∧ ok = .bool b ∧ Hid ((b = true ↔ (sm = true ∧ ∀ x ∈ l.take j, okF x c)) ∧ ChkI w c A n m B R L (clrA (l.take j) c) wr)) (fun _ i _ => N - (intOf i).toNat)
  case atStart => exact ⟨0, sm, by omega, rfl, rfl, J0⟩
  case round =>
    clear J0
    obtain ⟨j, b, hj, rfl, rfl, HI⟩ := hrel
    by_cases hjN : j < N
    · obtain ⟨x, hx⟩ : ∃ x, l[j]? = some x := ⟨_, List.getElem?_eq_getElem (by rw [← HN.out]; exact hjN)⟩
      obtain ⟨g, cs, a0, b0, a1, b1, a2, b2, a3, b3, a4, b4, rfl, hmem, ⟨e0, e1, e2, e3, e4⟩, hF⟩ := HFA.out j x hx
      have hcs := (HI.out.2.cl _ hmem).1
      have y0 : wr.cell? ⟨g, j * 5, none⟩ = some (fnv a0 b0) := (hcs.cell _).trans e0
      have y1 : wr.cell? ⟨g, j * 5 + 1, none⟩ = some (fnv a1 b1) := (hcs.cell _).trans e1
      have y2 : wr.cell? ⟨g, j * 5 + 2, none⟩ = some (fnv a2 b2) := (hcs.cell _).trans e2
      have y3 : wr.cell? ⟨g, j * 5 + 3, none⟩ = some (fnv a3 b3) := (hcs.cell _).trans e3
      have y4 : wr.cell? ⟨g, j * 5 + 4, none⟩ = some (fnv a4 b4) := (hcs.cell _).trans e4
      obtain ⟨gok, lok, ⟨vok, eok⟩, hok⟩ := hF.ok
      obtain ⟨gcl, lcl, ⟨vcl, ecl⟩, hcl⟩ := hF.cl
      cases vok
      cases vcl
      have ba := (Below.refl wr.heap.size wr).alloc (Nat.le_refl _) (.cells #[fnv a0 b0, fnv a1 b1, fnv a2 b2, fnv a3 b3, fnv a4 b4] 94)
      have I4 := Lib.hid (HI.out.2.keep ba)
      have N4 := Lib.hid (Whole.new wr 94 #[fnv a0 b0, fnv a1 b1, fnv a2 b2, fnv a3 b3, fnv a4 b4])
      have HX := Lib.hid (And.intro hx HI.out.1)
      have HCL := Lib.hid hcl
      have HOK := Lib.hid hok
      clear hcs hmem e0 e1 e2 e3 e4 hF ba hx hok hcl HI
      have hj0 : (j : Int) < (N : Int) := by omega
      have hwj : IntKind.i64.wrap ((j : Int) + 1) = (j : Int) + 1 := IntWalk.i64_in _ (by omega)
      have hR : ∃ F, F = wr.heap.size := ⟨_, rfl⟩
      go_upto_region 6 with fail
      generalize wr.alloc (.cells #[fnv a0 b0, fnv a1 b1, fnv a2 b2, fnv a3 b3, fnv a4 b4] 94) = w4 at I4 N4 ⊢
      generalize wr.heap.size = F at N4 ⊢
      clear y0 y1 y2 y3 y4 hR
      cases b with
      | true =>
        have OK := Lib.hid (HOK.out c A n m B w4 (HE.out.keep I4.out.bl) I4.out.cl I4.out.cm)
        have z0 : w4.cell? ⟨F, 0, none⟩ = some (fnv a0 b0) := N4.out.cell 0
        go_upto_region 7 with (go_at_fn a0; refine OK.out.mono ?_; rintro e w5 ⟨⟨b', rfl, hb'⟩, hb⟩; have I5 := Lib.hid (I4.out.keep hb); have z4 : w5.cell? ⟨F, 4, none⟩ = some (fnv a4 b4) := (N4.out.keep hb).cell 4; have HB' := Lib.hid hb'; clear hb hb' OK)
        obtain ⟨A5, n5, m5, hr⟩ := I5.out.rs
        have CL := Lib.hid (HCL.out (clrA (l.take j) c) A5 n5 m5 R w5 I5.out.cl hr)
        clear hr z0 I4 N4
        go_wp2_with (go_at_fn a4; refine CL.out.mono ?_; rintro e w6 ⟨rfl, hg, A6, n6, m6, hr6⟩; have I6 := Lib.hid (I5.out.clear hg hr6); clear hg hr6 CL)
        go_roundw
        case rel => exact ⟨j + 1, b', by omega, by go_num, rfl, Lib.hid ⟨by rw [take_all HX.out.1, HB'.out]; have := HX.out.2; simp only [true_iff] at this; exact ⟨fun h => ⟨this.1, this.2, h⟩, fun h => h.2.2⟩, by rw [← clrA_next HX.out.1]; exact I6.out⟩⟩
        case measure => simp [intOf]; omega
      | false =>
        have z4 : w4.cell? ⟨F, 4, none⟩ = some (fnv a4 b4) := N4.out.cell 4
        obtain ⟨A5, n5, m5, hr⟩ := I4.out.rs
        have CL := Lib.hid (HCL.out (clrA (l.take j) c) A5 n5 m5 R w4 I4.out.cl hr)
        clear hr N4
        go_wp2_with (go_at_fn a4; refine CL.out.mono ?_; rintro e w6 ⟨rfl, hg, A6, n6, m6, hr6⟩; have I6 := Lib.hid (I4.out.clear hg hr6); clear hg hr6 CL)
        go_roundw
        case rel => exact ⟨j + 1, false, by omega, by go_num, rfl, Lib.hid ⟨by rw [take_all HX.out.1]; have := HX.out.2; simp only [Bool.false_eq_true, false_iff] at this ⊢; exact fun h => this ⟨h.1, h.2.1⟩, by rw [← clrA_next HX.out.1]; exact I6.out⟩⟩
        case measure => simp [intOf]; omega
    · obtain rfl : j = N := by omega
      have HT : Hid ((b = true ↔ (sm = true ∧ ∀ x ∈ l, okF x c)) ∧ ChkI w c A n m B R L (clrA l c) wr) := Lib.hid (by have := HI.out; rw [HN.out, List.take_length] at this; exact this)
      clear HI
      have hnj : ¬ ((j : Int) < (j : Int)) := by omega
      cases b with
      | false =>
        have HV : Hid (ckC c = 2) := Lib.hid (ckC_no (fun e => by have := HT.out.1.2 (HCK.out.1 e).1; cases this))
        go_wp2_with fail
        go_ret
        exact ⟨by rw [HV.out]; rfl, HT.out.2.bl⟩
      | true =>
        obtain ⟨A5, n5, m5, hr⟩ := HT.out.2.rs
        by_cases hz : clrA l c = zeroC c.k
        · have HV : Hid (ckC c = 0) := Lib.hid (ckC_yes (HCK.out.2 ⟨HT.out.1.1 rfl, hz⟩))
          have EQ := equal_any (clrA l c) (zeroC c.k) A5 none n5 0 m5 0 wr hr.i (cmdIn_zero wr c.k HKI.out)
          have HRW := Lib.hid hr.w
          have HBF := Lib.hid HT.out.2.bl
          have xk : wr.cell? ⟨B, 0, none⟩ = some (.int .i64 c.k) := HT.out.2.cm.w.cell 0
          clear hr HT HCK HFA
          generalize clrA l c = c' at EQ HRW hz
          rw [zero24] at EQ
          have EQ := Lib.hid (EQ.mono (R' := fun e w' => e = .returned (.bool true) ∧ Below wr.heap.size wr w') (fun e w' ⟨⟨q, he, hq⟩, hb⟩ => ⟨by rw [he, hq.2 hz], hb⟩))
          clear hz
          go_wp2_with (first
            | (refine wpList_load_rowG (by rfl) 36 (.tmp 6) rfl R rfl 36 (cA c' A5 n5 m5) (0, 0) _ HRW.out Tryz.underlying36 rfl (info24 c' A5 n5 m5) ?_)
            | (go_at_call 34; refine EQ.out.mono ?_; rintro e w9 ⟨rfl, hb⟩; have B9 := Lib.hid (HBF.out.trans (hb.mono HBF.out.size)); clear hb))
          go_ret
          exact ⟨by rw [HV.out]; rfl, B9.out⟩
        · have HV : Hid (ckC c = 2) := Lib.hid (ckC_no (fun e => hz (HCK.out.1 e).2))
          have EQ := equal_any (clrA l c) (zeroC c.k) A5 none n5 0 m5 0 wr hr.i (cmdIn_zero wr c.k HKI.out)
          have HRW := Lib.hid hr.w
          have HBF := Lib.hid HT.out.2.bl
          have xk : wr.cell? ⟨B, 0, none⟩ = some (.int .i64 c.k) := HT.out.2.cm.w.cell 0
          clear hr HT HCK HFA
          generalize clrA l c = c' at EQ HRW hz
          rw [zero24] at EQ
          have EQ := Lib.hid (EQ.mono (R' := fun e w' => e = .returned (.bool false) ∧ Below wr.heap.size wr w') (fun e w' ⟨⟨q, he, hq⟩, hb⟩ => ⟨by rw [he, show q = false from Bool.eq_false_iff.2 (fun h => hz (hq.1 h))], hb⟩))
          clear hz
          go_wp2_with (first
            | (refine wpList_load_rowG (by rfl) 36 (.tmp 6) rfl R rfl 36 (cA c' A5 n5 m5) (0, 0) _ HRW.out Tryz.underlying36 rfl (info24 c' A5 n5 m5) ?_)
            | (go_at_call 34; refine EQ.out.mono ?_; rintro e w9 ⟨rfl, hb⟩; have B9 := Lib.hid (HBF.out.trans (hb.mono HBF.out.size)); clear hb))
          go_ret
          exact ⟨by rw [HV.out]; rfl, B9.out⟩
end Go.Proofs.YtgjnmfmbheejoaaGreatDoor
