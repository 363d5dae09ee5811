/- A command read from bytes, by the program. Condition: the program's own variables lie as its start lays them; the bytes are no longer than an int can say. -/
import Derived.Test.YtgjnmfmbheejoaaGreatDoorCmChk
namespace Go.Proofs.YtgjnmfmbheejoaaGreatDoor
open Go.RowKit Go.Shelf

/-- What Decode answers. -/
def DecCR (l : List UInt8) (w w' : World) (e : Ending) : Prop := (∃ c A n m er, e = .returned (.tuple #[.agg (cA c A n m), .int .i64 er]) ∧ CDecR l c er ∧ CmdIn w' c A n m) ∧ Below w.heap.size w w'
theorem below_row {g : Nat} {w0 w : World} (h : Below w0.heap.size w0 w) (hg : w0.heap.size ≤ g) (cs : Array Value) : Below w0.heap.size w0 (w.setRow g cs) := h.grown (setRow_grown w g cs) h.size (fun k e => by cases e; exact hg)
theorem ok_def {c : Cv} (h : cmdOk c) : c.d.s = [] ∨ defOk c.d := by
  obtain ⟨l, h1, h2, h3⟩ := h
  by_cases hd : Fl.defn ∈ l
  · exact Or.inr (h2 _ hd)
  · left
    have : (clrA l c).d = c.d := by
      clear h1 h2 h3
      unfold clrA
      induction l generalizing c with
      | nil => rfl
      | cons x l ih =>
        rw [List.foldl_cons, ih (fun e => hd (List.mem_cons_of_mem _ e))]
        cases x <;> first | rfl | exact absurd (List.mem_cons_self ..) hd
    rw [← this, h3]
    rfl
theorem zero_str {o : Nat} {x : ByteArray} (h : (cA (zeroC 0) none 0 0)[o]? = some (.string x)) : x = ⟨#[]⟩ := by
  have hm := Array.mem_of_getElem? h
  rw [zero24] at hm
  simpa using hm
/-- A valid definition's steps do not lie in a block of zeros. -/
theorem hr_ne {W : World} {R : Nat} {A : Option Addr} {d : Dv} (hR : Whole W R 36 (cA (zeroC 0) none 0 0)) (hs : SlD W A d.s) (hd : defOk d) : ∀ a : Addr, A = some a → a.block ≠ R := by
  rintro a rfl e
  obtain ⟨_, _, _, _, _, h1, _, h2⟩ := hd
  obtain ⟨p, hp⟩ : ∃ p, d.s[0]? = some p := ⟨_, List.getElem?_eq_getElem (by omega)⟩
  obtain ⟨g, o, he, c0, _⟩ := hs 0 p hp
  cases he
  cases e
  rw [Nat.zero_mul, Nat.add_zero, hR.cell] at c0
  have hk := zero_str c0
  have hn := (isName_len (stOk_parts (h2 0 p hp).1).1).1
  rw [hk] at hn
  simp at hn
/-- A row and a temporary are returned. -/
theorem results_row2 {P : Program} {fn : Func} {p q : Tmp} {ty : TypeId} (h : fn.results = #[.cell p ty, .tmp q]) (tmps : Array Value) (w : World) (g : Nat) (t : TypeId) (cs : Array Value) (fr : Nat × Nat) (d : TypeDesc)
    (hp : tmps.getD p undef = .pointer (some ⟨g, 0, none⟩)) (hg : w.heap[g]? = some (.cells cs t fr))
    (hu : P.underlying ty = some d) (hd : (match d with | .struct _ | .array _ _ => true | _ => false) = true) (hi : (P.info? ty).map (·.size) = some cs.size) (v : Value) (hv : tmps.getD q undef = v) :
    (results fn tmps).run P w = .ok (.tuple #[.agg cs, v]) w := by
  have hp' : tmps[p]?.getD undef = .pointer (some ⟨g, 0, none⟩) := by simpa using hp
  have hv' : tmps[q]?.getD undef = v := by simpa using hv
  simp [results, h, hp', hv', asAddr, run_loadVar_row w g t ty cs fr d hg hu hd hi]
/-- What Decode holds in memory. -/
structure DecI (w : World) (B C : Nat) (L : List Cap) (c : Cv) (st : WS) (W : World) : Prop where
  bl : Below w.heap.size w W
  cm : ∃ A n m, CmdAt W B c A n m
  cl : Caps W L
  rd : RdP W C st
  rs : Whole W w.heap.size 36 (cA (zeroC 0) none 0 0)
  o1 : w.heap.size < C
  o2 : C < B
theorem DecI.keep {w W W' : World} {B C : Nat} {L : List Cap} {c : Cv} {st : WS} (h : DecI w B C L c st W) (hb : Below W.heap.size W W') : DecI w B C L c st W' :=
  ⟨h.bl.trans (hb.mono h.bl.size), let ⟨A, n, m, hc⟩ := h.cm; ⟨A, n, m, hc.keep hb⟩, h.cl.keep hb, h.rd.keep hb, h.rs.keep hb, h.o1, h.o2⟩
theorem DecI.step {w W W' : World} {B C : Nat} {L : List Cap} {c c' : Cv} {st st' : WS} {A n m} (h : DecI w B C L c st W) (hk : TwoK W W' B C) (hP : RdP W' C st') (hc : CmdAt W' B c' A n m) : DecI w B C L c' st' W' := by
  obtain ⟨b, ⟨A0, n0, m0, hc0⟩, hl, hr, hs, o1, o2⟩ := h
  have hR : ∃ cs, Whole W C 150 cs := by obtain ⟨_, _, _, h1, _⟩ := hr; exact ⟨_, h1⟩
  obtain ⟨cs, hR⟩ := hR
  exact ⟨hk.below b (by omega) (by omega) b.size, ⟨A, n, m, hc⟩, hl.two hk hc0.w hR rfl rfl, hP, hk.whole hs (by omega) (by omega), o1, o2⟩
theorem rdA_app (L : Lim) : ∀ (l : List Fl) (x : Fl) (c : Cv) (st : WS), rdA L (l ++ [x]) c st = rdF L x (rdA L l c st).1 (rdA L l c st).2
  | [], x, c, st => rfl
  | y :: l, x, c, st => by rw [List.cons_append, rdA, rdA]; exact rdA_app L l x _ _
theorem rdA_next {L : Lim} {l : List Fl} {j : Nat} {x : Fl} (hx : l[j]? = some x) (c : Cv) (st : WS) : rdA L (l.take (j + 1)) c st = rdF L x (rdA L (l.take j) c st).1 (rdA L (l.take j) c st).2 := by
  rw [List.take_add_one, hx]
  exact rdA_app L _ x c st
set_option maxRecDepth 100000 in
set_option maxHeartbeats 2000000 in
theorem cdecode_nil (Ab : Option Addr) (cb : Nat) (w : World) :
    Calls Tryz.prog 14 #[.slice Ab 0 cb] w fun e w' => DecCR [] w w' e := by
  have B1 := Lib.hid ((Below.refl w.heap.size w).alloc (Nat.le_refl _) (.cells (cA (zeroC 0) none 0 0) 36))
  have R1 := Lib.hid (Whole.new w 36 (cA (zeroC 0) none 0 0))
  go_enter Tryz.func14, Tryz.ntmps14
  go_upto_region 1 with fail
  rw [← zero24 0]
  generalize w.alloc (.cells (cA (zeroC 0) none 0 0) 36) = w1 at B1 R1 ⊢
  go_wp2_with (refine wpList_store_row rfl 36 (.tmp 2) (.tmp 14) rfl w.heap.size (cA (zeroC 0) none 0 0) rfl rfl 36 (cA (zeroC 0) none 0 0) R1.out (info24 _ _ _ _) rfl (all24 _ _ _ _) ?_)
  refine bodyPost_ret (results_row2 rfl _ _ w.heap.size 36 (cA (zeroC 0) none 0 0) (0, 0) _ rfl (setRow_heap _ _ _ _ _ _ R1.out) Tryz.underlying36 rfl (info24 _ _ _ _) (.int .i64 0) rfl) rfl ?_
  exact ⟨⟨_, _, _, _, _, rfl, dec_empty, cmdIn_zero _ 0 in64_0⟩, below_row B1.out (Nat.le_refl _) _⟩
set_option maxRecDepth 100000 in
set_option maxHeartbeats 8000000 in
theorem cdecode_any (Ab : Option Addr) (nb cb : Nat) (b : List UInt8) (w : World) (hE : DfE w) (hb : SlB w Ab nb b) (hn : nb ≤ 1000000000000) :
    Calls Tryz.prog 14 #[.slice Ab nb cb] w fun e w' => DecCR b w w' e := by
  by_cases h0 : nb = 0
  · subst h0
    rw [show b = [] from List.eq_nil_of_length_eq_zero hb.1]
    exact cdecode_nil Ab cb w
  have B1 := Lib.hid ((Below.refl w.heap.size w).alloc (Nat.le_refl _) (.cells (cA (zeroC 0) none 0 0) 36))
  have R1 := Lib.hid (Whole.new w 36 (cA (zeroC 0) none 0 0))
  have HSZ := Lib.hid (World.size_alloc w (.cells (cA (zeroC 0) none 0 0) 36))
  have RD := Lib.hid (read_any Ab nb cb b _ (hb.keep B1.out) hn)
  have HL := Lib.hid hb.1
  have hbn : b ≠ [] := fun e => h0 (by rw [← hb.1, e]; rfl)
  have HBN := Lib.hid hbn
  have HE := Lib.hid hE
  have e0 : ((nb : Int) == 0) = false := by rw [beq_eq_false_iff_ne]; omega
  obtain ⟨k, hk⟩ : ∃ k : Int, k = ((wSm 15 (some b)).1 : Int) := ⟨_, rfl⟩
  obtain ⟨s0, hs0⟩ : ∃ s, s = (wSm 15 (some b)).2 := ⟨_, rfl⟩
  have SM := Lib.hid (fun (C : Nat) (V : World) (h : RdP V C (some b)) => small_z C (some b) 15 15 rfl (by decide) V h)
  have HKI : Hid (In64 k) := Lib.hid (by rw [hk]; exact in64_nat (Nat.le_trans (wSm_le _ _) (by decide)))
  have HDC : Hid (decC limP b = rdA limP ((fieldsK k).getD []) (zeroC k) s0) := Lib.hid (by rw [hk, hs0]; rfl)
  rw [← hk, ← hs0] at SM
  have FK := fun V => fields_any k V
  have HN3 := fieldsK_len k
  unfold FldsR at FK
  generalize (fieldsK k).getD [] = l0 at FK HN3 HDC
  generalize (fieldsK k).isSome = sm at FK
  generalize (⟨(wordK k).toArray⟩ : ByteArray) = wd at FK
  have FK := Lib.hid FK
  clear hE hb hbn hk hs0 h0
  go_enter Tryz.func14, Tryz.ntmps14
  go_upto_region 1 with fail
  rw [← zero24 0]
  generalize w.alloc (.cells (cA (zeroC 0) none 0 0) 36) = w1 at B1 R1 RD HSZ ⊢
  go_upto_region 4 with (go_at_call 46; refine RD.out.mono ?_; rintro e w2 ⟨⟨C, rfl, hC, hP⟩, hb⟩; have H2 := Lib.hid (And.intro hC (And.intro hP (And.intro (B1.out.trans (hb.mono B1.out.size)) (R1.out.keep hb)))); clear hC hP hb RD)
  have SM := Lib.hid (SM.out C w2 H2.out.2.1)
  have I4 : Hid (∀ w3, RdP w3 C s0 → w2.grownBy w3 (some C) → DecI w w3.heap.size C [] (zeroC k) s0 (w3.alloc (.cells (cA (zeroC k) none 0 0) 36))) := Lib.hid (fun w3 hP hg => by
    have h1 := H2.out.1
    have h2 := HSZ.out
    have ba := (Below.refl w3.heap.size w3).alloc (Nat.le_refl _) (.cells (cA (zeroC k) none 0 0) 36)
    have b3 := H2.out.2.2.1.grown hg H2.out.2.2.1.size (fun j e => by cases e; omega)
    exact ⟨b3.trans (ba.mono b3.size), ⟨none, 0, 0, CmdAt.new (cmdIn_zero w3 k HKI.out)⟩, (fun p hp => by cases hp), hP.keep ba, (H2.out.2.2.2.grown hg (fun e => by have := Option.some.inj e; omega)).keep ba, by omega, hP.lt⟩)
  clear B1 R1 HSZ
  go_upto_region 5 with (first
    | (go_at_call 47; refine SM.out.mono ?_; rintro e w3 ⟨rfl, hP, hg⟩; have I4 := Lib.hid (I4.out w3 hP hg); clear hP hg SM)
    | (refine wpList_store_row rfl 36 (.tmp 5) (.tmp 19) rfl _ (cA (zeroC k) none 0 0) rfl rfl 36 _ (heap_alloc_new _ _) (info24 _ _ _ _) rfl (all24 _ _ _ _) ?_; rw [World.setRow_alloc_new]))
  clear H2
  generalize w3.alloc (.cells (cA (zeroC k) none 0 0) 36) = w4 at I4 ⊢
  generalize w3.heap.size = B at I4 ⊢
  have yk : w4.cell? ⟨B, 0, none⟩ = some (.int .i64 k) := by obtain ⟨A, n, m, hc⟩ := I4.out.cm; exact hc.w.cell 0
  go_upto_region 6 with (go_at_call 48; refine (FK.out w4).mono ?_; rintro e w5 ⟨⟨Af, L, rfl, hfl⟩, hb⟩; have I5 := Lib.hid (show DecI w B C L (rdA limP (l0.take 0) (zeroC k) s0).1 (rdA limP (l0.take 0) (zeroC k) s0).2 w5 from ⟨(I4.out.keep hb).bl, (I4.out.keep hb).cm, hfl.1, (I4.out.keep hb).rd, (I4.out.keep hb).rs, I4.out.o1, I4.out.o2⟩); have HFA := Lib.hid hfl.2; clear hfl hb FK)
  clear yk I4
  obtain ⟨N, hN⟩ : ∃ N, N = l0.length := ⟨_, rfl⟩
  rw [← hN] at HN3 ⊢
  have HN := Lib.hid hN
  clear hN
  go_wp2_with fail
  go_loopw [29] (fun i wr => ∃ (j : Nat), j ≤ N ∧ i = .int .i64 j ∧ Hid (DecI w B C L (rdA limP (l0.take j) (zeroC k) s0).1 (rdA limP (l0.take j) (zeroC k) s0).2 wr)) (fun i _ => N - (intOf i).toNat)
  case atStart => exact ⟨0, by omega, rfl, I5⟩
  case round =>
    clear I5
    obtain ⟨j, hj, rfl, HI⟩ := hrel
    by_cases hjN : j < N
    · obtain ⟨x, hx⟩ : ∃ x, l0[j]? = some x := ⟨_, List.getElem?_eq_getElem (by rw [← HN.out]; exact hjN)⟩
      obtain ⟨g, cs, a0, b0, a1, b1, a2, b2, a3, b3, a4, b4, rfl, hmem, ⟨e0', e1, e2, e3, e4⟩, hF⟩ := HFA.out j x hx
      have hcs := (HI.out.cl _ hmem).1
      have y0 : wr.cell? ⟨g, j * 5, none⟩ = some (fnv a0 b0) := (hcs.cell _).trans e0'
      have y1 : wr.cell? ⟨g, j * 5 + 1, none⟩ = some (fnv a1 b1) := (hcs.cell _).trans e1
      have y2 : wr.cell? ⟨g, j * 5 + 2, none⟩ = some (fnv a2 b2) := (hcs.cell _).trans e2
      have y3 : wr.cell? ⟨g, j * 5 + 3, none⟩ = some (fnv a3 b3) := (hcs.cell _).trans e3
      have y4 : wr.cell? ⟨g, j * 5 + 4, none⟩ = some (fnv a4 b4) := (hcs.cell _).trans e4
      obtain ⟨gr, lr, ⟨vr, er⟩, hr⟩ := hF.rd
      cases vr
      have ba := (Below.refl wr.heap.size wr).alloc (Nat.le_refl _) (.cells #[fnv a0 b0, fnv a1 b1, fnv a2 b2, fnv a3 b3, fnv a4 b4] 94)
      have I6 := Lib.hid (HI.out.keep ba)
      have N6 := Lib.hid (Whole.new wr 94 #[fnv a0 b0, fnv a1 b1, fnv a2 b2, fnv a3 b3, fnv a4 b4])
      obtain ⟨A6, n6, m6, hc6⟩ := I6.out.cm
      have RF := Lib.hid (hr _ A6 n6 m6 B C _ _ I6.out.cl hc6 I6.out.rd I6.out.o2)
      have HX := Lib.hid hx
      clear hcs hmem e0' e1 e2 e3 e4 hF ba hx hr HI hc6
      have hj0 : (j : Int) < (N : Int) := by omega
      have hwj : IntKind.i64.wrap ((j : Int) + 1) = (j : Int) + 1 := IntWalk.i64_in _ (by omega)
      go_upto_region 9 with fail
      generalize wr.alloc (.cells #[fnv a0 b0, fnv a1 b1, fnv a2 b2, fnv a3 b3, fnv a4 b4] 94) = w6 at I6 N6 RF ⊢
      generalize wr.heap.size = F at N6 ⊢
      clear y0 y1 y2 y3 y4
      have z2 : w6.cell? ⟨F, 2, none⟩ = some (fnv a2 b2) := N6.out.cell 2
      go_wp2_with (go_at_fn a2; refine RF.out.mono ?_; rintro e w7 ⟨rfl, hP, hk, A7, n7, m7, hc⟩; have I7 := Lib.hid (I6.out.step hk hP hc); clear hP hk hc)
      go_roundw
      case rel => exact ⟨j + 1, by omega, by go_num, Lib.hid (by rw [rdA_next HX.out]; exact I7.out)⟩
      case measure => simp [intOf]; omega
    · obtain rfl : j = N := by omega
      have hnj : ¬ ((j : Int) < (j : Int)) := by omega
      have HI2 : Hid (DecI w B C L (decC limP b).1 (decC limP b).2 wr) := Lib.hid (by have := HI.out; rw [HN.out, List.take_length, ← HDC.out] at this; exact this)
      have HOKB : Hid (b.length ≤ 65536 → (decC limP b).1.k ≠ 0 → wEnd (decC limP b).2 = 0 → cmdOk (decC limP b).1 → CDecR b (decC limP b).1 0) := Lib.hid (fun h1 h2 h3 h4 => decC_ok h1 h2 h3 h4)
      have HBAD : Hid (¬ (b.length ≤ 65536 ∧ (decC limP b).1.k ≠ 0 ∧ wEnd (decC limP b).2 = 0 ∧ cmdOk (decC limP b).1) → CDecR b (zeroC 0) 10) := Lib.hid (fun h => decC_bad limP_ok HBN.out h)
      rw [HL.out] at HOKB HBAD
      have HKB : Hid (In64 (decC limP b).1.k) := Lib.hid (by obtain ⟨A, n, m, hc⟩ := HI2.out.cm; exact hc.i.z.k)
      clear HI HDC HN HFA
      generalize decC limP b = q at HI2 HOKB HBAD HKB
      obtain ⟨c', st⟩ := q
      dsimp only at HI2 HOKB HBAD HKB
      obtain ⟨A9, n9, m9, hc9⟩ := HI2.out.cm
      have C9 := Lib.hid hc9
      have xk : wr.cell? ⟨B, 0, none⟩ = some (.int .i64 c'.k) := hc9.w.cell 0
      have EN := rend_any C st wr HI2.out.rd
      have CK := ccheck_any c' A9 n9 m9 wr (HE.out.keep HI2.out.bl) hc9.i
      clear hc9
      by_cases hlen : 65536 < nb
      · have PR : Hid (CDecR b (zeroC 0) 10) := Lib.hid (HBAD.out (fun h => by omega))
        have el : (65536 : Int) < (nb : Int) := by omega
        clear HOKB HBAD EN CK HKB hlen
        go_wp2_with (refine wpList_store_row rfl 36 (.tmp 2) (.tmp 56) rfl w.heap.size (cA (zeroC 0) none 0 0) rfl rfl 36 (cA (zeroC 0) none 0 0) HI2.out.rs (info24 _ _ _ _) rfl (all24 _ _ _ _) ?_)
        refine bodyPost_ret (results_row2 rfl _ _ w.heap.size 36 (cA (zeroC 0) none 0 0) (0, 0) _ rfl (setRow_heap _ _ _ _ _ _ HI2.out.rs) Tryz.underlying36 rfl (info24 _ _ _ _) (.int .i64 10) rfl) rfl ?_
        exact ⟨⟨_, _, _, _, _, rfl, PR.out, cmdIn_zero _ 0 in64_0⟩, below_row HI2.out.bl (Nat.le_refl _) _⟩

      have el : ¬ ((65536 : Int) < (nb : Int)) := by omega
      by_cases hk0 : c'.k = 0
      · have PR : Hid (CDecR b (zeroC 0) 10) := Lib.hid (HBAD.out (fun h => h.2.1 hk0))
        rw [hk0] at xk
        clear HOKB HBAD EN CK HKB hk0
        go_wp2_with (refine wpList_store_row rfl 36 (.tmp 2) (.tmp 56) rfl w.heap.size (cA (zeroC 0) none 0 0) rfl rfl 36 (cA (zeroC 0) none 0 0) HI2.out.rs (info24 _ _ _ _) rfl (all24 _ _ _ _) ?_)
        refine bodyPost_ret (results_row2 rfl _ _ w.heap.size 36 (cA (zeroC 0) none 0 0) (0, 0) _ rfl (setRow_heap _ _ _ _ _ _ HI2.out.rs) Tryz.underlying36 rfl (info24 _ _ _ _) (.int .i64 10) rfl) rfl ?_
        exact ⟨⟨_, _, _, _, _, rfl, PR.out, cmdIn_zero _ 0 in64_0⟩, below_row HI2.out.bl (Nat.le_refl _) _⟩

      have ek : (c'.k == 0) = false := by rw [beq_eq_false_iff_ne]; exact hk0
      by_cases hw0 : wEnd st = 0
      case neg =>
        have PR : Hid (CDecR b (zeroC 0) 10) := Lib.hid (HBAD.out (fun h => hw0 h.2.2.1))
        have he10 : wEnd st = 10 := by unfold wEnd at hw0 ⊢; split at hw0 <;> simp_all
        rw [he10] at EN
        have EN := Lib.hid EN
        clear HOKB HBAD CK HKB hw0 he10 hk0
        go_wp2_with (first
          | (go_at_call 49; refine EN.out.mono ?_; rintro e w8 ⟨rfl, rfl⟩)
          | (refine wpList_store_row rfl 36 (.tmp 2) (.tmp 56) rfl w.heap.size (cA (zeroC 0) none 0 0) rfl rfl 36 (cA (zeroC 0) none 0 0) HI2.out.rs (info24 _ _ _ _) rfl (all24 _ _ _ _) ?_))
        refine bodyPost_ret (results_row2 rfl _ _ w.heap.size 36 (cA (zeroC 0) none 0 0) (0, 0) _ rfl (setRow_heap _ _ _ _ _ _ HI2.out.rs) Tryz.underlying36 rfl (info24 _ _ _ _) (.int .i64 10) rfl) rfl ?_
        exact ⟨⟨_, _, _, _, _, rfl, PR.out, cmdIn_zero _ 0 in64_0⟩, below_row HI2.out.bl (Nat.le_refl _) _⟩

      case pos =>
        rw [hw0] at EN
        have EN := Lib.hid EN
        by_cases hok : cmdOk c'
        case neg =>
          have PR : Hid (CDecR b (zeroC 0) 10) := Lib.hid (HBAD.out (fun h => hok h.2.2.2))
          rw [ckC_no hok] at CK
          have CK := Lib.hid CK
          clear HOKB HBAD HKB hw0 hk0 hok
          go_wp2_with (first
            | (go_at_call 49; refine EN.out.mono ?_; rintro e w8 ⟨rfl, rfl⟩)
            | (refine wpList_load_rowG (by rfl) 36 (.tmp 5) rfl B rfl 36 (cA c' A9 n9 m9) (0, 0) _ C9.out.w Tryz.underlying36 rfl (info24 _ _ _ _) ?_)
            | (go_at_call 30; refine CK.out.mono ?_; rintro e w9 ⟨rfl, hb9⟩; have I9 := Lib.hid (HI2.out.keep hb9); clear hb9)
            | (refine wpList_store_row rfl 36 (.tmp 2) (.tmp 56) rfl w.heap.size (cA (zeroC 0) none 0 0) rfl rfl 36 (cA (zeroC 0) none 0 0) I9.out.rs (info24 _ _ _ _) rfl (all24 _ _ _ _) ?_))
          refine bodyPost_ret (results_row2 rfl _ _ w.heap.size 36 (cA (zeroC 0) none 0 0) (0, 0) _ rfl (setRow_heap _ _ _ _ _ _ I9.out.rs) Tryz.underlying36 rfl (info24 _ _ _ _) (.int .i64 10) rfl) rfl ?_
          exact ⟨⟨_, _, _, _, _, rfl, PR.out, cmdIn_zero _ 0 in64_0⟩, below_row I9.out.bl (Nat.le_refl _) _⟩

        case pos =>
          have PR : Hid (CDecR b c' 0) := Lib.hid (HOKB.out (by omega) hk0 hw0 hok)
          have HOK := Lib.hid hok
          rw [ckC_yes hok] at CK
          have CK := Lib.hid CK
          clear HOKB HBAD HKB hw0 hk0 hok
          go_wp2_with (first
            | (go_at_call 49; refine EN.out.mono ?_; rintro e w8 ⟨rfl, rfl⟩)
            | (refine wpList_load_rowG (by rfl) 36 (.tmp 5) rfl B rfl 36 (cA c' A9 n9 m9) (0, 0) _ C9.out.w Tryz.underlying36 rfl (info24 _ _ _ _) ?_)
            | (go_at_call 30; refine CK.out.mono ?_; rintro e w9 ⟨rfl, hb9⟩; have I9 := Lib.hid (HI2.out.keep hb9); have C10 := Lib.hid (C9.out.keep hb9); clear hb9)
            | (refine wpList_load_row rfl 36 (.tmp 5) rfl B rfl 36 (cA c' A9 n9 m9) (0, 0) _ C10.out.w Tryz.underlying36 rfl (info24 _ _ _ _) ?_)
            | (refine wpList_store_row rfl 36 (.tmp 2) (.tmp 57) rfl w.heap.size (cA c' A9 n9 m9) rfl rfl 36 (cA (zeroC 0) none 0 0) I9.out.rs (info24 _ _ _ _) rfl (all24 _ _ _ _) ?_))
          refine bodyPost_ret (results_row2 rfl _ _ w.heap.size 36 (cA c' A9 n9 m9) (0, 0) _ rfl (setRow_heap _ _ _ _ _ _ I9.out.rs) Tryz.underlying36 rfl (info24 _ _ _ _) (.int .i64 0) rfl) rfl ?_
          refine ⟨⟨_, _, _, _, _, rfl, PR.out, ⟨C10.out.i.d.grown (setRow_grown _ _ _) (fun a ha hs e => ?_), C10.out.i.z⟩⟩, below_row I9.out.bl (Nat.le_refl _) _⟩
          exact hr_ne I9.out.rs C10.out.i.d.s ((ok_def HOK.out).resolve_left hs) a ha (Option.some.inj e)
end Go.Proofs.YtgjnmfmbheejoaaGreatDoor
