/- Merged by program: CmRCk, CmRDcS. -/
import Derived.Test.YtgjnmfmbheejoaaGreatDoorCmRUs
import Derived.Test.YtgjnmfmbheejoaaGreatDoorCmRf
namespace Go.Proofs.YtgjnmfmbheejoaaGreatDoor
section
open Go.RowKit Go.Shelf

theorem set_clr {c : Cv} {l : List Fl} (hl : fieldsK c.k = some l) : setA l c (zeroC c.k) = c ↔ clrA l c = zeroC c.k := by
  obtain ⟨k, call, saga, ea, eb, ec, key, dl, mv, f, t, g, ⟨dn, dr, dd, ds⟩, ⟨ia, ib, ic, im, ii, ig⟩, res, data⟩ := c
  unfold fieldsK at hl
  dsimp only at hl
  repeat' split at hl
  all_goals first
    | (cases hl; done)
    | (cases hl
       constructor
       all_goals
         intro h
         simp only [setA, clrA, List.foldl, clrF, setF, zeroC, zeroD, zeroI, Cv.mk.injEq, Dv.mk.injEq, It6.mk.injEq] at h ⊢
         grind)
theorem ckU_yes {c : Cv} (h1 : ∃ l, fieldsK c.k = some l ∧ ∀ x ∈ l, okF x c) (h2 : usedC c = c) : ckC c = 0 := by
  obtain ⟨l, hl, ho⟩ := h1
  unfold usedC at h2
  rw [hl] at h2
  unfold ckC
  rw [if_pos ⟨l, hl, ho, (set_clr hl).1 h2⟩]
theorem ckU_no1 {c : Cv} (h1 : ¬ ∃ l, fieldsK c.k = some l ∧ ∀ x ∈ l, okF x c) : ckC c = 2 := by
  unfold ckC
  rw [if_neg (fun ⟨l, hl, ho, _⟩ => h1 ⟨l, hl, ho⟩)]
theorem ckU_no2 {c : Cv} (h2 : ¬ usedC c = c) : ckC c = 2 := by
  unfold ckC
  rw [if_neg (fun ⟨l, hl, ho, hc⟩ => h2 (by unfold usedC; rw [hl]; exact (set_clr hl).2 hc))]

set_option maxRecDepth 100000 in
set_option maxHeartbeats 4000000 in
theorem rcheck_0 (c : Cv) (A : Option Addr) (n m : Nat) (w : World) (h : CmdIn w c A n m) (h1 : ¬ ∃ l, fieldsK c.k = some l ∧ ∀ x ∈ l, okF x c) :
    Calls Tryz.prog 31 #[.agg (cA c A n m)] w fun e w' => e = .returned (.int .i64 2) ∧ Below w.heap.size w w' := by
  have US := fun V (hV : CmdIn V c A n m) => used_any c A n m V hV
  unfold UsedR at US
  obtain ⟨u, hu⟩ : ∃ u, u = usedC c := ⟨_, rfl⟩
  rw [← hu] at US
  clear hu
  have B1 := Lib.hid ((Below.refl w.heap.size w).alloc (Nat.le_refl _) (.cells (cA c A n m) 36))
  have C1 := Lib.hid (CmdAt.new h)
  have US := Lib.hid US
  have H1 := Lib.hid h1
  clear h h1
  go_enter Tryz.func31, Tryz.ntmps31
  go_upto_region 1 with fail
  generalize w.alloc (.cells (cA c A n m) 36) = w1 at B1 C1 ⊢
  go_upto_region 2 with (first
    | (refine wpList_load_row rfl 36 (.tmp 1) rfl _ rfl 36 (cA c A n m) (0, 0) _ C1.out.w Tryz.underlying36 rfl (info24 _ _ _ _) ?_)
    | (go_at_call 84; refine (US.out w1 C1.out.i).mono ?_; rintro e w2 ⟨⟨q, A2, n2, m2, rfl, hq, hin⟩, hb⟩; obtain rfl : q = false := Bool.eq_false_iff.2 (fun e => H1.out (hq.1 e)); have I2 := Lib.hid (And.intro (B1.out.trans (hb.mono B1.out.size)) (And.intro (C1.out.keep hb) hin)); clear hq hin hb US)
    | (refine wpList_store_row rfl 36 (.tmp 3) (.tmp 8) rfl _ (cA u A2 n2 m2) rfl rfl 36 _ (heap_alloc_new _ _) (info24 _ _ _ _) rfl (all24 _ _ _ _) ?_; rw [World.setRow_alloc_new]))
  have I3 : Hid (Below w.heap.size w (w2.alloc (.cells (cA u A2 n2 m2) 36)) ∧ CmdAt (w2.alloc (.cells (cA u A2 n2 m2) 36)) w.heap.size c A n m ∧ CmdAt (w2.alloc (.cells (cA u A2 n2 m2) 36)) w2.heap.size u A2 n2 m2) := by
    have ba := (Below.refl w2.heap.size w2).alloc (Nat.le_refl _) (.cells (cA u A2 n2 m2) 36)
    exact Lib.hid ⟨I2.out.1.trans (ba.mono I2.out.1.size), I2.out.2.1.keep ba, CmdAt.new I2.out.2.2⟩
  clear B1 C1 I2 H1
  generalize w2.alloc (.cells (cA u A2 n2 m2) 36) = w3 at I3 ⊢
  generalize w2.heap.size = O at I3 ⊢
  go_wp2_with fail
  go_ret
  exact ⟨rfl, I3.out.1⟩
set_option maxRecDepth 100000 in
set_option maxHeartbeats 4000000 in
theorem rcheck_1 (c : Cv) (A : Option Addr) (n m : Nat) (w : World) (h : CmdIn w c A n m) (h1 : ∃ l, fieldsK c.k = some l ∧ ∀ x ∈ l, okF x c) (h2 : ¬ usedC c = c) :
    Calls Tryz.prog 31 #[.agg (cA c A n m)] w fun e w' => e = .returned (.int .i64 2) ∧ Below w.heap.size w w' := by
  have US := fun V (hV : CmdIn V c A n m) => used_any c A n m V hV
  unfold UsedR at US
  obtain ⟨u, hu⟩ : ∃ u, u = usedC c := ⟨_, rfl⟩
  rw [← hu] at US h2
  clear hu
  have B1 := Lib.hid ((Below.refl w.heap.size w).alloc (Nat.le_refl _) (.cells (cA c A n m) 36))
  have C1 := Lib.hid (CmdAt.new h)
  have US := Lib.hid US
  have H1 := Lib.hid h1
  have H2 := Lib.hid h2
  clear h2
  clear h h1
  go_enter Tryz.func31, Tryz.ntmps31
  go_upto_region 1 with fail
  generalize w.alloc (.cells (cA c A n m) 36) = w1 at B1 C1 ⊢
  go_upto_region 2 with (first
    | (refine wpList_load_row rfl 36 (.tmp 1) rfl _ rfl 36 (cA c A n m) (0, 0) _ C1.out.w Tryz.underlying36 rfl (info24 _ _ _ _) ?_)
    | (go_at_call 84; refine (US.out w1 C1.out.i).mono ?_; rintro e w2 ⟨⟨q, A2, n2, m2, rfl, hq, hin⟩, hb⟩; obtain rfl : q = true := hq.2 H1.out; have I2 := Lib.hid (And.intro (B1.out.trans (hb.mono B1.out.size)) (And.intro (C1.out.keep hb) hin)); clear hq hin hb US)
    | (refine wpList_store_row rfl 36 (.tmp 3) (.tmp 8) rfl _ (cA u A2 n2 m2) rfl rfl 36 _ (heap_alloc_new _ _) (info24 _ _ _ _) rfl (all24 _ _ _ _) ?_; rw [World.setRow_alloc_new]))
  have I3 : Hid (Below w.heap.size w (w2.alloc (.cells (cA u A2 n2 m2) 36)) ∧ CmdAt (w2.alloc (.cells (cA u A2 n2 m2) 36)) w.heap.size c A n m ∧ CmdAt (w2.alloc (.cells (cA u A2 n2 m2) 36)) w2.heap.size u A2 n2 m2) := by
    have ba := (Below.refl w2.heap.size w2).alloc (Nat.le_refl _) (.cells (cA u A2 n2 m2) 36)
    exact Lib.hid ⟨I2.out.1.trans (ba.mono I2.out.1.size), I2.out.2.1.keep ba, CmdAt.new I2.out.2.2⟩
  clear B1 C1 I2 H1
  generalize w2.alloc (.cells (cA u A2 n2 m2) 36) = w3 at I3 ⊢
  generalize w2.heap.size = O at I3 ⊢
  have EQ := Lib.hid ((requal_any u c A2 A n2 n m2 m w3 I3.out.2.2.i I3.out.2.1.i).mono (R' := fun e w' => e = .returned (.bool false) ∧ Below w3.heap.size w3 w') (fun e w' h => by
    unfold BoolR at h
    obtain ⟨⟨b, he, hb⟩, hw⟩ := h
    rw [he, show b = false from Bool.eq_false_iff.2 (fun e => H2.out (hb.1 e))]
    exact ⟨rfl, hw⟩))
  clear H2
  go_wp2_with (first
    | (refine wpList_load_rowG (by rfl) 36 (.tmp 3) rfl _ rfl 36 (cA u A2 n2 m2) (0, 0) _ I3.out.2.2.w Tryz.underlying36 rfl (info24 _ _ _ _) ?_)
    | (refine wpList_load_rowG (by rfl) 36 (.tmp 1) rfl _ rfl 36 (cA c A n m) (0, 0) _ I3.out.2.1.w Tryz.underlying36 rfl (info24 _ _ _ _) ?_)
    | (go_at_call 18; refine EQ.out.mono ?_; rintro e w4 ⟨rfl, hb⟩; have BZ := Lib.hid (I3.out.1.trans (hb.mono I3.out.1.size)); clear hb EQ))
  go_ret
  exact ⟨rfl, BZ.out⟩
set_option maxRecDepth 100000 in
set_option maxHeartbeats 4000000 in
theorem rcheck_2 (c : Cv) (A : Option Addr) (n m : Nat) (w : World) (h : CmdIn w c A n m) (h1 : ∃ l, fieldsK c.k = some l ∧ ∀ x ∈ l, okF x c) (h2 : usedC c = c) :
    Calls Tryz.prog 31 #[.agg (cA c A n m)] w fun e w' => e = .returned (.int .i64 0) ∧ Below w.heap.size w w' := by
  have US := fun V (hV : CmdIn V c A n m) => used_any c A n m V hV
  unfold UsedR at US
  obtain ⟨u, hu⟩ : ∃ u, u = usedC c := ⟨_, rfl⟩
  rw [← hu] at US h2
  clear hu
  have B1 := Lib.hid ((Below.refl w.heap.size w).alloc (Nat.le_refl _) (.cells (cA c A n m) 36))
  have C1 := Lib.hid (CmdAt.new h)
  have US := Lib.hid US
  have H1 := Lib.hid h1
  have H2 := Lib.hid h2
  clear h2
  clear h h1
  go_enter Tryz.func31, Tryz.ntmps31
  go_upto_region 1 with fail
  generalize w.alloc (.cells (cA c A n m) 36) = w1 at B1 C1 ⊢
  go_upto_region 2 with (first
    | (refine wpList_load_row rfl 36 (.tmp 1) rfl _ rfl 36 (cA c A n m) (0, 0) _ C1.out.w Tryz.underlying36 rfl (info24 _ _ _ _) ?_)
    | (go_at_call 84; refine (US.out w1 C1.out.i).mono ?_; rintro e w2 ⟨⟨q, A2, n2, m2, rfl, hq, hin⟩, hb⟩; obtain rfl : q = true := hq.2 H1.out; have I2 := Lib.hid (And.intro (B1.out.trans (hb.mono B1.out.size)) (And.intro (C1.out.keep hb) hin)); clear hq hin hb US)
    | (refine wpList_store_row rfl 36 (.tmp 3) (.tmp 8) rfl _ (cA u A2 n2 m2) rfl rfl 36 _ (heap_alloc_new _ _) (info24 _ _ _ _) rfl (all24 _ _ _ _) ?_; rw [World.setRow_alloc_new]))
  have I3 : Hid (Below w.heap.size w (w2.alloc (.cells (cA u A2 n2 m2) 36)) ∧ CmdAt (w2.alloc (.cells (cA u A2 n2 m2) 36)) w.heap.size c A n m ∧ CmdAt (w2.alloc (.cells (cA u A2 n2 m2) 36)) w2.heap.size u A2 n2 m2) := by
    have ba := (Below.refl w2.heap.size w2).alloc (Nat.le_refl _) (.cells (cA u A2 n2 m2) 36)
    exact Lib.hid ⟨I2.out.1.trans (ba.mono I2.out.1.size), I2.out.2.1.keep ba, CmdAt.new I2.out.2.2⟩
  clear B1 C1 I2 H1
  generalize w2.alloc (.cells (cA u A2 n2 m2) 36) = w3 at I3 ⊢
  generalize w2.heap.size = O at I3 ⊢
  have EQ := Lib.hid ((requal_any u c A2 A n2 n m2 m w3 I3.out.2.2.i I3.out.2.1.i).mono (R' := fun e w' => e = .returned (.bool true) ∧ Below w3.heap.size w3 w') (fun e w' h => by
    unfold BoolR at h
    obtain ⟨⟨b, he, hb⟩, hw⟩ := h
    rw [he, show b = true from hb.2 H2.out]
    exact ⟨rfl, hw⟩))
  clear H2
  go_wp2_with (first
    | (refine wpList_load_rowG (by rfl) 36 (.tmp 3) rfl _ rfl 36 (cA u A2 n2 m2) (0, 0) _ I3.out.2.2.w Tryz.underlying36 rfl (info24 _ _ _ _) ?_)
    | (refine wpList_load_rowG (by rfl) 36 (.tmp 1) rfl _ rfl 36 (cA c A n m) (0, 0) _ I3.out.2.1.w Tryz.underlying36 rfl (info24 _ _ _ _) ?_)
    | (go_at_call 18; refine EQ.out.mono ?_; rintro e w4 ⟨rfl, hb⟩; have BZ := Lib.hid (I3.out.1.trans (hb.mono I3.out.1.size)); clear hb EQ))
  go_ret
  exact ⟨rfl, BZ.out⟩
/-- The reference's Check. -/
theorem rcheck_any (c : Cv) (A : Option Addr) (n m : Nat) (w : World) (h : CmdIn w c A n m) :
    Calls Tryz.prog 31 #[.agg (cA c A n m)] w fun e w' => e = .returned (.int .i64 (ckC c)) ∧ Below w.heap.size w w' := by
  by_cases h1 : ∃ l, fieldsK c.k = some l ∧ ∀ x ∈ l, okF x c
  case neg => rw [ckU_no1 h1]; exact rcheck_0 c A n m w h h1
  by_cases h2 : usedC c = c
  case neg => rw [ckU_no2 h2]; exact rcheck_1 c A n m w h h1 h2
  rw [ckU_yes h1 h2]
  exact rcheck_2 c A n m w h h1 h2
end
section
open Go.RowKit Go.Shelf

/-- The result's row, the reader behind it, the command behind that. -/
structure RdI (w : World) (C O : Nat) (c : Cv) (st : WS) (A : Option Addr) (n m : Nat) (W : World) : Prop where
  bl : Below w.heap.size w W
  rs : Whole W w.heap.size 36 (cA (zeroC 0) none 0 0)
  rd : RdQ W C st
  co : CmdAt W O c A n m
  o1 : w.heap.size < C
  o2 : C < O
theorem RdI.keep {w W W' : World} {C O : Nat} {c : Cv} {st : WS} {A : Option Addr} {n m : Nat} (h : RdI w C O c st A n m W) (hb : Below W.heap.size W W') : RdI w C O c st A n m W' :=
  ⟨h.bl.trans (hb.mono h.bl.size), h.rs.keep hb, h.rd.keep hb, h.co.keep hb, h.o1, h.o2⟩
/-- The reader has moved; the command stays. -/
theorem RdI.move {w W W1 : World} {C O : Nat} {c : Cv} {st st' : WS} {A : Option Addr} {n m : Nat} (h : RdI w C O c st A n m W) (hg : W.grownBy W1 (some C)) (hP : RdQ W1 C st') : RdI w C O c st' A n m W1 := by
  have o1 := h.o1
  have o2 := h.o2
  have hR : ∃ cs : Array Value, Whole W C 154 cs ∧ ∀ (i : Nat) (x : ByteArray), cs[i]? ≠ some (.string x) := by
    obtain ⟨A0, n0, c0, h1, _⟩ := h.rd
    refine ⟨_, h1, fun i x => ?_⟩
    match i with
    | 0 => simp
    | 1 => simp
    | 2 => simp
    | i + 3 => simp
  obtain ⟨cs, hR, hne⟩ := hR
  exact ⟨h.bl.grown hg h.bl.size (fun k e => by cases e; omega), h.rs.grown hg (fun e => by have := Option.some.inj e; omega), hP, h.co.grown hg (fun e => by have := Option.some.inj e; omega) (slD_ne h.co.i.d.s hR hne), o1, o2⟩
/-- A cell of the command is set. -/
theorem RdI.put {w W : World} {C O : Nat} {c c' : Cv} {st : WS} {A : Option Addr} {n m : Nat} (h : RdI w C O c st A n m W) (i : Nat) (v : Value) (hput : (cA c A n m).setIfInBounds i v = cA c' A n m) (hd : c'.d = c.d) (hz : CmdZ c') :
    RdI w C O c' st A n m (W.setCell ⟨O, i, none⟩ v) := by
  have o1 := h.o1
  have o2 := h.o2
  have g2 := grown_set (World.grownBy.refl W (some O)) i v
  have hw := h.co.w.put i v
  rw [hput] at hw
  exact ⟨h.bl.grown g2 h.bl.size (fun k e => by cases e; omega), h.rs.grown g2 (fun e => by have := Option.some.inj e; omega), h.rd.other g2 (fun k e => by cases e; exact o2), h.co.turn g2 hw hd hz, o1, o2⟩
/-- The command's row is turned. -/
theorem RdI.turn {w W W' : World} {C O : Nat} {c c' : Cv} {st : WS} {A A' : Option Addr} {n m n' m' : Nat} (h : RdI w C O c st A n m W) (g2 : W.grownBy W' (some O)) (hc : CmdAt W' O c' A' n' m') : RdI w C O c' st A' n' m' W' := by
  have o1 := h.o1
  have o2 := h.o2
  exact ⟨h.bl.grown g2 h.bl.size (fun k e => by cases e; omega), h.rs.grown g2 (fun e => by have := Option.some.inj e; omega), h.rd.other g2 (fun k e => by cases e; exact o2), hc, o1, o2⟩
theorem RdI.new {w W : World} {C : Nat} {st : WS} (k : Int) (hk : In64 k) (bl : Below w.heap.size w W) (rs : Whole W w.heap.size 36 (cA (zeroC 0) none 0 0)) (rd : RdQ W C st) (o1 : w.heap.size < C) :
    RdI w C W.heap.size (zeroC k) st none 0 0 (W.alloc (.cells (cA (zeroC k) none 0 0) 36)) := by
  have ba := (Below.refl W.heap.size W).alloc (Nat.le_refl _) (.cells (cA (zeroC k) none 0 0) 36)
  exact ⟨bl.trans (ba.mono bl.size), rs.keep ba, rd.keep ba, CmdAt.new (cmdIn_zero W k hk), o1, rd.lt⟩
/-- The reference's limits: one for all. -/
def limR : Lim := ⟨2147483648, 2147483648, 2147483648, 2147483648, 2147483648, 2147483648, 2147483648, 2147483648, 2147483648, 2147483648⟩
theorem limR_ok : limR.Ok := by constructor <;> decide
end
end Go.Proofs.YtgjnmfmbheejoaaGreatDoor
