/- Merged by program: CmNum, CmNf, CmTex. -/
import Derived.Test.YtgjnmfmbheejoaaGreatDoorCmA
import Derived.Test.YtgjnmfmbheejoaaGreatDoorDfG
import Derived.BigQuiet
import Derived.Deep.RegionHeld3
import Derived.Laws.EntriesVeiled
namespace Go.Proofs.YtgjnmfmbheejoaaGreatDoor
section
open Go.RowKit Go.Shelf

theorem within_any (n lo hi : Int) (w : World) : Calls Tryz.prog 226 #[.int .i64 n, .int .i64 lo, .int .i64 hi] w fun e w' => e = .returned (.bool (decide (lo ≤ n ∧ n ≤ hi))) ∧ w = w' := by
  generalize hq : decide (lo ≤ n ∧ n ≤ hi) = q
  have HQ := Lib.hid hq
  clear hq
  by_cases h1 : lo ≤ n <;> by_cases h2 : n ≤ hi
  all_goals
    go_enter Tryz.func226, Tryz.ntmps226
    go_wp2
    go_ret
    exact ⟨by rw [← HQ.out]; simp [h1, h2] <;> omega, rfl⟩

/-- What stands for a function that tells where a number of a command lies. -/
structure AtV (ga off : Nat) : Prop where
  eg : ∀ args w, (callFunc ga args).run Tryz.prog w = .ok (.enter ga args) w
  at_ : ∀ (B : Nat) (w : World), Calls Tryz.prog ga #[.pointer (some ⟨B, 0, none⟩)] w fun e w' => e = .returned (.pointer (some ⟨B, off, none⟩)) ∧ w = w'
theorem atCall : AtV 169 1 := ⟨enters_of Tryz.func169 (by kernel_rfl) rfl, fun B w => by
  go_enter Tryz.func169, Tryz.ntmps169
  go_wp2
  go_ret
  exact ⟨rfl, rfl⟩⟩
theorem atSaga : AtV 181 2 := ⟨enters_of Tryz.func181 (by kernel_rfl) rfl, fun B w => by
  go_enter Tryz.func181, Tryz.ntmps181
  go_wp2
  go_ret
  exact ⟨rfl, rfl⟩⟩
theorem atMove : AtV 170 8 := ⟨enters_of Tryz.func170 (by kernel_rfl) rfl, fun B w => by
  go_enter Tryz.func170, Tryz.ntmps170
  go_wp2
  go_ret
  exact ⟨rfl, rfl⟩⟩
theorem atGroup : AtV 191 11 := ⟨enters_of Tryz.func191 (by kernel_rfl) rfl, fun B w => by
  go_enter Tryz.func191, Tryz.ntmps191
  go_wp2
  go_ret
  exact ⟨rfl, rfl⟩⟩
theorem atKey : AtV 159 6 := ⟨enters_of Tryz.func159 (by kernel_rfl) rfl, fun B w => by
  go_enter Tryz.func159, Tryz.ntmps159
  go_wp2
  go_ret
  exact ⟨rfl, rfl⟩⟩
theorem atData : AtV 178 23 := ⟨enters_of Tryz.func178 (by kernel_rfl) rfl, fun B w => by
  go_enter Tryz.func178, Tryz.ntmps178
  go_wp2
  go_ret
  exact ⟨rfl, rfl⟩⟩
set_option maxHeartbeats 1000000 in
theorem num1_any {ga off : Nat} (ha : AtV ga off) (lo hi v : Int) (Ba Bl Bm B : Nat) (w : World) (c1 : w.cell? ⟨Ba, 0, none⟩ = some (.func (.func ga) #[] #[])) (c2 : w.cell? ⟨Bl, 0, none⟩ = some (.int .i64 lo)) (c3 : w.cell? ⟨Bm, 0, none⟩ = some (.int .i64 hi)) (c4 : w.cell? ⟨B, off, none⟩ = some (.int .i64 v)) :
    Calls Tryz.prog 225 #[.pointer (some ⟨B, 0, none⟩), .pointer (some ⟨Ba, 0, none⟩), .pointer (some ⟨Bl, 0, none⟩), .pointer (some ⟨Bm, 0, none⟩)] w fun e w' => e = .returned (.bool (decide (lo ≤ v ∧ v ≤ hi))) ∧ Below w.heap.size w w' := by
  have mixed : Tryz.prog.follows Departure.mixedOrders = true := by kernel_rfl
  have AT := Lib.hid (ha.at_ B)
  have eg := ha.eg
  have WI := within_any v lo hi
  generalize decide (lo ≤ v ∧ v ≤ hi) = q at WI ⊢
  have WI := Lib.hid WI
  clear ha
  go_enter Tryz.func225, Tryz.ntmps225
  go_upto_region 1 with fail
  have S0 : Hid (w.drew.cell? ⟨Ba, 0, none⟩ = some (.func (.func ga) #[] #[]) ∧ w.drew.cell? ⟨Bl, 0, none⟩ = some (.int .i64 lo) ∧ w.drew.cell? ⟨Bm, 0, none⟩ = some (.int .i64 hi) ∧ w.drew.cell? ⟨B, off, none⟩ = some (.int .i64 v) ∧ Below w.heap.size w w.drew) := Lib.hid ⟨c1, c2, c3, c4, (Below.refl _ _).drew⟩
  go_region_held3 (fun wx => wx.cell? ⟨Ba, 0, none⟩ = some (.func (.func ga) #[] #[]) ∧ wx.cell? ⟨Bl, 0, none⟩ = some (.int .i64 lo) ∧ wx.cell? ⟨Bm, 0, none⟩ = some (.int .i64 hi) ∧ wx.cell? ⟨B, off, none⟩ = some (.int .i64 v) ∧ Below w.heap.size w wx)
    (first | exact S0.out | assumption)
    (first
      | (go_at_fn ga; refine (AT.out _).mono ?_; rintro e w1 ⟨rfl, rfl⟩)
      | (go_at_call 226; refine (WI.out _).mono ?_; rintro e w1 ⟨rfl, rfl⟩))
  go_wp2_with fail
  go_ret
  exact ⟨rfl, S0.out.2.2.2.2⟩
set_option maxHeartbeats 1000000 in
theorem num2_any {ga off : Nat} (ha : AtV ga off) (v : Int) (hv0 : 0 ≤ v) (hv1 : v ≤ 9223372036854775807) (Ba B C base : Nat) (l : List UInt8) (w : World) (c1 : w.cell? ⟨Ba, 0, none⟩ = some (.func (.func ga) #[] #[])) (c4 : w.cell? ⟨B, off, none⟩ = some (.int .i64 v)) (hW : WrP w base C l) (hl : l.length ≤ 1000000) :
    Calls Tryz.prog 227 #[.pointer (some ⟨C, 0, none⟩), .pointer (some ⟨B, 0, none⟩), .pointer (some ⟨Ba, 0, none⟩)] w fun e w' => e = .returned (.tuple #[]) ∧ WrP w' base C (l ++ uvB v.toNat) ∧ WrK w w' base C := by
  have AT := Lib.hid (ha.at_ B)
  have eg := ha.eg
  have U := uint_any C base v.toNat l w hW (by omega) (by omega)
  rw [ofNat_toNat hv0] at U
  have U := Lib.hid U
  have hwr : IntKind.u64.wrap v = v := by rw [IntKind.wrap_u64]; omega
  clear ha hW hl hv0 hv1
  go_enter Tryz.func227, Tryz.ntmps227
  go_wp2_with (first
    | (go_at_fn ga; refine (AT.out _).mono ?_; rintro e w1 ⟨rfl, rfl⟩)
    | (go_at_call 63; refine U.out.mono ?_; rintro e w1 ⟨rfl, hP, hK⟩))
  go_end0
  exact ⟨rfl, hP, hK⟩
set_option maxHeartbeats 2000000 in
theorem num3_any {ga off : Nat} (ha : AtV ga off) (most : Nat) (hm : most ≤ 2147483648) (Ba Bm B C : Nat) (st : WS) (v : Value) (w : World) (c1 : w.cell? ⟨Ba, 0, none⟩ = some (.func (.func ga) #[] #[])) (c3 : w.cell? ⟨Bm, 0, none⟩ = some (.int .i64 (most : Int))) (c4 : w.cell? ⟨B, off, none⟩ = some v) (f4 : w.frozen? ⟨B, off, none⟩ = false) (hP : RdP w C st) (n1 : Ba ≠ C) (n3 : Bm ≠ C) (n4 : B ≠ C) (n5 : Ba ≠ B) (n6 : Bm ≠ B) :
    Calls Tryz.prog 228 #[.pointer (some ⟨C, 0, none⟩), .pointer (some ⟨B, 0, none⟩), .pointer (some ⟨Bm, 0, none⟩), .pointer (some ⟨Ba, 0, none⟩)] w fun e w' => e = .returned (.tuple #[]) ∧ ∃ w1, w.grownBy w1 (some C) ∧ RdP w1 C (wSm most st).2 ∧ w' = w1.setCell ⟨B, off, none⟩ (.int .i64 ((wSm most st).1 : Int)) := by
  have mixed : Tryz.prog.follows Departure.mixedOrders = true := by kernel_rfl
  have AT := Lib.hid (ha.at_ B)
  have eg := ha.eg
  have SM := Lib.hid (fun (W : World) (h : RdP W C st) => small_any C st most hm W h)
  have S0 : Hid (w.drew.cell? ⟨Ba, 0, none⟩ = some (.func (.func ga) #[] #[]) ∧ w.drew.cell? ⟨Bm, 0, none⟩ = some (.int .i64 (most : Int))) := Lib.hid ⟨c1, c3⟩
  have SM := Lib.hid (SM.out w.drew (hP.keep (Below.refl _ _).drew))
  have HKP : Hid (∀ W1, w.drew.grownBy W1 (some C) → W1.cell? ⟨Ba, 0, none⟩ = some (.func (.func ga) #[] #[]) ∧ W1.cell? ⟨Bm, 0, none⟩ = some (.int .i64 (most : Int)) ∧ W1.cell? ⟨B, off, none⟩ = some v ∧ W1.frozen? ⟨B, off, none⟩ = false) :=
    Lib.hid (fun W1 hg => ⟨gcell (w := w.drew) c1 hg (by simpa using n1), gcell (w := w.drew) c3 hg (by simpa using n3), gcell (w := w.drew) c4 hg (by simpa using n4), (World.frozen?_of_block (hg.block B (lt_cell (w := w.drew) c4) (by simpa using n4))).trans f4⟩)
  have HST : Hid (∀ (W1 : World) (x : Value), W1.cell? ⟨Ba, 0, none⟩ = some (.func (.func ga) #[] #[]) ∧ W1.cell? ⟨Bm, 0, none⟩ = some (.int .i64 (most : Int)) → (W1.setCell ⟨B, off, none⟩ x).cell? ⟨Ba, 0, none⟩ = some (.func (.func ga) #[] #[]) ∧ (W1.setCell ⟨B, off, none⟩ x).cell? ⟨Bm, 0, none⟩ = some (.int .i64 (most : Int))) :=
    Lib.hid (fun W1 x h => ⟨gcell h.1 (grown_set (World.grownBy.refl W1 (some B)) off x) (by simpa using n5), gcell h.2 (grown_set (World.grownBy.refl W1 (some B)) off x) (by simpa using n6)⟩)
  have HG0 : Hid (∀ W1, w.drew.grownBy W1 (some C) → w.grownBy W1 (some C)) := Lib.hid (fun W1 hg => below_grown (Below.refl _ _).drew hg)
  clear ha hm c1 c3 c4 f4 hP n1 n3 n4 n5 n6
  go_enter Tryz.func228, Tryz.ntmps228
  go_wp2_with fail
  go_region_held3 (fun wx => wx.cell? ⟨Ba, 0, none⟩ = some (.func (.func ga) #[] #[]) ∧ wx.cell? ⟨Bm, 0, none⟩ = some (.int .i64 (most : Int)))
    (first | exact S0.out | exact S1.out | exact HST.out _ _ S1.out | assumption)
    (first
      | (go_at_fn ga; refine (AT.out _).mono ?_; rintro e w1 ⟨rfl, rfl⟩)
      | (go_at_call 47; refine SM.out.mono ?_; rintro e w2 ⟨rfl, hP, hg⟩; have S1 := Lib.hid (And.intro (HKP.out w2 hg).1 (HKP.out w2 hg).2.1); have d4 := (HKP.out w2 hg).2.2.1; have e4 := (HKP.out w2 hg).2.2.2; have HPG := Lib.hid (And.intro hP (HG0.out w2 hg)); clear hP hg))
  go_wp2_with fail
  go_end0
  exact ⟨rfl, _, HPG.out.2, HPG.out.1, rfl⟩
set_option maxHeartbeats 1000000 in
theorem num4_any {ga off : Nat} (ha : AtV ga off) (v : Int) (hv0 : 0 ≤ v) (hv1 : v ≤ 9223372036854775807) (Ba B : Nat) (w : World) (hE : DfE w) (c1 : w.cell? ⟨Ba, 0, none⟩ = some (.func (.func ga) #[] #[])) (c4 : w.cell? ⟨B, off, none⟩ = some (.int .i64 v)) :
    Calls Tryz.prog 229 #[.pointer (some ⟨B, 0, none⟩), .pointer (some ⟨Ba, 0, none⟩)] w fun e w' => e = .returned (.string ⟨(dgs v).toArray⟩) ∧ Below w.heap.size w w' := by
  have AT := Lib.hid (ha.at_ B)
  have eg := ha.eg
  have IT := Lib.hid (itoa_any v hv0 hv1 w hE)
  clear ha hE hv0 hv1
  go_enter Tryz.func229, Tryz.ntmps229
  go_wp2_with (first
    | (go_at_fn ga; refine (AT.out _).mono ?_; rintro e w1 ⟨rfl, rfl⟩)
    | (go_at_call 97; refine IT.out.mono ?_; rintro e w1 ⟨rfl, hb⟩))
  go_ret
  exact ⟨rfl, hb⟩
set_option maxHeartbeats 1000000 in
theorem num5_any {ga off : Nat} (ha : AtV ga off) (v : Value) (Ba B : Nat) (w : World) (c1 : w.cell? ⟨Ba, 0, none⟩ = some (.func (.func ga) #[] #[])) (c4 : w.cell? ⟨B, off, none⟩ = some v) (f4 : w.frozen? ⟨B, off, none⟩ = false) :
    Calls Tryz.prog 230 #[.pointer (some ⟨B, 0, none⟩), .pointer (some ⟨Ba, 0, none⟩)] w fun e w' => e = .returned (.tuple #[]) ∧ w' = w.setCell ⟨B, off, none⟩ (.int .i64 0) := by
  have AT := Lib.hid (ha.at_ B)
  have eg := ha.eg
  clear ha
  go_enter Tryz.func230, Tryz.ntmps230
  go_wp2_with (go_at_fn ga; refine (AT.out _).mono ?_; rintro e w1 ⟨rfl, rfl⟩)
  go_end0
  exact ⟨rfl, rfl⟩
end
section
open Go.RowKit Go.Shelf

abbrev fnv (g : Nat) (lb : Array Value) : Value := .func (.func g) #[] lb
/-- A field that is a number, from lo to hi. -/
structure NumF (x : Fl) (off : Nat) (lo : Int) (hi : Nat) (get : Cv → Int) (upd : Cv → Int → Cv) : Prop where
  cell : ∀ c A n m, (cA c A n m)[off]? = some (.int .i64 (get c))
  put : ∀ c A n m v, (cA c A n m).setIfInBounds off (.int .i64 v) = cA (upd c v) A n m
  z : ∀ c v, CmdZ c → In64 v → CmdZ (upd c v)
  d : ∀ c v, (upd c v).d = c.d
  ok : ∀ c, okF x c ↔ lo ≤ get c ∧ get c ≤ hi
  lo0 : 0 ≤ lo
  hi0 : hi ≤ 2147483648
  enc : ∀ c, encF x c = uvB (get c).toNat
  tx : ∀ c, textF x c = dgs (get c)
  cl : ∀ c, clrF x c = upd c 0
  rd : ∀ c st, rdF limP x c st = (upd c ((wSm hi st).1 : Int), (wSm hi st).2)
theorem in64_0 : In64 0 := ⟨by decide, by decide⟩
/-- What lies for a number's functions. -/
def capN (ga : Nat) (lo : Int) (hi : Nat) (Ba Bl Bm : Nat) : List Cap := [⟨Ba, 196, #[fnv ga #[]]⟩, ⟨Bl, 3, #[.int .i64 lo]⟩, ⟨Bm, 3, #[.int .i64 (hi : Int)]⟩]
theorem num_fld {x : Fl} {ga off : Nat} {lo : Int} {hi : Nat} {get : Cv → Int} {upd : Cv → Int → Cv} (ha : AtV ga off) (h : NumF x off lo hi get upd) (Ba Bl Bm : Nat) :
    FldAt x (fnv 225 #[.pointer (some ⟨Ba, 0, none⟩), .pointer (some ⟨Bl, 0, none⟩), .pointer (some ⟨Bm, 0, none⟩)]) (fnv 227 #[.pointer (some ⟨Ba, 0, none⟩)]) (fnv 228 #[.pointer (some ⟨Bm, 0, none⟩), .pointer (some ⟨Ba, 0, none⟩)])
      (fnv 229 #[.pointer (some ⟨Ba, 0, none⟩)]) (fnv 230 #[.pointer (some ⟨Ba, 0, none⟩)]) (capN ga lo hi Ba Bl Bm) := by
  have k1 : ∀ {W}, Caps W (capN ga lo hi Ba Bl Bm) → Whole W Ba 196 #[fnv ga #[]] := fun hc => (hc ⟨_, _, _⟩ (List.mem_cons_self ..)).1
  have k2 : ∀ {W}, Caps W (capN ga lo hi Ba Bl Bm) → Whole W Bl 3 #[.int .i64 lo] := fun hc => (hc ⟨_, _, _⟩ (List.mem_cons_of_mem _ (List.mem_cons_self ..))).1
  have k3 : ∀ {W}, Caps W (capN ga lo hi Ba Bl Bm) → Whole W Bm 3 #[.int .i64 (hi : Int)] := fun hc => (hc ⟨_, _, _⟩ (List.mem_cons_of_mem _ (List.mem_cons_of_mem _ (List.mem_cons_self ..)))).1
  refine ⟨⟨_, _, ⟨rfl, enters_of Tryz.func225 (by kernel_rfl) rfl⟩, fun c A n m B W _ hc hC => ?_⟩, ⟨_, _, ⟨rfl, enters_of Tryz.func227 (by kernel_rfl) rfl⟩, fun c A n m B C base l W hc hC ho hW hl _ => ?_⟩,
    ⟨_, _, ⟨rfl, enters_of Tryz.func228 (by kernel_rfl) rfl⟩, fun c A n m B C st W hc hC hP hCB => ?_⟩, ⟨_, _, ⟨rfl, enters_of Tryz.func229 (by kernel_rfl) rfl⟩, fun c A n m B W hE hc hC ho => ?_⟩,
    ⟨_, _, ⟨rfl, enters_of Tryz.func230 (by kernel_rfl) rfl⟩, fun c A n m B W hc hC => ?_⟩⟩
  · refine (num1_any ha lo hi (get c) Ba Bl Bm B W ((k1 hc).cell 0) ((k2 hc).cell 0) ((k3 hc).cell 0) ((hC.w.cell off).trans (h.cell c A n m))).mono ?_
    rintro e w1 ⟨rfl, hb⟩
    exact ⟨⟨_, rfl, by rw [decide_eq_true_eq]; exact (h.ok c).symm⟩, hb⟩
  · have ho' := (h.ok c).1 ho
    have h0 := h.lo0
    have h1 := h.hi0
    rw [h.enc]
    exact num2_any ha (get c) (by omega) (by omega) Ba B C base l W ((k1 hc).cell 0) ((hC.w.cell off).trans (h.cell c A n m)) hW hl
  · have hR : ∃ cs, Whole W C 150 cs := by obtain ⟨_, _, _, h1, _⟩ := hP; exact ⟨_, h1⟩
    obtain ⟨cs, hR⟩ := hR
    refine (num3_any ha hi h.hi0 Ba Bm B C st _ W ((k1 hc).cell 0) ((k3 hc).cell 0) ((hC.w.cell off).trans (h.cell c A n m)) (hC.w.fr off) hP (whole_ne (k1 hc) hR (by decide)) (whole_ne (k3 hc) hR (by decide)) (by omega) (whole_ne (k1 hc) hC.w (by decide)) (whole_ne (k3 hc) hC.w (by decide))).mono ?_
    rintro e w1 ⟨rfl, w2, hg, hP2, rfl⟩
    have C2 := hC.reads hP hg hCB
    have g2 := grown_set (World.grownBy.refl w2 (some B)) off (.int .i64 ((wSm hi st).1 : Int))
    have hw := C2.w.put off (.int .i64 ((wSm hi st).1 : Int))
    rw [h.put] at hw
    rw [h.rd]
    refine ⟨rfl, hP2.other g2 (fun k e => by cases e; exact hCB), (TwoK.two hg).trans (TwoK.one g2), A, n, m, C2.turn g2 hw (h.d _ _) (h.z _ _ hC.i.z (in64_nat (Nat.le_trans (wSm_le _ _) h.hi0)))⟩
  · have ho' := (h.ok c).1 ho
    have h0 := h.lo0
    have h1 := h.hi0
    rw [h.tx]
    exact num4_any ha (get c) (by omega) (by omega) Ba B W hE ((k1 hc).cell 0) ((hC.w.cell off).trans (h.cell c A n m))
  · refine (num5_any ha _ Ba B W ((k1 hc).cell 0) ((hC.w.cell off).trans (h.cell c A n m)) (hC.w.fr off)).mono ?_
    rintro e w1 ⟨rfl, rfl⟩
    have g2 := grown_set (World.grownBy.refl W (some B)) off (.int .i64 0)
    have hw := hC.w.put off (.int .i64 0)
    rw [h.put] at hw
    rw [h.cl]
    exact ⟨rfl, g2, A, n, m, hC.turn g2 hw (h.d _ _) (h.z _ _ hC.i.z in64_0)⟩
/-- What makes a field returns it. -/
def FldR (x : Fl) (w w' : World) (e : Ending) : Prop := (∃ g0 l0 g1 l1 g2 l2 g3 l3 g4 l4 L, e = .returned (.agg #[fnv g0 l0, fnv g1 l1, fnv g2 l2, fnv g3 l3, fnv g4 l4]) ∧ FldAt x (fnv g0 l0) (fnv g1 l1) (fnv g2 l2) (fnv g3 l3) (fnv g4 l4) L ∧ Caps w' L) ∧ Below w.heap.size w w'
set_option maxHeartbeats 1000000 in
theorem numMk_any (ga : Nat) (lo hi : Int) (w : World) :
    Calls Tryz.prog 168 #[fnv ga #[], .int .i64 lo, .int .i64 hi] w fun e w' => (∃ Ba Bl Bm, e = .returned (.agg #[fnv 225 #[.pointer (some ⟨Ba, 0, none⟩), .pointer (some ⟨Bl, 0, none⟩), .pointer (some ⟨Bm, 0, none⟩)], fnv 227 #[.pointer (some ⟨Ba, 0, none⟩)], fnv 228 #[.pointer (some ⟨Bm, 0, none⟩), .pointer (some ⟨Ba, 0, none⟩)],
      fnv 229 #[.pointer (some ⟨Ba, 0, none⟩)], fnv 230 #[.pointer (some ⟨Ba, 0, none⟩)]]) ∧ Whole w' Ba 196 #[fnv ga #[]] ∧ Whole w' Bl 3 #[.int .i64 lo] ∧ Whole w' Bm 3 #[.int .i64 hi]) ∧ Below w.heap.size w w' := by
  have hmf : ∀ (fn : Fn) (first cap : Array Value) (w : World), (Instr.makeFunc fn first cap).run Tryz.prog w = .ok (.func fn first cap) w := fun _ _ _ _ => rfl
  go_enter Tryz.func168, Tryz.ntmps168
  go_wp2
  refine bodyPost_ret (v := .agg #[fnv 225 #[.pointer (some ⟨w.heap.size, 0, none⟩), .pointer (some ⟨w.heap.size + 1, 0, none⟩), .pointer (some ⟨w.heap.size + 1 + 1, 0, none⟩)], fnv 227 #[.pointer (some ⟨w.heap.size, 0, none⟩)], fnv 228 #[.pointer (some ⟨w.heap.size + 1 + 1, 0, none⟩), .pointer (some ⟨w.heap.size, 0, none⟩)],
      fnv 229 #[.pointer (some ⟨w.heap.size, 0, none⟩)], fnv 230 #[.pointer (some ⟨w.heap.size, 0, none⟩)]]) (by simp [results, Tryz.results168, go_sem]) rfl ⟨⟨_, _, _, rfl, (((Whole.new w _ _).alloc _).alloc _).alloc _, ?_, ?_⟩, ((((Below.refl _ w).alloc (Nat.le_refl _) _).alloc (by simp) _).alloc (by simp; omega) _).alloc (by simp; omega) _⟩
  · have h := Whole.new (w.alloc (.cells #[fnv ga #[]] 196)) 3 #[.int .i64 lo]
    rw [World.size_alloc] at h
    exact (h.alloc _).alloc _
  · have h := Whole.new ((w.alloc (.cells #[fnv ga #[]] 196)).alloc (.cells #[.int .i64 lo] 3)) 3 #[.int .i64 hi]
    rw [World.size_alloc, World.size_alloc] at h
    exact h.alloc _
theorem put5_grown (W : World) (D : Nat) (a b c d e : Value) : W.grownBy (((((W.setCell ⟨D, 0, none⟩ a).setCell ⟨D, 1, none⟩ b).setCell ⟨D, 2, none⟩ c).setCell ⟨D, 3, none⟩ d).setCell ⟨D, 4, none⟩ e) (some D) :=
  grown_set (grown_set (grown_set (grown_set (grown_set (World.grownBy.refl W (some D)) 0 a) 1 b) 2 c) 3 d) 4 e
theorem whole5 {W : World} {R : Nat} {t : TypeId} {a b c d e : Value} (h : Whole W R t #[a, b, c, d, e]) : (W.cell? ⟨R, 0, none⟩ = some a ∧ W.cell? ⟨R, 1, none⟩ = some b ∧ W.cell? ⟨R, 2, none⟩ = some c ∧ W.cell? ⟨R, 3, none⟩ = some d ∧ W.cell? ⟨R, 4, none⟩ = some e) ∧
    (W.frozen? ⟨R, 0, none⟩ = false ∧ W.frozen? ⟨R, 1, none⟩ = false ∧ W.frozen? ⟨R, 2, none⟩ = false ∧ W.frozen? ⟨R, 3, none⟩ = false ∧ W.frozen? ⟨R, 4, none⟩ = false) :=
  ⟨⟨h.cell 0, h.cell 1, h.cell 2, h.cell 3, h.cell 4⟩, h.fr 0, h.fr 1, h.fr 2, h.fr 3, h.fr 4⟩
abbrev nil5 : Array Value := #[.nilFunc, .nilFunc, .nilFunc, .nilFunc, .nilFunc]
/-- A field that another function makes, in a variable of its own. -/
theorem FldR.wrap {x : Fl} {w w1 w' : World} {g0 g1 g2 g3 g4 : Nat} {l0 l1 l2 l3 l4 : Array Value} {L : List Cap} (hF : FldAt x (fnv g0 l0) (fnv g1 l1) (fnv g2 l2) (fnv g3 l3) (fnv g4 l4) L) (hc : Caps w1 L) (hL : ∀ p ∈ L, p.t ≠ 94)
    (hb : Below (w.alloc (.cells nil5 94)).heap.size (w.alloc (.cells nil5 94)) w1) (hg : w1.grownBy w' (some w.heap.size)) : FldR x w w' (.returned (.agg #[fnv g0 l0, fnv g1 l1, fnv g2 l2, fnv g3 l3, fnv g4 l4])) := by
  have hW := (Whole.new w 94 nil5).keep hb
  refine ⟨⟨_, _, _, _, _, _, _, _, _, _, L, rfl, hF, fun p hp => ⟨(hc p hp).1.grown hg (fun e => whole_ne (hc p hp).1 hW (hL p hp) (Option.some.inj e)), (hc p hp).2⟩⟩, ?_⟩
  have h1 := ((Below.refl w.heap.size w).alloc (Nat.le_refl _) (.cells nil5 94)).trans (hb.mono (by simp))
  exact h1.grown hg h1.size (fun k e => by cases e; exact Nat.le_refl _)
theorem capN_ok {W : World} {ga : Nat} {lo : Int} {hi : Nat} {Ba Bl Bm : Nat} (h1 : Whole W Ba 196 #[fnv ga #[]]) (h2 : Whole W Bl 3 #[.int .i64 lo]) (h3 : Whole W Bm 3 #[.int .i64 (hi : Int)]) : Caps W (capN ga lo hi Ba Bl Bm) ∧ ∀ p ∈ capN ga lo hi Ba Bl Bm, p.t ≠ 94 := by
  unfold capN Caps capT
  simp only [List.forall_mem_cons]
  refine ⟨⟨⟨h1, by decide⟩, ⟨h2, by decide⟩, ⟨h3, by decide⟩, by simp⟩, ⟨by decide, by decide, by decide, by simp⟩⟩
theorem callF_num : NumF .call 1 0 2147483648 (fun c => c.call) (fun c v => { c with call := v }) where
  cell := fun c A n m => rfl
  put := fun c A n m v => by simp [cA]
  z := fun c v h hv => by obtain ⟨a1, a2, a3, a4, a5, a6, a7, a8, a9, a10, a11, a12, a13, a14, a15, a16, a17, a18, a19⟩ := h; constructor <;> assumption
  d := fun c v => rfl
  ok := fun c => by unfold okF; exact Iff.rfl
  lo0 := by decide
  hi0 := by decide
  enc := fun c => rfl
  tx := fun c => rfl
  cl := fun c => rfl
  rd := fun c st => rfl
set_option maxHeartbeats 1000000 in
theorem callF_any (w : World) : Calls Tryz.prog 105 #[] w fun e w' => FldR .call w w' e := by
  have NB := Lib.hid (fun W => numMk_any 169 0 2147483648 W)
  have HW := Lib.hid (Whole.new w 94 nil5)
  go_enter Tryz.func105, Tryz.ntmps105
  go_wp2_with (go_at_call 168; refine (NB.out _).mono ?_; rintro e w1 ⟨⟨Ba, Bl, Bm, rfl, h1, h2, h3⟩, hb⟩; have H1 := Lib.hid (capN_ok h1 h2 h3); have HB := Lib.hid hb; obtain ⟨⟨x0, x1, x2, x3, x4⟩, f0, f1, f2, f3, f4⟩ := whole5 (HW.out.keep hb); clear h1 h2 h3 hb)
  refine bodyPost_ret (v := .agg #[fnv 225 #[.pointer (some ⟨Ba, 0, none⟩), .pointer (some ⟨Bl, 0, none⟩), .pointer (some ⟨Bm, 0, none⟩)], fnv 227 #[.pointer (some ⟨Ba, 0, none⟩)], fnv 228 #[.pointer (some ⟨Bm, 0, none⟩), .pointer (some ⟨Ba, 0, none⟩)],
      fnv 229 #[.pointer (some ⟨Ba, 0, none⟩)], fnv 230 #[.pointer (some ⟨Ba, 0, none⟩)]]) ?_ rfl ?_
  · have hlt := (HW.out.keep HB.out).lt
    simp [results, Tryz.results105, go_sem, x0, x1, x2, x3, x4]
  · exact FldR.wrap (num_fld atCall callF_num Ba Bl Bm) H1.out.1 H1.out.2 HB.out (put5_grown _ _ _ _ _ _ _)
theorem sagaF_num : NumF .saga 2 1 9999 (fun c => c.saga) (fun c v => { c with saga := v }) where
  cell := fun c A n m => rfl
  put := fun c A n m v => by simp [cA]
  z := fun c v h hv => by obtain ⟨a1, a2, a3, a4, a5, a6, a7, a8, a9, a10, a11, a12, a13, a14, a15, a16, a17, a18, a19⟩ := h; constructor <;> assumption
  d := fun c v => rfl
  ok := fun c => by unfold okF; exact Iff.rfl
  lo0 := by decide
  hi0 := by decide
  enc := fun c => rfl
  tx := fun c => rfl
  cl := fun c => rfl
  rd := fun c st => rfl
set_option maxHeartbeats 1000000 in
theorem sagaF_any (w : World) : Calls Tryz.prog 109 #[] w fun e w' => FldR .saga w w' e := by
  have NB := Lib.hid (fun W => numMk_any 181 1 9999 W)
  have HW := Lib.hid (Whole.new w 94 nil5)
  go_enter Tryz.func109, Tryz.ntmps109
  go_wp2_with (go_at_call 168; refine (NB.out _).mono ?_; rintro e w1 ⟨⟨Ba, Bl, Bm, rfl, h1, h2, h3⟩, hb⟩; have H1 := Lib.hid (capN_ok h1 h2 h3); have HB := Lib.hid hb; obtain ⟨⟨x0, x1, x2, x3, x4⟩, f0, f1, f2, f3, f4⟩ := whole5 (HW.out.keep hb); clear h1 h2 h3 hb)
  refine bodyPost_ret (v := .agg #[fnv 225 #[.pointer (some ⟨Ba, 0, none⟩), .pointer (some ⟨Bl, 0, none⟩), .pointer (some ⟨Bm, 0, none⟩)], fnv 227 #[.pointer (some ⟨Ba, 0, none⟩)], fnv 228 #[.pointer (some ⟨Bm, 0, none⟩), .pointer (some ⟨Ba, 0, none⟩)],
      fnv 229 #[.pointer (some ⟨Ba, 0, none⟩)], fnv 230 #[.pointer (some ⟨Ba, 0, none⟩)]]) ?_ rfl ?_
  · have hlt := (HW.out.keep HB.out).lt
    simp [results, Tryz.results109, go_sem, x0, x1, x2, x3, x4]
  · exact FldR.wrap (num_fld atSaga sagaF_num Ba Bl Bm) H1.out.1 H1.out.2 HB.out (put5_grown _ _ _ _ _ _ _)
theorem moveF_num : NumF .mv 8 1 64 (fun c => c.mv) (fun c v => { c with mv := v }) where
  cell := fun c A n m => rfl
  put := fun c A n m v => by simp [cA]
  z := fun c v h hv => by obtain ⟨a1, a2, a3, a4, a5, a6, a7, a8, a9, a10, a11, a12, a13, a14, a15, a16, a17, a18, a19⟩ := h; constructor <;> assumption
  d := fun c v => rfl
  ok := fun c => by unfold okF; exact Iff.rfl
  lo0 := by decide
  hi0 := by decide
  enc := fun c => rfl
  tx := fun c => rfl
  cl := fun c => rfl
  rd := fun c st => rfl
set_option maxHeartbeats 1000000 in
theorem moveF_any (w : World) : Calls Tryz.prog 106 #[] w fun e w' => FldR .mv w w' e := by
  have NB := Lib.hid (fun W => numMk_any 170 1 64 W)
  have HW := Lib.hid (Whole.new w 94 nil5)
  go_enter Tryz.func106, Tryz.ntmps106
  go_wp2_with (go_at_call 168; refine (NB.out _).mono ?_; rintro e w1 ⟨⟨Ba, Bl, Bm, rfl, h1, h2, h3⟩, hb⟩; have H1 := Lib.hid (capN_ok h1 h2 h3); have HB := Lib.hid hb; obtain ⟨⟨x0, x1, x2, x3, x4⟩, f0, f1, f2, f3, f4⟩ := whole5 (HW.out.keep hb); clear h1 h2 h3 hb)
  refine bodyPost_ret (v := .agg #[fnv 225 #[.pointer (some ⟨Ba, 0, none⟩), .pointer (some ⟨Bl, 0, none⟩), .pointer (some ⟨Bm, 0, none⟩)], fnv 227 #[.pointer (some ⟨Ba, 0, none⟩)], fnv 228 #[.pointer (some ⟨Bm, 0, none⟩), .pointer (some ⟨Ba, 0, none⟩)],
      fnv 229 #[.pointer (some ⟨Ba, 0, none⟩)], fnv 230 #[.pointer (some ⟨Ba, 0, none⟩)]]) ?_ rfl ?_
  · have hlt := (HW.out.keep HB.out).lt
    simp [results, Tryz.results106, go_sem, x0, x1, x2, x3, x4]
  · exact FldR.wrap (num_fld atMove moveF_num Ba Bl Bm) H1.out.1 H1.out.2 HB.out (put5_grown _ _ _ _ _ _ _)
theorem groupF_num : NumF .grp 11 1 7 (fun c => c.g) (fun c v => { c with g := v }) where
  cell := fun c A n m => rfl
  put := fun c A n m v => by simp [cA]
  z := fun c v h hv => by obtain ⟨a1, a2, a3, a4, a5, a6, a7, a8, a9, a10, a11, a12, a13, a14, a15, a16, a17, a18, a19⟩ := h; constructor <;> assumption
  d := fun c v => rfl
  ok := fun c => by unfold okF; exact Iff.rfl
  lo0 := by decide
  hi0 := by decide
  enc := fun c => rfl
  tx := fun c => rfl
  cl := fun c => rfl
  rd := fun c st => rfl
set_option maxHeartbeats 1000000 in
theorem groupF_any (w : World) : Calls Tryz.prog 111 #[] w fun e w' => FldR .grp w w' e := by
  have NB := Lib.hid (fun W => numMk_any 191 1 7 W)
  have HW := Lib.hid (Whole.new w 94 nil5)
  go_enter Tryz.func111, Tryz.ntmps111
  go_wp2_with (go_at_call 168; refine (NB.out _).mono ?_; rintro e w1 ⟨⟨Ba, Bl, Bm, rfl, h1, h2, h3⟩, hb⟩; have H1 := Lib.hid (capN_ok h1 h2 h3); have HB := Lib.hid hb; obtain ⟨⟨x0, x1, x2, x3, x4⟩, f0, f1, f2, f3, f4⟩ := whole5 (HW.out.keep hb); clear h1 h2 h3 hb)
  refine bodyPost_ret (v := .agg #[fnv 225 #[.pointer (some ⟨Ba, 0, none⟩), .pointer (some ⟨Bl, 0, none⟩), .pointer (some ⟨Bm, 0, none⟩)], fnv 227 #[.pointer (some ⟨Ba, 0, none⟩)], fnv 228 #[.pointer (some ⟨Bm, 0, none⟩), .pointer (some ⟨Ba, 0, none⟩)],
      fnv 229 #[.pointer (some ⟨Ba, 0, none⟩)], fnv 230 #[.pointer (some ⟨Ba, 0, none⟩)]]) ?_ rfl ?_
  · have hlt := (HW.out.keep HB.out).lt
    simp [results, Tryz.results111, go_sem, x0, x1, x2, x3, x4]
  · exact FldR.wrap (num_fld atGroup groupF_num Ba Bl Bm) H1.out.1 H1.out.2 HB.out (put5_grown _ _ _ _ _ _ _)
end
section
open Go.RowKit Go.Shelf

/-- What stands for a function that says whether a text is as it has to be; for one that shows it. -/
structure OkV (go : Nat) (p : ByteArray → Prop) : Prop where
  eg : ∀ args w, (callFunc go args).run Tryz.prog w = .ok (.enter go args) w
  ok : ∀ (s : ByteArray) (W : World), s.size ≤ 9223372036854775807 → Calls Tryz.prog go #[.string s] W fun e w' => (∃ b, e = .returned (.bool b) ∧ (b = true ↔ p s)) ∧ Below W.heap.size W w'
structure ShV (gs : Nat) (f : ByteArray → List UInt8) : Prop where
  eg : ∀ args w, (callFunc gs args).run Tryz.prog w = .ok (.enter gs args) w
  sh : ∀ (s : ByteArray) (W : World), DfE W → s.size ≤ 65536 → Calls Tryz.prog gs #[.string s] W fun e w' => e = .returned (.string ⟨(f s).toArray⟩) ∧ Below W.heap.size W w'
theorem okKey : OkV 160 (fun s => isName s.data.toList = true) :=
  ⟨enters_of Tryz.func160 (by kernel_rfl) rfl, fun s W hs => (name_any s W hs).mono (fun e w' ⟨he, hb⟩ => ⟨⟨_, he, Iff.rfl⟩, hb⟩)⟩
theorem okData : OkV 179 (fun s => s.size ≤ 65536) :=
  ⟨enters_of Tryz.func179 (by kernel_rfl) rfl, fun s W hs => by
    obtain ⟨q, hq⟩ : ∃ q, q = decide ((s.size : Int) ≤ 65536) := ⟨_, rfl⟩
    have HQ := Lib.hid hq
    go_enter Tryz.func179, Tryz.ntmps179
    go_wp2
    go_ret
    exact ⟨⟨_, rfl, by rw [decide_eq_true_eq]; omega⟩, Below.refl _ _⟩⟩
theorem ba_eta2 (s : ByteArray) : (⟨s.data.toList.toArray⟩ : ByteArray) = s := by cases s; simp
theorem shKey : ShV 161 (fun s => s.data.toList) :=
  ⟨enters_of Tryz.func161 (by kernel_rfl) rfl, fun s W _ _ => by
    rw [ba_eta2]
    go_enter Tryz.func161, Tryz.ntmps161
    go_wp2
    go_ret
    exact ⟨rfl, Below.refl _ _⟩⟩
theorem shData : ShV 180 (fun s => dgs s.size) :=
  ⟨enters_of Tryz.func180 (by kernel_rfl) rfl, fun s W hE hs => by
    have IT := Lib.hid (itoa_any (s.size : Int) (by omega) (by omega) W hE)
    clear hE hs
    go_enter Tryz.func180, Tryz.ntmps180
    go_wp2_with (go_at_call 97; refine IT.out.mono ?_; rintro e w1 ⟨rfl, hb⟩)
    go_ret
    exact ⟨rfl, hb⟩⟩
set_option maxHeartbeats 2000000 in
theorem tex1_any {ga off go : Nat} {p : ByteArray → Prop} (ha : AtV ga off) (ho : OkV go p) (s : ByteArray) (hs : s.size ≤ 9223372036854775807) (Bo Ba B : Nat) (w : World) (c1 : w.cell? ⟨Bo, 0, none⟩ = some (fnv go #[])) (c2 : w.cell? ⟨Ba, 0, none⟩ = some (fnv ga #[])) (c4 : w.cell? ⟨B, off, none⟩ = some (.string s)) :
    Calls Tryz.prog 217 #[.pointer (some ⟨B, 0, none⟩), .pointer (some ⟨Bo, 0, none⟩), .pointer (some ⟨Ba, 0, none⟩)] w fun e w' => (∃ b, e = .returned (.bool b) ∧ (b = true ↔ p s)) ∧ Below w.heap.size w w' := by
  have AT := Lib.hid (ha.at_ B)
  have eg := ha.eg
  have eo := ho.eg
  have OK := Lib.hid (fun W => ho.ok s W hs)
  have S0 : Hid (w.drew.cell? ⟨Bo, 0, none⟩ = some (fnv go #[]) ∧ w.drew.cell? ⟨Ba, 0, none⟩ = some (fnv ga #[]) ∧ w.drew.cell? ⟨B, off, none⟩ = some (.string s) ∧ Below w.heap.size w w.drew) := Lib.hid ⟨c1, c2, c4, (Below.refl _ _).drew⟩
  have HKP : Hid (∀ W1, Below w.drew.heap.size w.drew W1 → W1.cell? ⟨Bo, 0, none⟩ = some (fnv go #[]) ∧ W1.cell? ⟨Ba, 0, none⟩ = some (fnv ga #[]) ∧ W1.cell? ⟨B, off, none⟩ = some (.string s) ∧ Below w.heap.size w W1) :=
    Lib.hid (fun W1 hb => ⟨bcell S0.out.1 hb, bcell S0.out.2.1 hb, bcell S0.out.2.2.1 hb, S0.out.2.2.2.trans (hb.mono (Nat.le_refl w.heap.size))⟩)
  clear ha ho c1 c2 c4 hs
  go_enter Tryz.func217, Tryz.ntmps217
  go_upto_region 1 with fail
  go_region_held3 (fun wx => wx.cell? ⟨Bo, 0, none⟩ = some (fnv go #[]) ∧ wx.cell? ⟨Ba, 0, none⟩ = some (fnv ga #[]) ∧ wx.cell? ⟨B, off, none⟩ = some (.string s) ∧ Below w.heap.size w wx)
    (first | exact S0.out | exact S1.out | assumption)
    (first
      | (go_at_fn ga; refine (AT.out _).mono ?_; rintro e w1 ⟨rfl, rfl⟩)
      | (go_at_fn go; refine (OK.out _).mono ?_; rintro e w2 ⟨⟨b, rfl, hbp⟩, hb⟩; have S1 := Lib.hid (HKP.out w2 hb); have HP := Lib.hid hbp; clear hbp hb))
  go_wp2_with fail
  go_ret
  exact ⟨⟨_, rfl, HP.out⟩, S1.out.2.2.2⟩
set_option maxHeartbeats 1000000 in
theorem tex2_any {ga off : Nat} (ha : AtV ga off) (s : ByteArray) (hs : s.size ≤ 100000) (Ba B C base : Nat) (l : List UInt8) (w : World) (c1 : w.cell? ⟨Ba, 0, none⟩ = some (fnv ga #[])) (c4 : w.cell? ⟨B, off, none⟩ = some (.string s)) (hW : WrP w base C l) (hl : l.length ≤ 1000000) :
    Calls Tryz.prog 218 #[.pointer (some ⟨C, 0, none⟩), .pointer (some ⟨B, 0, none⟩), .pointer (some ⟨Ba, 0, none⟩)] w fun e w' => e = .returned (.tuple #[]) ∧ WrP w' base C (l ++ txB s.data.toList) ∧ WrK w w' base C := by
  have AT := Lib.hid (ha.at_ B)
  have eg := ha.eg
  have U := Lib.hid (wtext_any C base s l w hW (by omega) (by omega))
  clear ha hW hl hs
  go_enter Tryz.func218, Tryz.ntmps218
  go_wp2_with (first
    | (go_at_fn ga; refine (AT.out _).mono ?_; rintro e w1 ⟨rfl, rfl⟩)
    | (go_at_call 65; refine U.out.mono ?_; rintro e w1 ⟨rfl, hP, hK⟩))
  go_end0
  exact ⟨rfl, hP, hK⟩
set_option maxHeartbeats 1000000 in
theorem tex3_any {ga off : Nat} (ha : AtV ga off) (Ba B C : Nat) (st : WS) (v : Value) (w : World) (c1 : w.cell? ⟨Ba, 0, none⟩ = some (fnv ga #[])) (c4 : w.cell? ⟨B, off, none⟩ = some v) (f4 : w.frozen? ⟨B, off, none⟩ = false) (hP : RdP w C st) (n4 : B ≠ C) :
    Calls Tryz.prog 219 #[.pointer (some ⟨C, 0, none⟩), .pointer (some ⟨B, 0, none⟩), .pointer (some ⟨Ba, 0, none⟩)] w fun e w' => e = .returned (.tuple #[]) ∧ ∃ w1, w.grownBy w1 (some C) ∧ RdP w1 C (wT st).2 ∧ w' = w1.setCell ⟨B, off, none⟩ (.string ⟨(wT st).1.toArray⟩) := by
  have AT := Lib.hid (ha.at_ B)
  have eg := ha.eg
  have T := Lib.hid (rtext_any C st w hP)
  have HKP : Hid (∀ W1, w.grownBy W1 (some C) → W1.cell? ⟨B, off, none⟩ = some v ∧ W1.frozen? ⟨B, off, none⟩ = false) :=
    Lib.hid (fun W1 hg => ⟨gcell c4 hg (by simpa using n4), (World.frozen?_of_block (hg.block B (lt_cell c4) (by simpa using n4))).trans f4⟩)
  clear ha hP n4 c4 f4
  go_enter Tryz.func219, Tryz.ntmps219
  go_wp2_with (first
    | (go_at_fn ga; refine (AT.out _).mono ?_; rintro e w1 ⟨rfl, rfl⟩)
    | (go_at_call 60; refine T.out.mono ?_; rintro e w2 ⟨rfl, hP, hg⟩; obtain ⟨d4, e4⟩ := HKP.out w2 hg; have HPG := Lib.hid (And.intro hP hg); clear hP hg))
  go_end0
  exact ⟨rfl, _, HPG.out.2, HPG.out.1, rfl⟩
set_option maxHeartbeats 2000000 in
theorem tex4_any {ga off gs : Nat} {f : ByteArray → List UInt8} (ha : AtV ga off) (hh : ShV gs f) (s : ByteArray) (hs : s.size ≤ 65536) (Bo Ba B : Nat) (w : World) (hE : DfE w) (c1 : w.cell? ⟨Bo, 0, none⟩ = some (fnv gs #[])) (c2 : w.cell? ⟨Ba, 0, none⟩ = some (fnv ga #[])) (c4 : w.cell? ⟨B, off, none⟩ = some (.string s)) :
    Calls Tryz.prog 220 #[.pointer (some ⟨B, 0, none⟩), .pointer (some ⟨Bo, 0, none⟩), .pointer (some ⟨Ba, 0, none⟩)] w fun e w' => e = .returned (.string ⟨(f s).toArray⟩) ∧ Below w.heap.size w w' := by
  have AT := Lib.hid (ha.at_ B)
  have eg := ha.eg
  have eo := hh.eg
  have SH := Lib.hid (hh.sh s w.drew (hE.keep (Below.refl _ _).drew) hs)
  generalize (⟨(f s).toArray⟩ : ByteArray) = r at SH ⊢
  have S0 : Hid (w.drew.cell? ⟨Bo, 0, none⟩ = some (fnv gs #[]) ∧ w.drew.cell? ⟨Ba, 0, none⟩ = some (fnv ga #[]) ∧ w.drew.cell? ⟨B, off, none⟩ = some (.string s) ∧ Below w.heap.size w w.drew) := Lib.hid ⟨c1, c2, c4, (Below.refl _ _).drew⟩
  have HKP : Hid (∀ W1, Below w.drew.heap.size w.drew W1 → W1.cell? ⟨Bo, 0, none⟩ = some (fnv gs #[]) ∧ W1.cell? ⟨Ba, 0, none⟩ = some (fnv ga #[]) ∧ W1.cell? ⟨B, off, none⟩ = some (.string s) ∧ Below w.heap.size w W1) :=
    Lib.hid (fun W1 hb => ⟨bcell S0.out.1 hb, bcell S0.out.2.1 hb, bcell S0.out.2.2.1 hb, S0.out.2.2.2.trans (hb.mono (Nat.le_refl w.heap.size))⟩)
  clear ha hh c1 c2 c4 hs hE
  go_enter Tryz.func220, Tryz.ntmps220
  go_upto_region 1 with fail
  go_region_held3 (fun wx => wx.cell? ⟨Bo, 0, none⟩ = some (fnv gs #[]) ∧ wx.cell? ⟨Ba, 0, none⟩ = some (fnv ga #[]) ∧ wx.cell? ⟨B, off, none⟩ = some (.string s) ∧ Below w.heap.size w wx)
    (first | exact S0.out | exact S1.out | assumption)
    (first
      | (go_at_fn ga; refine (AT.out _).mono ?_; rintro e w1 ⟨rfl, rfl⟩)
      | (go_at_fn gs; refine SH.out.mono ?_; rintro e w2 ⟨rfl, hb⟩; have S1 := Lib.hid (HKP.out w2 hb); clear hb))
  go_wp2_with fail
  go_ret
  exact ⟨rfl, S1.out.2.2.2⟩
set_option maxHeartbeats 1000000 in
theorem tex5_any {ga off : Nat} (ha : AtV ga off) (v : Value) (Ba B : Nat) (w : World) (c1 : w.cell? ⟨Ba, 0, none⟩ = some (fnv ga #[])) (c4 : w.cell? ⟨B, off, none⟩ = some v) (f4 : w.frozen? ⟨B, off, none⟩ = false) :
    Calls Tryz.prog 221 #[.pointer (some ⟨B, 0, none⟩), .pointer (some ⟨Ba, 0, none⟩)] w fun e w' => e = .returned (.tuple #[]) ∧ w' = w.setCell ⟨B, off, none⟩ (.string ⟨#[]⟩) := by
  have AT := Lib.hid (ha.at_ B)
  have eg := ha.eg
  clear ha
  go_enter Tryz.func221, Tryz.ntmps221
  go_wp2_with (go_at_fn ga; refine (AT.out _).mono ?_; rintro e w1 ⟨rfl, rfl⟩)
  go_end0
  exact ⟨rfl, rfl⟩
/-- A field that is a text. -/
structure TexF (x : Fl) (off : Nat) (p : ByteArray → Prop) (f : ByteArray → List UInt8) (get : Cv → ByteArray) (upd : Cv → ByteArray → Cv) : Prop where
  cell : ∀ c A n m, (cA c A n m)[off]? = some (.string (get c))
  put : ∀ c A n m v, (cA c A n m).setIfInBounds off (.string v) = cA (upd c v) A n m
  sz : ∀ c, CmdZ c → (get c).size ≤ 9223372036854775807
  z : ∀ c v, CmdZ c → v.size ≤ 9223372036854775807 → CmdZ (upd c v)
  d : ∀ c v, (upd c v).d = c.d
  ok : ∀ c, okF x c ↔ p (get c)
  short : ∀ s, p s → s.size ≤ 65536
  enc : ∀ c, encF x c = txB (get c).data.toList
  tx : ∀ c, textF x c = f (get c)
  cl : ∀ c, clrF x c = upd c ⟨#[]⟩
  rd : ∀ c st, rdF limP x c st = (upd c ⟨(wT st).1.toArray⟩, (wT st).2)
/-- What lies for a text's functions. -/
def capT3 (ga go gs : Nat) (Ba Bo Bs : Nat) : List Cap := [⟨Ba, 191, #[fnv ga #[]]⟩, ⟨Bo, 175, #[fnv go #[]]⟩, ⟨Bs, 192, #[fnv gs #[]]⟩]
theorem tex_fld {x : Fl} {ga go gs off : Nat} {p : ByteArray → Prop} {f : ByteArray → List UInt8} {get : Cv → ByteArray} {upd : Cv → ByteArray → Cv} (ha : AtV ga off) (ho : OkV go p) (hh : ShV gs f) (h : TexF x off p f get upd) (Ba Bo Bs : Nat) :
    FldAt x (fnv 217 #[.pointer (some ⟨Bo, 0, none⟩), .pointer (some ⟨Ba, 0, none⟩)]) (fnv 218 #[.pointer (some ⟨Ba, 0, none⟩)]) (fnv 219 #[.pointer (some ⟨Ba, 0, none⟩)])
      (fnv 220 #[.pointer (some ⟨Bs, 0, none⟩), .pointer (some ⟨Ba, 0, none⟩)]) (fnv 221 #[.pointer (some ⟨Ba, 0, none⟩)]) (capT3 ga go gs Ba Bo Bs) := by
  have k1 : ∀ {W}, Caps W (capT3 ga go gs Ba Bo Bs) → Whole W Ba 191 #[fnv ga #[]] := fun hc => (hc ⟨_, _, _⟩ (List.mem_cons_self ..)).1
  have k2 : ∀ {W}, Caps W (capT3 ga go gs Ba Bo Bs) → Whole W Bo 175 #[fnv go #[]] := fun hc => (hc ⟨_, _, _⟩ (List.mem_cons_of_mem _ (List.mem_cons_self ..))).1
  have k3 : ∀ {W}, Caps W (capT3 ga go gs Ba Bo Bs) → Whole W Bs 192 #[fnv gs #[]] := fun hc => (hc ⟨_, _, _⟩ (List.mem_cons_of_mem _ (List.mem_cons_of_mem _ (List.mem_cons_self ..)))).1
  refine ⟨⟨_, _, ⟨rfl, enters_of Tryz.func217 (by kernel_rfl) rfl⟩, fun c A n m B W _ hc hC => ?_⟩, ⟨_, _, ⟨rfl, enters_of Tryz.func218 (by kernel_rfl) rfl⟩, fun c A n m B C base l W hc hC hk hW hl _ => ?_⟩,
    ⟨_, _, ⟨rfl, enters_of Tryz.func219 (by kernel_rfl) rfl⟩, fun c A n m B C st W hc hC hP hCB => ?_⟩, ⟨_, _, ⟨rfl, enters_of Tryz.func220 (by kernel_rfl) rfl⟩, fun c A n m B W hE hc hC hk => ?_⟩,
    ⟨_, _, ⟨rfl, enters_of Tryz.func221 (by kernel_rfl) rfl⟩, fun c A n m B W hc hC => ?_⟩⟩
  · refine (tex1_any ha ho (get c) (h.sz c hC.i.z) Bo Ba B W ((k2 hc).cell 0) ((k1 hc).cell 0) ((hC.w.cell off).trans (h.cell c A n m))).mono ?_
    rintro e w1 ⟨⟨b, rfl, hb1⟩, hb⟩
    exact ⟨⟨_, rfl, hb1.trans (h.ok c).symm⟩, hb⟩
  · have hk' := h.short _ ((h.ok c).1 hk)
    rw [h.enc]
    exact tex2_any ha (get c) (by omega) Ba B C base l W ((k1 hc).cell 0) ((hC.w.cell off).trans (h.cell c A n m)) hW hl
  · refine (tex3_any ha Ba B C st _ W ((k1 hc).cell 0) ((hC.w.cell off).trans (h.cell c A n m)) (hC.w.fr off) hP (by omega)).mono ?_
    rintro e w1 ⟨rfl, w2, hg, hP2, rfl⟩
    have C2 := hC.reads hP hg hCB
    have g2 := grown_set (World.grownBy.refl w2 (some B)) off (.string ⟨(wT st).1.toArray⟩)
    have hw := C2.w.put off (.string ⟨(wT st).1.toArray⟩)
    rw [h.put] at hw
    rw [h.rd]
    exact ⟨rfl, hP2.other g2 (fun k e => by cases e; exact hCB), (TwoK.two hg).trans (TwoK.one g2), A, n, m, C2.turn g2 hw (h.d _ _) (h.z _ _ hC.i.z (by rw [Lib.size_mk]; have := wT_len st; omega))⟩
  · have hk' := h.short _ ((h.ok c).1 hk)
    rw [h.tx]
    exact tex4_any ha hh (get c) hk' Bs Ba B W hE ((k3 hc).cell 0) ((k1 hc).cell 0) ((hC.w.cell off).trans (h.cell c A n m))
  · refine (tex5_any ha _ Ba B W ((k1 hc).cell 0) ((hC.w.cell off).trans (h.cell c A n m)) (hC.w.fr off)).mono ?_
    rintro e w1 ⟨rfl, rfl⟩
    have g2 := grown_set (World.grownBy.refl W (some B)) off (.string ⟨#[]⟩)
    have hw := hC.w.put off (.string ⟨#[]⟩)
    rw [h.put] at hw
    rw [h.cl]
    exact ⟨rfl, g2, A, n, m, hC.turn g2 hw (h.d _ _) (h.z _ _ hC.i.z (by decide))⟩
set_option maxHeartbeats 1000000 in
theorem texMk_any (ga go gs : Nat) (w : World) :
    Calls Tryz.prog 158 #[fnv ga #[], fnv go #[], fnv gs #[]] w fun e w' => (∃ Ba Bo Bs, e = .returned (.agg #[fnv 217 #[.pointer (some ⟨Bo, 0, none⟩), .pointer (some ⟨Ba, 0, none⟩)], fnv 218 #[.pointer (some ⟨Ba, 0, none⟩)], fnv 219 #[.pointer (some ⟨Ba, 0, none⟩)],
      fnv 220 #[.pointer (some ⟨Bs, 0, none⟩), .pointer (some ⟨Ba, 0, none⟩)], fnv 221 #[.pointer (some ⟨Ba, 0, none⟩)]]) ∧ Whole w' Ba 191 #[fnv ga #[]] ∧ Whole w' Bo 175 #[fnv go #[]] ∧ Whole w' Bs 192 #[fnv gs #[]]) ∧ Below w.heap.size w w' := by
  go_enter Tryz.func158, Tryz.ntmps158
  go_wp2
  refine bodyPost_ret (v := .agg #[fnv 217 #[.pointer (some ⟨w.heap.size + 1, 0, none⟩), .pointer (some ⟨w.heap.size, 0, none⟩)], fnv 218 #[.pointer (some ⟨w.heap.size, 0, none⟩)], fnv 219 #[.pointer (some ⟨w.heap.size, 0, none⟩)],
      fnv 220 #[.pointer (some ⟨w.heap.size + 1 + 1, 0, none⟩), .pointer (some ⟨w.heap.size, 0, none⟩)], fnv 221 #[.pointer (some ⟨w.heap.size, 0, none⟩)]]) (by simp [results, Tryz.results158, go_sem]) rfl ⟨⟨_, _, _, rfl, (((Whole.new w _ _).alloc _).alloc _).alloc _, ?_, ?_⟩, ((((Below.refl _ w).alloc (Nat.le_refl _) _).alloc (by simp) _).alloc (by simp; omega) _).alloc (by simp; omega) _⟩
  · have h := Whole.new (w.alloc (.cells #[fnv ga #[]] 191)) 175 #[fnv go #[]]
    rw [World.size_alloc] at h
    exact (h.alloc _).alloc _
  · have h := Whole.new ((w.alloc (.cells #[fnv ga #[]] 191)).alloc (.cells #[fnv go #[]] 175)) 192 #[fnv gs #[]]
    rw [World.size_alloc, World.size_alloc] at h
    exact h.alloc _
theorem capT3_ok {W : World} {ga go gs : Nat} {Ba Bo Bs : Nat} (h1 : Whole W Ba 191 #[fnv ga #[]]) (h2 : Whole W Bo 175 #[fnv go #[]]) (h3 : Whole W Bs 192 #[fnv gs #[]]) : Caps W (capT3 ga go gs Ba Bo Bs) ∧ ∀ p ∈ capT3 ga go gs Ba Bo Bs, p.t ≠ 94 := by
  unfold capT3 Caps capT
  simp only [List.forall_mem_cons]
  refine ⟨⟨⟨h1, by decide⟩, ⟨h2, by decide⟩, ⟨h3, by decide⟩, by simp⟩, ⟨by decide, by decide, by decide, by simp⟩⟩
theorem keyF_tex : TexF .key 6 (fun s => isName s.data.toList = true) (fun s => s.data.toList) (fun c => c.key) (fun c v => { c with key := v }) where
  cell := fun c A n m => rfl
  put := fun c A n m v => by simp [cA]
  sz := fun c h => h.key
  z := fun c v h hv => by obtain ⟨a1, a2, a3, a4, a5, a6, a7, a8, a9, a10, a11, a12, a13, a14, a15, a16, a17, a18, a19⟩ := h; constructor <;> assumption
  d := fun c v => rfl
  ok := fun c => by unfold okF; exact Iff.rfl
  short := fun s hs => by first | exact hs | (have := (isName_len hs).2.1; rw [Lib.size_eq]; omega)
  enc := fun c => rfl
  tx := fun c => rfl
  cl := fun c => rfl
  rd := fun c st => rfl
set_option maxHeartbeats 1000000 in
theorem keyF_any (w : World) : Calls Tryz.prog 103 #[] w fun e w' => FldR .key w w' e := by
  have NB := Lib.hid (fun W => texMk_any 159 160 161 W)
  have HW := Lib.hid (Whole.new w 94 nil5)
  go_enter Tryz.func103, Tryz.ntmps103
  go_wp2_with (go_at_call 158; refine (NB.out _).mono ?_; rintro e w1 ⟨⟨Ba, Bo, Bs, rfl, h1, h2, h3⟩, hb⟩; have H1 := Lib.hid (capT3_ok h1 h2 h3); have HB := Lib.hid hb; obtain ⟨⟨x0, x1, x2, x3, x4⟩, f0, f1, f2, f3, f4⟩ := whole5 (HW.out.keep hb); clear h1 h2 h3 hb)
  refine bodyPost_ret (v := .agg #[fnv 217 #[.pointer (some ⟨Bo, 0, none⟩), .pointer (some ⟨Ba, 0, none⟩)], fnv 218 #[.pointer (some ⟨Ba, 0, none⟩)], fnv 219 #[.pointer (some ⟨Ba, 0, none⟩)],
      fnv 220 #[.pointer (some ⟨Bs, 0, none⟩), .pointer (some ⟨Ba, 0, none⟩)], fnv 221 #[.pointer (some ⟨Ba, 0, none⟩)]]) ?_ rfl ?_
  · have hlt := (HW.out.keep HB.out).lt
    simp [results, Tryz.results103, go_sem, x0, x1, x2, x3, x4]
  · exact FldR.wrap (tex_fld atKey okKey shKey keyF_tex Ba Bo Bs) H1.out.1 H1.out.2 HB.out (put5_grown _ _ _ _ _ _ _)
theorem dataF_tex : TexF .data 23 (fun s => s.size ≤ 65536) (fun s => dgs s.size) (fun c => c.data) (fun c v => { c with data := v }) where
  cell := fun c A n m => rfl
  put := fun c A n m v => by simp [cA]
  sz := fun c h => h.data
  z := fun c v h hv => by obtain ⟨a1, a2, a3, a4, a5, a6, a7, a8, a9, a10, a11, a12, a13, a14, a15, a16, a17, a18, a19⟩ := h; constructor <;> assumption
  d := fun c v => rfl
  ok := fun c => by unfold okF; exact Iff.rfl
  short := fun s hs => by first | exact hs | (have := (isName_len hs).2.1; rw [Lib.size_eq]; omega)
  enc := fun c => rfl
  tx := fun c => rfl
  cl := fun c => rfl
  rd := fun c st => rfl
set_option maxHeartbeats 1000000 in
theorem dataF_any (w : World) : Calls Tryz.prog 108 #[] w fun e w' => FldR .data w w' e := by
  have NB := Lib.hid (fun W => texMk_any 178 179 180 W)
  have HW := Lib.hid (Whole.new w 94 nil5)
  go_enter Tryz.func108, Tryz.ntmps108
  go_wp2_with (go_at_call 158; refine (NB.out _).mono ?_; rintro e w1 ⟨⟨Ba, Bo, Bs, rfl, h1, h2, h3⟩, hb⟩; have H1 := Lib.hid (capT3_ok h1 h2 h3); have HB := Lib.hid hb; obtain ⟨⟨x0, x1, x2, x3, x4⟩, f0, f1, f2, f3, f4⟩ := whole5 (HW.out.keep hb); clear h1 h2 h3 hb)
  refine bodyPost_ret (v := .agg #[fnv 217 #[.pointer (some ⟨Bo, 0, none⟩), .pointer (some ⟨Ba, 0, none⟩)], fnv 218 #[.pointer (some ⟨Ba, 0, none⟩)], fnv 219 #[.pointer (some ⟨Ba, 0, none⟩)],
      fnv 220 #[.pointer (some ⟨Bs, 0, none⟩), .pointer (some ⟨Ba, 0, none⟩)], fnv 221 #[.pointer (some ⟨Ba, 0, none⟩)]]) ?_ rfl ?_
  · have hlt := (HW.out.keep HB.out).lt
    simp [results, Tryz.results108, go_sem, x0, x1, x2, x3, x4]
  · exact FldR.wrap (tex_fld atData okData shData dataF_tex Ba Bo Bs) H1.out.1 H1.out.2 HB.out (put5_grown _ _ _ _ _ _ _)
end
end Go.Proofs.YtgjnmfmbheejoaaGreatDoor
