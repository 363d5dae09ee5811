/- ParseAll. Conditions: the program's own variables lie as its start lays them. -/
import Derived.Test.YtojodekmmkemgaaGreatDoorScPl
namespace Go.Proofs.YtojodekmmkemgaaGreatDoor
open Go.RowKit Go.Shelf
attribute [local go_sem] Oper.semAt_some

/-- What reading a script answers. -/
noncomputable def paTop (s : List UInt8) : List Ov × Nat × Int := if 65536 < s.length then ([], 0, 11) else paAll (linesL s) 0 []
def PAllR (s : List UInt8) (w : World) (e : Ending) (w' : World) : Prop := ∃ (l : List Oq) (A : Option Addr) (c m : Nat) (er : Int), e = .returned (.tuple #[.slice A l.length c, .int .i64 (m : Int), .int .i64 er]) ∧ paTop s = (l.map (·.o), m, er) ∧ SlO w' A l ∧ l.length ≤ c ∧ Below w.heap.size w w'
def PaI (s : List UInt8) (w : World) (pre : List Ln) (W : World) : Prop := ∃ (l : List Oq) (v : Value), (∀ rest, linesL s = pre.map (·.1) ++ rest → paAll (linesL s) 0 [] = paAll rest pre.length (l.map (·.o))) ∧ l.length ≤ 2000 ∧ PaC w pre.length l v W
def paE (s : List UInt8) (pre : List Ln) (m : Nat) (er : Int) : Prop := ∀ rest, linesL s = pre.map (·.1) ++ rest → paAll (linesL s) 0 [] = ([], m, er)
theorem linesGo_len : ∀ (l cur : List UInt8), (linesGo cur l).length ≤ l.length + 1
  | [], cur => Nat.le_refl _
  | c :: r, cur => by
    unfold linesGo
    split
    · rw [List.length_cons, List.length_cons]; have := linesGo_len r []; omega
    · rw [List.length_cons]; have := linesGo_len r (cur ++ [c]); omega
theorem load_sl {W : World} {a : Addr} {A : Option Addr} {n c : Nat} (h : W.cell? a = some (.slice A n c)) : (loadVar 24 a).run Tryz.prog W = .ok (.slice A n c) W := by
  simp [go_sem, h]
theorem load_i {W : World} {a : Addr} {v : Int} (h : W.cell? a = some (.int .i64 v)) : (loadVar 3 a).run Tryz.prog W = .ok (.int .i64 v) W := by
  simp [go_sem, h]
theorem load_e {W : World} {a : Addr} {v : Int} (h : W.cell? a = some (.int .i64 v)) : (loadVar 36 a).run Tryz.prog W = .ok (.int .i64 v) W := by
  simp [go_sem, h]
theorem results_cells3 {P : Program} {fn : Func} {p q r : Tmp} {t1 t2 t3 : TypeId} (h : fn.results = #[.cell p t1, .cell q t2, .cell r t3]) (tmps : Array Value) (w : World) (a b c : Addr) {u v x : Value}
    (hp : tmps.getD p undef = .pointer (some a)) (hq : tmps.getD q undef = .pointer (some b)) (hr : tmps.getD r undef = .pointer (some c))
    (h1 : (loadVar t1 a).run P w = .ok u w) (h2 : (loadVar t2 b).run P w = .ok v w) (h3 : (loadVar t3 c).run P w = .ok x w) : (results fn tmps).run P w = .ok (.tuple #[u, v, x]) w := by
  have hp' : tmps[p]?.getD undef = .pointer (some a) := by simpa using hp
  have hq' : tmps[q]?.getD undef = .pointer (some b) := by simpa using hq
  have hr' : tmps[r]?.getD undef = .pointer (some c) := by simpa using hr
  simp [results, h, hp', hq', hr', asAddr, h1, h2, h3]
/-- Memory ahead of the loop. -/
def paW (s : ByteArray) (w : World) : World := ((((((((w.alloc (.cells #[.slice none 0 0] 24)).alloc (.cells #[.int .i64 0] 3)).alloc (.cells #[.int .i64 0] 36)).alloc (.cells #[.slice none 0 0] 24)).alloc (.cells #[.int .i64 0] 3)).alloc (.cells #[.string s] 9)).alloc (.cells #[.string ⟨#[10]⟩] 9)).alloc (.cells #[.int .i64 0] 3))
theorem paW_size (s : ByteArray) (w : World) : (paW s w).heap.size = w.heap.size + 8 := by unfold paW; simp only [World.size_alloc]
theorem paW_start (s : ByteArray) (w : World) : PaC w 0 [] (.slice none 0 0) (paW s w) ∧ Boxed (paW s w) (w.heap.size + 5) 9 (.string s) := by
  unfold paW
  have z0 := Boxed.new w 24 (.slice none 0 0)
  obtain ⟨w1, hw1⟩ : ∃ x, x = w.alloc (.cells #[.slice none 0 0] 24) := ⟨_, rfl⟩
  rw [← hw1] at z0 ⊢
  have s1 : w1.heap.size = w.heap.size + 1 := by rw [hw1, World.size_alloc]
  have z1 := Boxed.new w1 3 (.int .i64 0)
  rw [s1] at z1
  have b1 : Below w.heap.size w w1 := by rw [hw1]; exact (Below.refl _ w).alloc (Nat.le_refl _) _
  obtain ⟨w2, hw2⟩ : ∃ x, x = w1.alloc (.cells #[.int .i64 0] 3) := ⟨_, rfl⟩
  have y0 := z0.alloc (.cells #[.int .i64 0] 3)
  rw [← hw2] at z1 y0 ⊢
  have s2 : w2.heap.size = w.heap.size + 2 := by rw [hw2, World.size_alloc, s1]
  have z2 := Boxed.new w2 36 (.int .i64 0)
  rw [s2] at z2
  have b2 : Below w.heap.size w w2 := by rw [hw2]; exact b1.alloc (by omega) _
  obtain ⟨w3, hw3⟩ : ∃ x, x = w2.alloc (.cells #[.int .i64 0] 36) := ⟨_, rfl⟩
  have y0 := y0.alloc (.cells #[.int .i64 0] 36)
  have y1 := z1.alloc (.cells #[.int .i64 0] 36)
  rw [← hw3] at z2 y0 y1 ⊢
  have s3 : w3.heap.size = w.heap.size + 3 := by rw [hw3, World.size_alloc, s2]
  have z3 := Boxed.new w3 24 (.slice none 0 0)
  rw [s3] at z3
  have b3 : Below w.heap.size w w3 := by rw [hw3]; exact b2.alloc (by omega) _
  obtain ⟨w4, hw4⟩ : ∃ x, x = w3.alloc (.cells #[.slice none 0 0] 24) := ⟨_, rfl⟩
  have y0 := y0.alloc (.cells #[.slice none 0 0] 24)
  have y1 := y1.alloc (.cells #[.slice none 0 0] 24)
  have y2 := z2.alloc (.cells #[.slice none 0 0] 24)
  rw [← hw4] at z3 y0 y1 y2 ⊢
  have s4 : w4.heap.size = w.heap.size + 4 := by rw [hw4, World.size_alloc, s3]
  have z4 := Boxed.new w4 3 (.int .i64 0)
  rw [s4] at z4
  have b4 : Below w.heap.size w w4 := by rw [hw4]; exact b3.alloc (by omega) _
  obtain ⟨w5, hw5⟩ : ∃ x, x = w4.alloc (.cells #[.int .i64 0] 3) := ⟨_, rfl⟩
  have y0 := y0.alloc (.cells #[.int .i64 0] 3)
  have y1 := y1.alloc (.cells #[.int .i64 0] 3)
  have y2 := y2.alloc (.cells #[.int .i64 0] 3)
  have y3 := z3.alloc (.cells #[.int .i64 0] 3)
  rw [← hw5] at z4 y0 y1 y2 y3 ⊢
  have s5 : w5.heap.size = w.heap.size + 5 := by rw [hw5, World.size_alloc, s4]
  have z5 := Boxed.new w5 9 (.string s)
  rw [s5] at z5
  have b5 : Below w.heap.size w w5 := by rw [hw5]; exact b4.alloc (by omega) _
  have z6 := Boxed.new (w5.alloc (.cells #[.string s] 9)) 9 (.string ⟨#[10]⟩)
  rw [World.size_alloc, s5] at z6
  have z7 := Boxed.new ((w5.alloc (.cells #[.string s] 9)).alloc (.cells #[.string ⟨#[10]⟩] 9)) 3 (.int .i64 0)
  rw [World.size_alloc, World.size_alloc, s5] at z7
  have h5 := (z5.alloc (.cells #[.string ⟨#[10]⟩] 9)).alloc (.cells #[.int .i64 0] 3)
  exact ⟨⟨((y3.alloc _).alloc _).alloc _, World.ownsRow_nil _ _ _ _, fun q hq => by simp at hq, ((z4.alloc _).alloc _).alloc _, ((y0.alloc _).alloc _).alloc _, ((y1.alloc _).alloc _).alloc _, ((y2.alloc _).alloc _).alloc _, ⟨_, h5⟩, z6.alloc _, z7, ((b5.alloc (by omega) _).alloc (by simp only [World.size_alloc]; omega) _).alloc (by simp only [World.size_alloc]; omega) _⟩, h5⟩
theorem paI_start (s : ByteArray) (w : World) : PaI s.data.toList w [] (paW s w) := ⟨[], .slice none 0 0, fun rest h => by rw [h]; rfl, Nat.zero_le _, (paW_start s w).1⟩
theorem paI_nc (s : List UInt8) (w : World) (pre : List Ln) (A B : World) (row : Option Nat) (h : PaI s w pre A) (hg : A.grownBy B row) (hr : ∀ r, row = some r → w.heap.size ≤ r ∧ ∃ o : Obj, A.heap[r]? = some o ∧ o.isCells = false) : PaI s w pre B := by
  obtain ⟨l, v, h1, h2, h3⟩ := h
  exact ⟨l, v, h1, h2, h3.nc hg hr⟩
theorem paI_mv (s : List UInt8) (w : World) (pre : List Ln) (A B : World) (h : PaI s w pre A) (hm : LinM (w.heap.size + 5) A B) : PaI s w pre B := by
  obtain ⟨l, v, h1, h2, h3⟩ := h
  exact ⟨l, v, h1, h2, h3.mv hm⟩
set_option maxRecDepth 100000 in
set_option maxHeartbeats 1000000 in
theorem pall_long (s : ByteArray) (w : World) (hl : 65536 < s.size) :
    Calls Tryz.prog 13 #[.string s] w fun e w' => PAllR s.data.toList w e w' := by
  have HT : Hid (paTop s.data.toList = ([], 0, 11)) := Lib.hid (if_pos hl)
  have h1 : (65536 : Int) < (s.size : Int) := by omega
  clear hl
  go_enter Tryz.func13, Tryz.ntmps13
  go_wp2_with fail
  refine bodyPost_ret (results_cells3 rfl _ _ _ _ _ rfl rfl rfl (load_sl (A := none) (n := 0) (c := 0) ?_) (load_i (v := 0) ?_) (load_e (v := 11) ?_)) rfl ?_
  · simp [go_sem]
  · simp [go_sem]
  · simp [go_sem]
  · exact ⟨[], none, 0, 0, 11, rfl, HT.out, fun i q h => by simp at h, Nat.le_refl _, (((Below.refl w.heap.size w).alloc (Nat.le_refl _) _).alloc (by simp only [World.size_alloc]; omega) _).alloc (by simp only [World.size_alloc]; omega) _⟩
set_option maxRecDepth 100000 in
set_option maxHeartbeats 1000000 in
theorem pall_any (s : ByteArray) (w : World) (hE : DfE w) (hl : s.size ≤ 65536) :
    Calls Tryz.prog 13 #[.string s] w fun e w' => PAllR s.data.toList w e w' := by
  have mixed : Tryz.prog.follows Departure.mixedOrders = true := by kernel_rfl
  have HE := Lib.hid hE
  have HT : Hid (paTop s.data.toList = paAll (linesL s.data.toList) 0 []) := Lib.hid (if_neg (by show ¬ 65536 < s.size; omega))
  have h1 : ¬ ((65536 : Int) < (s.size : Int)) := by omega
  have HL := Lib.hid hl
  clear hE hl
  refine (callsIn_wide (n := 8)).1 ?_
  refine callsIn_of_wp_marks Tryz.func13 rfl trivial ?_ rfl
  simp only [Tryz.ntmps13, List.size_toArray, List.length_cons, List.length_nil, Nat.reduceAdd, Nat.reduceSub, Array.replicate_succ, Array.replicate_zero, List.push_toArray, List.append_toArray, List.nil_append, List.cons_append]
  gi_wp2_with (refine ⟨trivial, ?_⟩; gi_at_call 44; refine (SplitSeq_in _ (by decide) _ _ _).mono ?_; rintro e w2 ⟨rfl, rfl⟩)
  have X5 := (paW_start s w).2
  have hsz := paW_size s w
  have PS := paW_start s w
  have PI := paI_start s w
  rw [show ((((((((w.alloc (.cells #[.slice none 0 0] 24)).alloc (.cells #[.int .i64 0] 3)).alloc (.cells #[.int .i64 0] 36)).alloc (.cells #[.slice none 0 0] 24)).alloc (.cells #[.int .i64 0] 3)).alloc (.cells #[.string s] 9)).alloc (.cells #[.string ⟨#[10]⟩] 9)).alloc (.cells #[.int .i64 0] 3)) = paW s w from rfl]
  generalize paW s w = W0 at X5 hsz PS PI ⊢
  rw [← ba_eta s] at X5
  refine rangeM rfl (by decide) (gf := 114) (lb := #[.pointer (some ⟨w.heap.size + 5 + 1, 0, none⟩), .pointer (some ⟨w.heap.size + 5, 0, none⟩), .pointer (some ⟨w.heap.size + 5 + 1 + 1, 0, none⟩)]) rfl trivial (enters_of Tryz.func114 (by kernel_rfl) rfl)
    (lines_in s.data.toList (8 - 1) (by decide) (w.heap.size + 5) W0 HL.out X5 PS.1.k1 PS.1.k2) (fun A B i o hm hi ho => ?mv) (fun h k => ⟨k.1.trans h.1, k.2.1.trans h.2.1, k.2.2.trans h.2.2⟩) (fun W q o o' hq ho h1 h2 => ⟨World.putObj_heap_other (by omega), World.putObj_heap_other (by omega), World.putObj_heap_other (by omega)⟩) (Below.refl _ _) (fun _ => rfl)
    (PaI s.data.toList w) (fun c pre W => c = .ret ∧ PaX w (paE s.data.toList pre) W)
    (fun pre A B row hs hg hr => paI_nc _ _ _ _ _ _ hs hg (fun r e => ⟨by have := (hr r e).1; omega, (hr r e).2⟩))
    (fun c pre A B row hs hg hr => ⟨hs.1, hs.2.nc hg (fun r e => ⟨by have := (hr r e).1; omega, (hr r e).2⟩)⟩) (fun pre A B hs hm => paI_mv _ _ _ _ _ hs hm) (fun c pre A B hs hm => ⟨hs.1, hs.2.mv hm⟩) PI ?act ?assign ?body ?done ?stop
  case mv =>
    obtain ⟨v0, v1, hb1, rfl⟩ := hm
    refine (Below.heap_setCell A ⟨w.heap.size + 5, 0, none⟩ v1 i (fun e => ?_)).trans hi
    subst e
    rw [show A.heap[w.heap.size + 5]? = _ from hb1] at hi
    cases hi; cases ho
  case assign =>
    intro L x W K hK
    gi_wp2
    exact hK
  case body =>
    rintro L pre x X ⟨l, v, hpa, hln, hC⟩ hlen
    unfold lnV
    have hk : pre.length ≤ 65537 := by
      have h9 := linesGo_len s.data.toList []
      have h8 := HL.out
      rw [Lib.size_eq] at h8
      unfold linesL at hlen
      omega
    have a4 : X.cell? ⟨w.heap.size + 1 + 1 + 1 + 1, 0, none⟩ = some (.int .i64 (pre.length : Int)) := hC.ba.cell
    have g4 : X.frozen? ⟨w.heap.size + 1 + 1 + 1 + 1, 0, none⟩ = false := hC.ba.frozen
    have C1 : Hid (PaC w (pre.length + 1) l v (X.setCell ⟨w.heap.size + 1 + 1 + 1 + 1, 0, none⟩ (.int .i64 ((pre.length : Int) + 1)))) := Lib.hid (hC.at (pre.length + 1))
    have K1 := Lib.hid (KeepsOthers.setCell X ⟨w.heap.size + 1 + 1 + 1 + 1, 0, none⟩ (.int .i64 ((pre.length : Int) + 1)))
    have U1 : Hid (∀ u, Boxed X (w.heap.size + 5) 9 u → Boxed (X.setCell ⟨w.heap.size + 1 + 1 + 1 + 1, 0, none⟩ (.int .i64 ((pre.length : Int) + 1))) (w.heap.size + 5) 9 u) := Lib.hid (fun u hu => hu.other (B' := w.heap.size + 4) (by omega) _)
    have HC := Lib.hid hC
    have HPA := Lib.hid hpa
    have HLN := Lib.hid hln
    have HK := Lib.hid hk
    have HX := Lib.hid x.2
    have wr1 : wrap64 ((pre.length : Int) + 1) = (pre.length : Int) + 1 := by unfold wrap64; omega
    clear hC hpa hln PI PS X5 h1
    gi_upto_region 8 with fail
    generalize X.setCell ⟨w.heap.size + 1 + 1 + 1 + 1, 0, none⟩ (.int .i64 ((pre.length : Int) + 1)) = X1 at C1 K1 U1 ⊢
    clear a4 g4 wr1
    have PASS : Hid (passL x.1 = true → KeepsOthers X X1 ∧ LinK (w.heap.size + 5) X X1 ∧ PaI s.data.toList w (pre ++ [x]) X1) := Lib.hid (fun hp => ⟨K1.out, linK_of HC.out C1.out U1.out, l, v, fun rest h => by
      rw [List.map_append, List.append_assoc] at h
      rw [HPA.out _ h, List.length_append]
      exact paAll_pass hp rest pre.length _, HLN.out, by rw [List.length_append]; exact C1.out⟩)
    obtain ⟨xl, hxl⟩ := x
    dsimp only at PASS HX ⊢
    rcases hxc : xl with _ | ⟨c, r⟩
    · have he0 : ((⟨#[]⟩ : ByteArray).toList == ([] : List UInt8)) = true := by rw [ByteArray.toList_eq]; rfl
      subst hxc
      have PQ := Lib.hid (PASS.out rfl)
      gi_wp2_with fail
      exact PQ.out
    have hix := idx_hd c r (c.toNat : Int) rfl
    have he1 : ((⟨(c :: r).toArray⟩ : ByteArray).toList == ([] : List UInt8)) = false := by
      rw [ByteArray.toList_eq, beq_eq_false_iff_ne]
      exact fun e => by cases e
    by_cases hc : c = 35
    · have h35 : ((c.toNat : Int) == 35) = true := by rw [hc]; rfl
      subst hxc
      have PQ := Lib.hid (PASS.out (by rw [hc]; rfl))
      clear hc PASS
      generalize (⟨(c :: r).toArray⟩ : ByteArray) = bx at hix he1 ⊢
      gi_wp2_with fail
      exact PQ.out
    have h35 : ((c.toNat : Int) == 35) = false := by
      rw [beq_eq_false_iff_ne]
      exact fun e => hc (UInt8.toNat_inj.1 (by have : (35 : UInt8).toNat = 35 := rfl; omega))
    have NP : Hid (¬ passL xl = true) := Lib.hid (by rw [hxc]; unfold passL; simp [hc])
    have PX := Lib.hid (oparse_any ⟨(c :: r).toArray⟩ X1 (HE.out.keep C1.out.bw) (by rw [Lib.size_mk]; have := HX.out; rw [hxc] at this; omega))
    have HBX : Hid ((⟨(c :: r).toArray⟩ : ByteArray).data.toList = xl) := Lib.hid (by rw [hxc])
    generalize (⟨(c :: r).toArray⟩ : ByteArray) = bx at hix he1 PX HBX ⊢
    obtain ⟨A, cc, rfl, hcc⟩ := own_slice2 C1.out.ow
    have a3 : X1.cell? ⟨w.heap.size + 1 + 1 + 1, 0, none⟩ = some (.slice A l.length cc) := C1.out.bo.cell
    clear hc PASS hcc hxc
    by_cases h2k : l.length = 2000
    · have e2k : ((l.length : Int) == 2000) = true := by rw [h2k]; rfl
      have EX := Lib.hid ((C1.out.keep (Below.refl _ X1).drew).out (E := paE s.data.toList (pre ++ [⟨xl, hxl⟩])) (m := pre.length + 1) (er := 12) (fun rest h => by
        rw [List.map_append, List.append_assoc] at h
        rw [HPA.out _ h]
        exact paAll_many NP.out rest pre.length _ (by rw [List.length_map]; exact h2k)))
      have KX := Lib.hid ((((K1.out.trans (KeepsOthers.drew X1)).trans (KeepsOthers.setCell _ ⟨w.heap.size, 0, none⟩ (.slice none 0 0))).trans (KeepsOthers.setCell _ ⟨w.heap.size + 1, 0, none⟩ (.int .i64 ((pre.length : Int) + 1)))).trans (KeepsOthers.setCell _ ⟨w.heap.size + 1 + 1, 0, none⟩ (.int .i64 12)))
      clear h2k
      have SA : Hid (X1.cell? ⟨w.heap.size + 1 + 1 + 1 + 1, 0, none⟩ = some (.int .i64 ((pre.length : Int) + 1))) := Lib.hid C1.out.ba.cell
      have SB : Hid ((X1.setCell ⟨w.heap.size, 0, none⟩ (.slice none 0 0)).cell? ⟨w.heap.size + 1 + 1 + 1 + 1, 0, none⟩ = some (.int .i64 ((pre.length : Int) + 1))) := Lib.hid ((World.cell?_setCell_other _ ⟨w.heap.size, 0, none⟩ ⟨w.heap.size + 1 + 1 + 1 + 1, 0, none⟩ _ (by simp)).trans SA.out)
      have SC : Hid (((X1.setCell ⟨w.heap.size, 0, none⟩ (.slice none 0 0)).setCell ⟨w.heap.size + 1, 0, none⟩ (.int .i64 ((pre.length : Int) + 1))).cell? ⟨w.heap.size + 1 + 1 + 1 + 1, 0, none⟩ = some (.int .i64 ((pre.length : Int) + 1))) := Lib.hid ((World.cell?_setCell_other _ ⟨w.heap.size + 1, 0, none⟩ ⟨w.heap.size + 1 + 1 + 1 + 1, 0, none⟩ _ (by simp)).trans SB.out)
      have SD : Hid ((((X1.setCell ⟨w.heap.size, 0, none⟩ (.slice none 0 0)).setCell ⟨w.heap.size + 1, 0, none⟩ (.int .i64 ((pre.length : Int) + 1))).setCell ⟨w.heap.size + 1 + 1, 0, none⟩ (.int .i64 12)).cell? ⟨w.heap.size + 1 + 1 + 1 + 1, 0, none⟩ = some (.int .i64 ((pre.length : Int) + 1))) := Lib.hid ((World.cell?_setCell_other _ ⟨w.heap.size + 1 + 1, 0, none⟩ ⟨w.heap.size + 1 + 1 + 1 + 1, 0, none⟩ _ (by simp)).trans SC.out)
      have c0 : X1.cell? ⟨w.heap.size, 0, none⟩ = some (.slice none 0 0) := C1.out.b0.cell
      have c1 : X1.cell? ⟨w.heap.size + 1, 0, none⟩ = some (.int .i64 0) := C1.out.b1.cell
      have c2 : X1.cell? ⟨w.heap.size + 1 + 1, 0, none⟩ = some (.int .i64 0) := C1.out.b2.cell
      have f0 : X1.frozen? ⟨w.heap.size, 0, none⟩ = false := C1.out.b0.frozen
      have f1 : X1.frozen? ⟨w.heap.size + 1, 0, none⟩ = false := C1.out.b1.frozen
      have f2 : X1.frozen? ⟨w.heap.size + 1 + 1, 0, none⟩ = false := C1.out.b2.frozen
      gi_wp2_with fail
      refine region_held_in L _ mixed (by kernel_rfl) (by rintro ⟨a, w, h⟩; exact h.elim) (S := fun wx => wx.cell? ⟨w.heap.size + 1 + 1 + 1 + 1, 0, none⟩ = some (.int .i64 ((pre.length : Int) + 1))) SA.out (fun hHeld => ?_)
      refine wpAnyH_take (i := 0) (v := ?_) rfl (by kernel_rfl) (by kernel_rfl) (by kernel_rfl) (fun _ _ _ h => h) (Or.inl ⟨by rfl, ?_⟩) (by assumption) ?_
      rotate_left
      · intro w hSw
        go_simp
        try with_reducible rfl
      simp only [Act.put, List.getElem_toArray, List.getElem_cons_zero, List.setIfInBounds_toArray, List.set_cons_zero, List.set_cons_succ]
      refine wpAnyH_ready (rs := [1]) (by kernel_rfl) (by simp) ?_
      refine AllReadyH.cons rfl (fun K hK => ?_) AllReadyH.nil
      go_simp
      refine hK.out _ _ ?_ (fun hHeld' => ?_)
      · exact SB.out
      clear hK K hHeld
      have hHeld := hHeld'
      clear hHeld'
      try simp only [Act.put, List.getElem_toArray, List.getElem_cons_succ, List.getElem_cons_zero, List.setIfInBounds_toArray, List.set_cons_zero, List.set_cons_succ]
      refine wpAnyH_ready (rs := [2]) (by kernel_rfl) (by simp) ?_
      refine AllReadyH.cons rfl (fun K hK => ?_) AllReadyH.nil
      go_simp
      refine hK.out _ _ ?_ (fun hHeld' => ?_)
      · exact SC.out
      clear hK K hHeld
      have hHeld := hHeld'
      clear hHeld'
      try simp only [Act.put, List.getElem_toArray, List.getElem_cons_succ, List.getElem_cons_zero, List.setIfInBounds_toArray, List.set_cons_zero, List.set_cons_succ]
      refine wpAnyH_ready (rs := [3]) (by kernel_rfl) (by simp) ?_
      refine AllReadyH.cons rfl (fun K hK => ?_) AllReadyH.nil
      go_simp
      refine hK.out _ _ ?_ (fun hHeld' => ?_)
      · exact SD.out
      clear hK K hHeld
      have hHeld := hHeld'
      clear hHeld'
      try simp only [Act.put, List.getElem_toArray, List.getElem_cons_succ, List.getElem_cons_zero, List.setIfInBounds_toArray, List.set_cons_zero, List.set_cons_succ]
      refine wpAnyH_done (by kernel_rfl) ?_ _
      gi_wp2
      exact ⟨KX.out, rfl, EX.out⟩
    have e2k : ((l.length : Int) == 2000) = false := by rw [beq_eq_false_iff_ne]; omega
    have HN2 := Lib.hid h2k
    clear h2k
    gi_upto_region 12 with (first
      | (refine ⟨trivial, ?_⟩; gi_at_call 28; refine (CallsIn.inRound L (callsIn_wide.2 PX.out)).mono ?_; rintro e X2 ⟨o, er, S, n, m, rfl, hpr, hi, hb, hf⟩; have HPR := Lib.hid hpr; have HI := Lib.hid hi; have HBl := Lib.hid hb; have HF := Lib.hid hf; clear hpr hi hb hf PX)
      | (refine listIn_of rfl (by intro c hc; cases hc) (fun K hK => wp_store_row 34 (.tmp 8) (.tmp 32) rfl _ (oA o S n m) rfl rfl 34 _ (heap_alloc_new _ _) (info10 _ _ _ _) rfl (all10 _ _ _ _) (hK _ _ ?_)); rw [World.setRow_alloc_new]))
    have BA : Hid (Below X1.heap.size X1 (X2.alloc (.cells (oA o S n m) 34))) := Lib.hid (HBl.out.alloc HBl.out.size _)
    have RW : Hid (Whole (X2.alloc (.cells (oA o S n m) 34)) X2.heap.size 34 (oA o S n m)) := Lib.hid (Whole.new X2 _ _)
    have OI : Hid (OpIn (X2.alloc (.cells (oA o S n m) 34)) o S n m) := Lib.hid (HI.out.keep ((Below.refl _ _).alloc (Nat.le_refl _) _))
    have NE : Hid (∀ a : Addr, S = some a → o.d.s ≠ [] → some a.block ≠ (Value.slice A l.length cc).ownBlock) := Lib.hid (fun a ha _ e => by
      have h8 := (C1.out.ow.lt _ e.symm).2
      have h9 := HF.out a ha
      omega)
    have C3 := Lib.hid (C1.out.keep BA.out)
    have K3 := Lib.hid (K1.out.trans (KeepsOthers.of_grownBy (gbelow BA.out) (fun j o e => by cases e)))
    have U3 : Hid (∀ u, Boxed X (w.heap.size + 5) 9 u → Boxed (X2.alloc (.cells (oA o S n m) 34)) (w.heap.size + 5) 9 u) := Lib.hid (fun u hu => (U1.out u hu).kept (gbelow BA.out) (by simp))
    have PVO : Hid (parOV xl = (o, er)) := Lib.hid (by rw [← HBX.out]; exact parOV_of HPR.out)
    generalize X2.alloc (.cells (oA o S n m) 34) = X3 at BA RW OI C3 K3 U3 ⊢
    generalize X2.heap.size = R at RW ⊢
    clear HI HBl HF BA C1 K1 U1 a3 hix he1
    by_cases her : er = 0
    · have ok : opOk o := by
        rcases HPR.out with ⟨_, h, _⟩ | ⟨h, _⟩
        · exact h
        · rw [her] at h; exact absurd h (by decide)
      have e0 : (er != 0) = false := by rw [her]; rfl
      obtain ⟨v', w', hrun, hc3, hf3, hC', hK', hU'⟩ := C3.out.add ⟨o, S, n, m⟩ OI.out NE.out (by have := HLN.out; omega)
      obtain ⟨g9, cap9, rfl, _, _⟩ := hC'.ow.form (by rw [List.length_append]; show 0 < l.length + 1; omega)
      have FIN := Lib.hid (show KeepsOthers X (w'.setCell ⟨w.heap.size + 3, 0, none⟩ (.slice (some ⟨g9, 0, none⟩) (l ++ [(⟨o, S, n, m⟩ : Oq)]).length cap9)) ∧ LinK (w.heap.size + 5) X (w'.setCell ⟨w.heap.size + 3, 0, none⟩ (.slice (some ⟨g9, 0, none⟩) (l ++ [(⟨o, S, n, m⟩ : Oq)]).length cap9)) ∧ PaI s.data.toList w (pre ++ [⟨xl, hxl⟩]) (w'.setCell ⟨w.heap.size + 3, 0, none⟩ (.slice (some ⟨g9, 0, none⟩) (l ++ [(⟨o, S, n, m⟩ : Oq)]).length cap9)) from ⟨K3.out.trans hK', linK_of HC.out hC' (fun u hu => hU' u (U3.out u hu)), l ++ [⟨o, S, n, m⟩], _, fun rest h => by
        rw [List.map_append, List.append_assoc] at h
        rw [HPA.out _ h, List.length_append, List.map_append]
        have := paAll_op NP.out rest pre.length (l.map (·.o)) (by rw [List.length_map]; exact HN2.out) (by rw [PVO.out]; exact her)
        rw [PVO.out] at this
        exact this, by rw [List.length_append]; have := HLN.out; have := HN2.out; show l.length + 1 ≤ 2000; omega, by rw [List.length_append]; exact hC'⟩)
      have HR : Hid ((Builtin.append_ #[24, 24] 24 #[.slice A l.length cc, .slice (some ⟨X3.heap.size, 0, none⟩) 1 1]).run Tryz.prog (X3.alloc (.cells (oA o S n m) 34)) = .ok (.slice (some ⟨g9, 0, none⟩) (l ++ [(⟨o, S, n, m⟩ : Oq)]).length cap9) w') := Lib.hid hrun
      have d3 : w'.cell? ⟨w.heap.size + 1 + 1 + 1, 0, none⟩ = some (.slice A l.length cc) := hc3
      have g3 : w'.frozen? ⟨w.heap.size + 1 + 1 + 1, 0, none⟩ = false := hf3
      have a3 : X3.cell? ⟨w.heap.size + 1 + 1 + 1, 0, none⟩ = some (.slice A l.length cc) := C3.out.bo.cell
      clear hrun hc3 hf3 hC' hK' hU' her
      generalize (l ++ [(⟨o, S, n, m⟩ : Oq)]).length = N at FIN HR
      have hsz10 : (oA o S n m).size = 10 := rfl
      have hfold : Array.foldl (fun (cs : Array Value) (x : Value × Nat) => cs.setIfInBounds x.snd x.fst) #[.int .i64 0, .int .i64 0, .int .i64 0, .string ⟨#[]⟩, .string ⟨#[]⟩, .string ⟨#[]⟩, .string ⟨#[]⟩, .int .i64 0, .int .i64 0, .slice none 0 0] (oA o S n m).zipIdx 0 10 = oA o S n m := by kernel_rfl
      gi_wp2_with (first
        | (refine listIn_of rfl (by intro c hc; cases hc) (fun K hK => wp_load_row 34 (.tmp 8) rfl R rfl 34 (oA o S n m) (0, 0) _ RW.out Tryz.underlying34 rfl (info10 _ _ _ _) (hK _ _ ?_)))
        | (gi_at_builtin; refine wpListIn_append_run rfl (.tmp 38) (.tmp 40) 24 rfl rfl rfl HR.out ?_))
      exact FIN.out
    · have he : er = 10 := by
        rcases HPR.out with ⟨h, _⟩ | ⟨h, _⟩
        · exact absurd h her
        · exact h
      subst he
      have EX := Lib.hid ((C3.out.keep (Below.refl _ X3).drew).out (E := paE s.data.toList (pre ++ [⟨xl, hxl⟩])) (m := pre.length + 1) (er := 10) (fun rest h => by
        rw [List.map_append, List.append_assoc] at h
        rw [HPA.out _ h]
        exact paAll_bad NP.out rest pre.length _ (by rw [List.length_map]; exact HN2.out) (by rw [PVO.out]; exact her)))
      have KX := Lib.hid ((((K3.out.trans (KeepsOthers.drew X3)).trans (KeepsOthers.setCell _ ⟨w.heap.size, 0, none⟩ (.slice none 0 0))).trans (KeepsOthers.setCell _ ⟨w.heap.size + 1, 0, none⟩ (.int .i64 ((pre.length : Int) + 1)))).trans (KeepsOthers.setCell _ ⟨w.heap.size + 1 + 1, 0, none⟩ (.int .i64 10)))
      clear her
      have SA : Hid (X3.cell? ⟨w.heap.size + 1 + 1 + 1 + 1, 0, none⟩ = some (.int .i64 ((pre.length : Int) + 1))) := Lib.hid C3.out.ba.cell
      have SB : Hid ((X3.setCell ⟨w.heap.size, 0, none⟩ (.slice none 0 0)).cell? ⟨w.heap.size + 1 + 1 + 1 + 1, 0, none⟩ = some (.int .i64 ((pre.length : Int) + 1))) := Lib.hid ((World.cell?_setCell_other _ ⟨w.heap.size, 0, none⟩ ⟨w.heap.size + 1 + 1 + 1 + 1, 0, none⟩ _ (by simp)).trans SA.out)
      have SC : Hid (((X3.setCell ⟨w.heap.size, 0, none⟩ (.slice none 0 0)).setCell ⟨w.heap.size + 1, 0, none⟩ (.int .i64 ((pre.length : Int) + 1))).cell? ⟨w.heap.size + 1 + 1 + 1 + 1, 0, none⟩ = some (.int .i64 ((pre.length : Int) + 1))) := Lib.hid ((World.cell?_setCell_other _ ⟨w.heap.size + 1, 0, none⟩ ⟨w.heap.size + 1 + 1 + 1 + 1, 0, none⟩ _ (by simp)).trans SB.out)
      have SD : Hid ((((X3.setCell ⟨w.heap.size, 0, none⟩ (.slice none 0 0)).setCell ⟨w.heap.size + 1, 0, none⟩ (.int .i64 ((pre.length : Int) + 1))).setCell ⟨w.heap.size + 1 + 1, 0, none⟩ (.int .i64 10)).cell? ⟨w.heap.size + 1 + 1 + 1 + 1, 0, none⟩ = some (.int .i64 ((pre.length : Int) + 1))) := Lib.hid ((World.cell?_setCell_other _ ⟨w.heap.size + 1 + 1, 0, none⟩ ⟨w.heap.size + 1 + 1 + 1 + 1, 0, none⟩ _ (by simp)).trans SC.out)
      have c0 : X3.cell? ⟨w.heap.size, 0, none⟩ = some (.slice none 0 0) := C3.out.b0.cell
      have c1 : X3.cell? ⟨w.heap.size + 1, 0, none⟩ = some (.int .i64 0) := C3.out.b1.cell
      have c2 : X3.cell? ⟨w.heap.size + 1 + 1, 0, none⟩ = some (.int .i64 0) := C3.out.b2.cell
      have f0 : X3.frozen? ⟨w.heap.size, 0, none⟩ = false := C3.out.b0.frozen
      have f1 : X3.frozen? ⟨w.heap.size + 1, 0, none⟩ = false := C3.out.b1.frozen
      have f2 : X3.frozen? ⟨w.heap.size + 1 + 1, 0, none⟩ = false := C3.out.b2.frozen
      gi_wp2_with fail
      refine region_held_in L _ mixed (by kernel_rfl) (by rintro ⟨a, w, h⟩; exact h.elim) (S := fun wx => wx.cell? ⟨w.heap.size + 1 + 1 + 1 + 1, 0, none⟩ = some (.int .i64 ((pre.length : Int) + 1))) SA.out (fun hHeld => ?_)
      refine wpAnyH_take (i := 0) (v := ?_) rfl (by kernel_rfl) (by kernel_rfl) (by kernel_rfl) (fun _ _ _ h => h) (Or.inl ⟨by rfl, ?_⟩) (by assumption) ?_
      rotate_left
      · intro w hSw
        go_simp
        try with_reducible rfl
      simp only [Act.put, List.getElem_toArray, List.getElem_cons_zero, List.setIfInBounds_toArray, List.set_cons_zero, List.set_cons_succ]
      refine wpAnyH_take (i := 1) (v := ?_) rfl (by kernel_rfl) (by kernel_rfl) (by kernel_rfl) (fun _ _ _ h => h) (Or.inl ⟨by rfl, ?_⟩) (by assumption) ?_
      rotate_left
      · intro w hSw
        go_simp
        try with_reducible rfl
      simp only [Act.put, List.getElem_toArray, List.getElem_cons_succ, List.getElem_cons_zero, List.setIfInBounds_toArray, List.set_cons_zero, List.set_cons_succ]
      refine wpAnyH_ready (rs := [2]) (by kernel_rfl) (by simp) ?_
      refine AllReadyH.cons rfl (fun K hK => ?_) AllReadyH.nil
      go_simp
      refine hK.out _ _ ?_ (fun hHeld' => ?_)
      · exact SB.out
      clear hK K hHeld
      have hHeld := hHeld'
      clear hHeld'
      try simp only [Act.put, List.getElem_toArray, List.getElem_cons_succ, List.getElem_cons_zero, List.setIfInBounds_toArray, List.set_cons_zero, List.set_cons_succ]
      refine wpAnyH_ready (rs := [3]) (by kernel_rfl) (by simp) ?_
      refine AllReadyH.cons rfl (fun K hK => ?_) AllReadyH.nil
      go_simp
      refine hK.out _ _ ?_ (fun hHeld' => ?_)
      · exact SC.out
      clear hK K hHeld
      have hHeld := hHeld'
      clear hHeld'
      try simp only [Act.put, List.getElem_toArray, List.getElem_cons_succ, List.getElem_cons_zero, List.setIfInBounds_toArray, List.set_cons_zero, List.set_cons_succ]
      refine wpAnyH_ready (rs := [4]) (by kernel_rfl) (by simp) ?_
      refine AllReadyH.cons rfl (fun K hK => ?_) AllReadyH.nil
      go_simp
      refine hK.out _ _ ?_ (fun hHeld' => ?_)
      · exact SD.out
      clear hK K hHeld
      have hHeld := hHeld'
      clear hHeld'
      try simp only [Act.put, List.getElem_toArray, List.getElem_cons_succ, List.getElem_cons_zero, List.setIfInBounds_toArray, List.set_cons_zero, List.set_cons_succ]
      refine wpAnyH_done (by kernel_rfl) ?_ _
      gi_wp2
      exact ⟨KX.out, rfl, EX.out⟩
  case done =>
    rintro D xs W hD hxs ⟨l, v, hpa, hln, hC⟩ hD2
    obtain ⟨A, cc, rfl, hcc⟩ := own_slice2 hC.ow
    obtain ⟨f0, f1, f2, f3, f4, f5⟩ := hC.fin D (by omega) hD2 none
    have HF := Lib.hid (And.intro f0 (And.intro f1 (And.intro f2 (And.intro f3 (And.intro f4 f5)))))
    have HTT : Hid (paTop s.data.toList = (l.map (·.o), 0, 0)) := Lib.hid (by rw [HT.out, hpa [] (by rw [List.append_nil]; exact hxs.symm)]; rfl)
    have HCC := Lib.hid hcc
    have c0 : W.cell? ⟨w.heap.size, 0, none⟩ = some (.slice none 0 0) := hC.b0.cell
    have c1 : W.cell? ⟨w.heap.size + 1, 0, none⟩ = some (.int .i64 0) := hC.b1.cell
    have c2 : W.cell? ⟨w.heap.size + 1 + 1, 0, none⟩ = some (.int .i64 0) := hC.b2.cell
    have c3 : W.cell? ⟨w.heap.size + 1 + 1 + 1, 0, none⟩ = some (.slice A l.length cc) := hC.bo.cell
    have g0 : W.frozen? ⟨w.heap.size, 0, none⟩ = false := hC.b0.frozen
    have g1 : W.frozen? ⟨w.heap.size + 1, 0, none⟩ = false := hC.b1.frozen
    have g2 : W.frozen? ⟨w.heap.size + 1 + 1, 0, none⟩ = false := hC.b2.frozen
    clear f0 f1 f2 f3 f4 f5 hC hpa hxs hcc hD2
    gi_wp2_with fail
    refine ⟨by simp, .inl ⟨_, _, rfl, run_takeDeferred HF.out.1, ?_⟩⟩
    exact ⟨_, results_cells3 rfl _ _ ⟨w.heap.size, 0, none⟩ ⟨w.heap.size + 1, 0, none⟩ ⟨w.heap.size + 1 + 1, 0, none⟩ rfl rfl rfl (load_sl HF.out.2.1.cell) (load_i HF.out.2.2.1.cell) (load_e HF.out.2.2.2.1.cell), l, A, cc, 0, 0, rfl, HTT.out, HF.out.2.2.2.2.1, HCC.out, HF.out.2.2.2.2.2⟩
  case stop =>
    rintro D c pre W hD ⟨rest, hrest⟩ ⟨rfl, hX⟩ hD2
    have hY := hX.nc (grownBy_putObj' W D (.deferred none)) (fun r e => by cases e; exact ⟨by omega, _, hD2, rfl⟩)
    obtain ⟨m, er, h1, h2, h3⟩ := hY.ex
    have HTT : Hid (paTop s.data.toList = ([], m, er)) := Lib.hid (by rw [HT.out]; exact h1 rest hrest)
    gi_wp2_with fail
    refine ⟨by simp, .inl ⟨_, _, rfl, run_takeDeferred hD2, ?_⟩⟩
    exact ⟨_, results_cells3 rfl _ _ ⟨w.heap.size, 0, none⟩ ⟨w.heap.size + 1, 0, none⟩ ⟨w.heap.size + 1 + 1, 0, none⟩ rfl rfl rfl (load_sl hY.b0.cell) (load_i h2.cell) (load_e h3.cell), [], none, 0, m, er, rfl, HTT.out, fun i q h => by simp at h, Nat.le_refl _, hY.bw⟩
end Go.Proofs.YtojodekmmkemgaaGreatDoor
