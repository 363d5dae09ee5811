/- CrcThree returns true; memory that lay stays. Conditions: the listed tables; the bytes lie in memory. -/
import Derived.Test.YtdgloipckcjhaaaDoorLawCrc4
import Derived.StillTailTactics
namespace Go.Proofs.YtdgloipckcjhaaaDoor
open Go.RowKit
attribute [local go_sem ↓] Go.wp_at_zero Go.wp_at_succ

/-- An append whose run is known, at a step of a region that draws. -/
theorem step_append_run {P : Program} {ops : Array Oper} {o : Oper} {a : Act} {w : World} {K : Act → World → Prop} {Q : Exit → Act → World → Prop} {E : Prop} (hgd : o.guard = none) (s x : Operand) (t : TypeId)
    (ho : o.op = .call { callee := .builtin .append, args := #[s, x], argTypes := #[t, t] }) {v xv v' : Value} {w' : World} (hs : a.eval s = v) (hx : a.eval x = xv) (hrun : (Builtin.append_ #[t, t] o.type #[v, xv]).run P w = .ok v' w')
    (h : K (a.put o.dst v') w') : if Region.wanted o (yielded ops a.tmps) = true then Oper.wp P o a w K Q else E := by
  have hw : Region.wanted o (yielded ops a.tmps) = true := by simp [Region.wanted, hgd]
  rw [if_pos hw]
  unfold Oper.wp execOp
  simp only [ho, resolve, invoke, builtin, Sem.run_bind, Sem.run_pure, Result.andThen_ok, List.map_toArray, List.map_cons, List.map_nil, hs, hx, hrun]
  exact h

/-- The bytes of three texts, combined, so many of them. -/
def xor3 (a b c : List Nat) : List Nat := List.zipWith (· ^^^ ·) (List.zipWith (· ^^^ ·) a b) c
theorem xor3_take {a b c : List Nat} {k : Nat} (ha : k < a.length) (hb : k < b.length) (hc : k < c.length) : xor3 (a.take (k + 1)) (b.take (k + 1)) (c.take (k + 1)) = xor3 (a.take k) (b.take k) (c.take k) ++ [a.getD k 0 ^^^ b.getD k 0 ^^^ c.getD k 0] := by
  unfold xor3
  rw [take_succ_getD ha, take_succ_getD hb, take_succ_getD hc, List.zipWith_append (by simp; omega), List.zipWith_append (by simp; omega)]
  rfl
theorem xor3_length {a b c : List Nat} {k : Nat} (ha : k ≤ a.length) (hb : k ≤ b.length) (hc : k ≤ c.length) : (xor3 (a.take k) (b.take k) (c.take k)).length = k := by
  unfold xor3; simp; omega

theorem bytes_take {w : World} {p : Option Addr} {n c : Nat} {l : List Nat} (h : BytesAt w (.slice p l.length c) l) (hn : n ≤ l.length) : BytesAt w (.slice p n c) (l.take n) := by
  have hl : (l.take n).length = n := by rw [List.length_take]; omega
  refine ⟨?_, fun x hx => h.byte x (List.mem_of_mem_take hx)⟩
  rcases h.form with ⟨cap, e, rfl⟩ | ⟨a, cap, e, h1, h2, h3⟩
  · injection e with e1 e2 e3
    subst e1 e3
    have : n = 0 := by simpa using hn
    subst this
    exact .inl ⟨c, rfl, rfl⟩
  · injection e with e1 e2 e3
    subst e1 e3
    refine .inr ⟨a, c, by rw [hl], by omega, h2, fun i hi => ?_⟩
    rw [hl] at hi
    rw [h3 i (by omega), List.getD_eq_getElem?_getD, List.getD_eq_getElem?_getD, List.getElem?_take, if_pos hi]
set_option maxRecDepth 100000 in
theorem slice_cut (p : Option Addr) (n l c : Nat) (hn : n ≤ c) (w : World) : (Instr.slice 33 (.slice p l c) none (some (.int .i64 (n : Int))) none).run Tryd.prog w = .ok (.slice p n c) w := by
  have hs : (sizeOf (Tryd.prog.elem 33)).run Tryd.prog w = .ok 1 w := by kernel_rfl
  have hu : Tryd.prog.underlying 33 = some (.slice (Tryd.prog.elem 33)) := by kernel_rfl
  rw [run_slice_h w 33 p l c hu .i64 (n : Int) (by omega) (by omega), hs]
  show Result.ok (sliced p 0 n c 1) w = _
  unfold sliced
  congr 2
  rcases p with _ | a
  · simp
  · simp [Addr.add]

theorem min3_run (x y z n : Int) (h : min (min x y) z = n) (w : World) : (Builtin.min_ #[3, 3, 3] 3 #[.int .i64 x, .int .i64 y, .int .i64 z]).run Tryd.prog w = .ok (.int .i64 n) w := by
  simp [Builtin.min_, Builtin.min2]
  split <;> split <;> omega
/-- The cells that the loads of a round read. -/
def C3 (aa ab ac : Addr) (k : Nat) (xa xb xc : Nat) (w' : World) : Prop := w'.cell? (aa.add k) = some (.int .u8 (xa : Int)) ∧ w'.cell? (ab.add k) = some (.int .u8 (xb : Int)) ∧ w'.cell? (ac.add k) = some (.int .u8 (xc : Int))
theorem C3.keep {aa ab ac : Addr} {k xa xb xc : Nat} {w w' : World} (h : C3 aa ab ac k xa xb xc w) (hb : Below w.heap.size w w') : C3 aa ab ac k xa xb xc w' :=
  ⟨(hb.cell (block_lt_of_cell h.1)).trans h.1, (hb.cell (block_lt_of_cell h.2.1)).trans h.2.1, (hb.cell (block_lt_of_cell h.2.2)).trans h.2.2⟩
theorem BytesAt.at_ {w : World} {p : Option Addr} {c : Nat} {l : List Nat} (h : BytesAt w (.slice p l.length c) l) {k : Nat} (hk : k < l.length) : ∃ a, p = some a ∧ l.length ≤ c ∧ c ≤ 9223372036854775807 ∧ w.cell? (a.add k) = some (.int .u8 (l.getD k 0 : Nat)) ∧ l.getD k 0 < 256 := by
  rcases h.form with ⟨cap, e, rfl⟩ | ⟨a, cap, e, h1, h2, h3⟩
  · simp at hk
  · injection e with e1 e2 e3
    subst e1 e3
    exact ⟨a, rfl, h1, h2, h3 k hk, getD_lt h.byte k⟩

theorem BytesAt.cap {w : World} {p : Option Addr} {c k : Nat} {l : List Nat} (h : BytesAt w (.slice p l.length c) l) (hk : k ≤ l.length) : k ≤ c := by
  rcases h.form with ⟨cap, e, h0⟩ | ⟨a, cap, e, h1, _, _⟩
  · rw [h0] at hk
    have : k = 0 := by simpa using hk
    omega
  · injection e with _ _ e3
    omega

set_option maxRecDepth 100000 in
set_option maxHeartbeats 4000000 in
theorem three_walk (va : Value) (a : List Nat) (vb : Value) (b : List Nat) (vc : Value) (c : List Nat) (w : World) (ha : BytesAt w va a) (hb : BytesAt w vb b) (hc : BytesAt w vc c) (hT : Tabs w) :
    Calls Tryd.prog 6 #[va, vb, vc] w fun e w' => e = .returned (.bool true) ∧ Below w.heap.size w w' := by
  obtain ⟨pa, ca, rfl⟩ := ha.slice
  obtain ⟨pb, cb, rfl⟩ := hb.slice
  obtain ⟨pc, cc, rfl⟩ := hc.slice
  obtain ⟨n, hn, hna, hnb, hnc⟩ : ∃ n : Nat, min (min (a.length : Int) (b.length : Int)) (c.length : Int) = n ∧ n ≤ a.length ∧ n ≤ b.length ∧ n ≤ c.length := ⟨min (min a.length b.length) c.length, by omega, by omega, by omega, by omega⟩
  have hmin := min3_run _ _ _ _ hn
  have HT := Lib.hid hT
  have HA := Lib.hid ha
  have HB := Lib.hid hb
  have HC := Lib.hid hc
  clear hT ha hb hc hn
  by_cases h2000 : n ≤ 2000
  · have hz : (n : Int) ≤ 2000 := by omega
    have hdf : decide (2000 < (n : Int)) = false := by simp; omega
    go_enter Tryd.func6, Tryd.ntmps6
    go_wp2_with fail
    clear hmin
    go_loopw [8, 9] (fun v i wr => ∃ k : Nat, k ≤ n ∧ i = .int .i64 k ∧ Below w.heap.size w wr ∧ wr.ownsRow w.heap.size 5 1 v k (encB (xor3 (a.take k) (b.take k) (c.take k)))) (fun _ i _ => n - (intOf i).toNat)
    case atStart => exact ⟨0, Nat.zero_le _, rfl, Below.refl _ _, by simpa [encB, xor3] using World.ownsRow_nil w w.heap.size 5 1⟩
    case round =>
      obtain ⟨k, hk, rfl, hbel, hown⟩ := hrel
      by_cases hlt : k < n
      · obtain ⟨aa, rfl, la1, la2, cela, ba⟩ := HA.out.at_ (k := k) (by omega)
        obtain ⟨ab, rfl, lb1, lb2, celb, bb⟩ := HB.out.at_ (k := k) (by omega)
        obtain ⟨ac, rfl, lc1, lc2, celc, bc⟩ := HC.out.at_ (k := k) (by omega)
        have hS0 : C3 aa ab ac k (a.getD k 0) (b.getD k 0) (c.getD k 0) w := ⟨cela, celb, celc⟩
        have htk := xor3_take (a := a) (b := b) (c := c) (k := k) (by omega) (by omega) (by omega)
        generalize a.getD k 0 = xa at *
        generalize b.getD k 0 = xb at *
        generalize c.getD k 0 = xc at *
        obtain ⟨y, hy⟩ : ∃ y, y = xa ^^^ xb := ⟨_, rfl⟩
        have ly : y < 256 := by rw [hy]; exact Nat.xor_lt_two_pow (n := 8) ba bb
        have e1 : bits .xor .u8 (xa : Int) (xb : Int) = (y : Int) := by rw [hy]; exact u8_xor_nat xa xb ba bb
        rw [← hy] at htk
        obtain ⟨x, hx⟩ : ∃ x, x = y ^^^ xc := ⟨_, rfl⟩
        have lx : x < 256 := by rw [hx]; exact Nat.xor_lt_two_pow (n := 8) ly bc
        have e2 : bits .xor .u8 (y : Int) (xc : Int) = (x : Int) := by rw [hx]; exact u8_xor_nat y xc ly bc
        rw [← hx] at htk
        have hbA : Below w.heap.size w (wr.alloc (.cells #[.int .u8 (x : Int)] 5)).drew := (hbel.alloc hbel.size _).drew
        have hownA : ((wr.alloc (.cells #[.int .u8 (x : Int)] 5)).drew).ownsRow w.heap.size 5 1 u8 k (encB (xor3 (a.take k) (b.take k) (c.take k))) := hown.alloc _
        have hnew : BytesAt (wr.alloc (.cells #[.int .u8 (x : Int)] 5)).drew (.slice (some ⟨wr.heap.size, 0, none⟩) 1 1) [x] := (bytes_new wr [x] (0, 0) (by simpa using lx) (by simp)).keep (Below.refl _ _).drew
        obtain ⟨v', w', hrun, hown', hgr⟩ := run_append_bytes _ _ _ _ _ hownA _ _ hnew (by simp; omega) hbA.size
        have hbw' : Below w.heap.size w w' := hbA.grown hgr hbA.size (fun g hg => (hownA.lt g hg).1)
        have R := Lib.hid hrun
        have O' := Lib.hid hown'
        have TK := Lib.hid htk
        have S0 := Lib.hid (hS0.keep (hbel.drew))
        have S1 := Lib.hid (hS0.keep hbA)
        have S2 := Lib.hid (hS0.keep hbw')
        have B' := Lib.hid hbw'
        clear hrun hown' htk hS0 hbA hownA hnew hgr hbw' hy hx cela celb celc hown hbel
        have ik0 : (0 : Int) ≤ (k : Int) := by omega
        have ika : (k : Int) < (a.length : Int) := by omega
        have ikb : (k : Int) < (b.length : Int) := by omega
        have ikc : (k : Int) < (c.length : Int) := by omega
        go_wp2_with fail
        go_region_held3 (fun w' => w'.cell? (aa.add k) = some (.int .u8 (xa : Int)) ∧ w'.cell? (ab.add k) = some (.int .u8 (xb : Int)) ∧ w'.cell? (ac.add k) = some (.int .u8 (xc : Int)))
          (first | exact S0.out | exact S1.out | exact S2.out | assumption)
          (first | (refine step_append_run (by rfl) (.tmp 25) (.tmp 40) 33 (by rfl) (by rfl) (by rfl) R.out ?_))
        go_wp2
        go_roundw
        case rel => exact ⟨k + 1, by omega, by go_num, B'.out, by rw [TK.out]; simpa [encB] using O'.out⟩
        case measure => simp [intOf]; omega
      · obtain rfl : k = n := by omega
        have hlen := xor3_length hna hnb hnc
        have hsum := Crc.three (a.take k) (b.take k) (c.take k) (by simp; omega) (by simp; omega)
        have hall : BytesAt wr u8 (xor3 (a.take k) (b.take k) (c.take k)) := bytes_own hown hlen.symm (fun x hx => by
          unfold xor3 at hx
          obtain ⟨i, hi⟩ := List.getElem?_of_mem hx
          rw [List.getElem?_zipWith, List.getElem?_zipWith] at hi
          cases h1 : (a.take k)[i]? with
          | none => rw [h1] at hi; simp at hi
          | some x1 =>
            cases h2 : (b.take k)[i]? with
            | none => rw [h1, h2] at hi; simp at hi
            | some x2 =>
              cases h3 : (c.take k)[i]? with
              | none => rw [h1, h2, h3] at hi; simp at hi
              | some x3 =>
                rw [h1, h2, h3] at hi
                obtain rfl : x1 ^^^ x2 ^^^ x3 = x := by simpa using hi
                exact Nat.xor_lt_two_pow (n := 8) (Nat.xor_lt_two_pow (n := 8) (HA.out.byte _ (List.mem_of_mem_take (List.mem_of_getElem? h1))) (HB.out.byte _ (List.mem_of_mem_take (List.mem_of_getElem? h2)))) (HC.out.byte _ (List.mem_of_mem_take (List.mem_of_getElem? h3)))) (by omega)
        have hD : Below w.heap.size w wr.drew := hbel.drew
        have TD := HT.out.below hD
        have lA := sum_lt (a.take k) (fun x hx => HA.out.byte x (List.mem_of_mem_take hx))
        have lB := sum_lt (b.take k) (fun x hx => HB.out.byte x (List.mem_of_mem_take hx))
        have lC := sum_lt (c.take k) (fun x hx => HC.out.byte x (List.mem_of_mem_take hx))
        have s1 := sum_any _ _ wr.drew (bytes_take (HA.out.keep hD) hna) TD.crc
        have s2 := sum_any _ _ wr.drew (bytes_take (HB.out.keep hD) hnb) TD.crc
        have s3 := sum_any _ _ wr.drew (bytes_take (HC.out.keep hD) hnc) TD.crc
        have s4 := sum_any _ _ wr.drew (hall.keep (Below.refl _ _).drew) TD.crc
        rw [show List.zipWith (· ^^^ ·) (List.zipWith (· ^^^ ·) (a.take k) (b.take k)) (c.take k) = xor3 (a.take k) (b.take k) (c.take k) from rfl] at hsum
        rw [← hsum] at s4
        generalize Crc.sum (a.take k) = xa at *
        generalize Crc.sum (b.take k) = xb at *
        generalize Crc.sum (c.take k) = xc at *
        obtain ⟨y, hy⟩ : ∃ y, y = xa ^^^ xb := ⟨_, rfl⟩
        have ly : y < 4294967296 := by rw [hy]; exact Nat.xor_lt_two_pow (n := 32) lA lB
        have e1 : bits .xor .u32 (xa : Int) (xb : Int) = (y : Int) := by rw [hy]; exact u32_xor_nat xa xb lA lB
        rw [← hy] at s4
        obtain ⟨x, hx⟩ : ∃ x, x = y ^^^ xc := ⟨_, rfl⟩
        have e2 : bits .xor .u32 (y : Int) (xc : Int) = (x : Int) := by rw [hx]; exact u32_xor_nat y xc ly lC
        rw [← hx] at s4
        have hca : k ≤ ca := HA.out.cap hna
        have hcb : k ≤ cb := HB.out.cap hnb
        have hcc : k ≤ cc := HC.out.cap hnc
        have l1 := slice_cut pa k a.length ca hca
        have l2 := slice_cut pb k b.length cb hcb
        have l3 := slice_cut pc k c.length cc hcc
        have S1 := Lib.hid s1
        have S2 := Lib.hid s2
        have S3 := Lib.hid s3
        have S4 := Lib.hid s4
        have TW := Lib.hid TD
        have BD := Lib.hid hD
        clear s1 s2 s3 s4 TD hD hall hown hbel hsum hlen hy hx lA lB lC ly hca hcb hcc hlt hk
        go_wp2_with fail
        go_region_held3 (fun w' => Below w.heap.size w w')
          (first | exact BD.out | exact BD.out.trans (hb5.mono BD.out.size) | assumption)
          (first
            | (go_at_call 22; ((with_reducible refine S1.out.mono ?_); rintro e w5 ⟨rfl, rfl⟩))
            | (go_at_call 22; ((with_reducible refine S2.out.mono ?_); rintro e w5 ⟨rfl, rfl⟩))
            | (go_at_call 22; ((with_reducible refine S3.out.mono ?_); rintro e w5 ⟨rfl, rfl⟩))
            | (go_at_call 22; ((with_reducible refine S4.out.mono ?_); rintro e w5 ⟨rfl, rfl⟩))
            | (go_at_call 15; refine (works_any _ TW.out).mono ?_; rintro e w5 ⟨rfl, hb5⟩))
        go_wp2
        go_ret
        exact ⟨rfl, BD.out.trans (hb5.mono BD.out.size)⟩
  · have hd : ¬ (n : Int) ≤ 2000 := by omega
    go_enter Tryd.func6, Tryd.ntmps6
    go_wp2_with (go_at_call 15; refine (works_any _ HT.out).mono ?_; rintro e w1 ⟨rfl, hb1⟩)
    go_ret
    exact ⟨rfl, hb1⟩
end Go.Proofs.YtdgloipckcjhaaaDoor
