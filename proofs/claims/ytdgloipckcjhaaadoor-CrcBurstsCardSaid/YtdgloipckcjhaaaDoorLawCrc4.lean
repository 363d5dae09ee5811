/- CrcTables returns true; memory that lay stays. Condition: the listed tables. -/
import Derived.Test.YtdgloipckcjhaaaDoorLawCrc3
import Derived.Deep.RegionHeld3
import Derived.Deep.DrawnRows
namespace Go.Proofs.YtdgloipckcjhaaaDoor
open Go.RowKit
attribute [local go_sem ↓] Go.wp_at_zero Go.wp_at_succ

theorem more_one (s i : Nat) : Crc.more s [i] = 4294967295 ^^^ ((4294967295 ^^^ s) / 256 ^^^ Crc.stepn 8 ((4294967295 ^^^ s) % 256 ^^^ i)) := by
  unfold Crc.more
  show 4294967295 ^^^ Crc.stepn 8 ((4294967295 ^^^ s) ^^^ i) = _
  generalize 4294967295 ^^^ s = r
  congr 1
  have h := Crc.split_xor 8 r
  conv => lhs; rw [h, Nat.xor_assoc, Crc.stepn_xor, Crc.stepn_shift]

/-- What the loads of the last statement read. -/
def TS (w w2 : World) (g n1 i k j : Nat) (xn xi xk xj : Nat) (w' : World) : Prop :=
  w'.cell? ⟨g, n1, none⟩ = some (.int .u32 (xn : Int)) ∧ w'.cell? ⟨g, i, none⟩ = some (.int .u32 (xi : Int)) ∧ w'.cell? ⟨g, k, none⟩ = some (.int .u32 (xk : Int)) ∧ w'.cell? ⟨g, 0, none⟩ = some (.int .u32 0) ∧
  w'.cell? ⟨g, 128, none⟩ = some (.int .u32 3988292384) ∧ w'.cell? ⟨g, j, none⟩ = some (.int .u32 (xj : Int)) ∧ g < w2.heap.size ∧ w.heap.size ≤ w2.heap.size ∧ Tabs w2 ∧ Below w.heap.size w w2 ∧ Below w2.heap.size w2 w'
theorem TS.keep {w w2 : World} {g n1 i k j : Nat} {xn xi xk xj : Nat} {wc wd : World} (h : TS w w2 g n1 i k j xn xi xk xj wc) (hb : Below w2.heap.size wc wd) : TS w w2 g n1 i k j xn xi xk xj wd := by
  obtain ⟨h1, h2, h3, h4, h5, h6, hg, hw, hT, hB, hC⟩ := h
  exact ⟨(hb.cell hg).trans h1, (hb.cell hg).trans h2, (hb.cell hg).trans h3, (hb.cell hg).trans h4, (hb.cell hg).trans h5, (hb.cell hg).trans h6, hg, hw, hT, hB, hC.trans hb⟩

set_option maxRecDepth 100000 in
set_option maxHeartbeats 4000000 in
theorem tables_walk (i k s : Nat) (w : World) (hi : i < 256) (hk : k < 256) (hs : s < 4294967296) (hT : Tabs w) :
    Calls Tryd.prog 9 #[.int .u8 (i : Int), .int .u8 (k : Int), .int .u32 (s : Int)] w fun e w' => e = .returned (.bool true) ∧ Below w.heap.size w w' := by
  -- the numbers, each under a name of its own
  obtain ⟨n1, hn1⟩ : ∃ n, n = i ^^^ k := ⟨_, rfl⟩
  have ln1 : n1 < 256 := by rw [hn1]; exact Nat.xor_lt_two_pow (n := 8) hi hk
  have e1 : bits .xor .u8 (i : Int) (k : Int) = (n1 : Int) := by rw [hn1]; exact u8_xor_nat i k hi hk
  obtain ⟨xi, hxi⟩ : ∃ x, x = Crc.stepn 8 i := ⟨_, rfl⟩
  obtain ⟨xk, hxk⟩ : ∃ x, x = Crc.stepn 8 k := ⟨_, rfl⟩
  obtain ⟨xn, hxn⟩ : ∃ x, x = Crc.stepn 8 n1 := ⟨_, rfl⟩
  have lxi : xi < 4294967296 := by rw [hxi]; exact Crc.stepn_lt 8 (by omega)
  have lxk : xk < 4294967296 := by rw [hxk]; exact Crc.stepn_lt 8 (by omega)
  have e2 : bits .xor .u32 (xi : Int) (xk : Int) = (xn : Int) := by
    rw [u32_xor_nat xi xk lxi lxk, hxi, hxk, ← Crc.stepn_xor, ← hn1, hxn]
  obtain ⟨r, hr⟩ : ∃ r, r = 4294967295 ^^^ s := ⟨_, rfl⟩
  have lr : r < 4294967296 := by rw [hr]; exact max_xor hs
  have e3 : bits .xor .u32 IntKind.u32.max (s : Int) = (r : Int) := by rw [hr]; exact not_eq hs
  obtain ⟨b, hb⟩ : ∃ b, b = r % 256 := ⟨_, rfl⟩
  have lb : b < 256 := by omega
  have e4 : IntKind.u8.wrap (r : Int) = (b : Int) := by rw [IntKind.wrap_u8']; omega
  obtain ⟨j, hj⟩ : ∃ j, j = b ^^^ i := ⟨_, rfl⟩
  have lj : j < 256 := by rw [hj]; exact Nat.xor_lt_two_pow (n := 8) lb hi
  have e5 : bits .xor .u8 (b : Int) (i : Int) = (j : Int) := by rw [hj]; exact u8_xor_nat b i lb hi
  obtain ⟨xj, hxj⟩ : ∃ x, x = Crc.stepn 8 j := ⟨_, rfl⟩
  have lxj : xj < 4294967296 := by rw [hxj]; exact Crc.stepn_lt 8 (by omega)
  obtain ⟨z, hz⟩ : ∃ z, z = r / 256 ^^^ xj := ⟨_, rfl⟩
  have lz : z < 4294967296 := by rw [hz]; exact Nat.xor_lt_two_pow (n := 32) (by omega) lxj
  have e6 : bits .xor .u32 ((r : Int) / 256) (xj : Int) = (z : Int) := by rw [hz]; exact u32_xor_nat (r / 256) xj (by omega) lxj
  obtain ⟨m, hm⟩ : ∃ m, m = 4294967295 ^^^ z := ⟨_, rfl⟩
  have e7 : bits .xor .u32 IntKind.u32.max (z : Int) = (m : Int) := by rw [hm]; exact not_eq lz
  have hmore : Crc.more s [i] = m := by rw [more_one, ← hr, ← hb, ← hj, ← hxj, ← hz, hm]
  have hsg := u32_signed
  have HXI := Lib.hid hxi
  have HXK := Lib.hid hxk
  have HXN := Lib.hid hxn
  have HXJ := Lib.hid hxj
  have HMO := Lib.hid hmore
  have HT := Lib.hid hT
  clear hn1 hxi hxk hxn hr hb hj hxj hz hm hmore hT lxi lxk lxj lz lr
  go_enter Tryd.func9, Tryd.ntmps9
  go_wp2_with fail
  refine (table_any _ HT.out.crc).mono ?_
  rintro e w1 ⟨rfl, hb1⟩
  have T1 := Lib.hid (HT.out.below hb1)
  have B1 := Lib.hid hb1
  clear HT hb1
  go_wp2_with (refine wpList_store_row rfl 30 (.tmp 7) (.tmp 9) rfl w1.heap.size tabA rfl rfl 30 Tryd.zeroCells30 (heap_alloc_new w1 _) (info256 tabA_size) (by rw [zero256, tabA_size]) tabA_all ?_)
  obtain ⟨w2, hw2⟩ : ∃ w2, w2 = (w1.alloc (.cells Tryd.zeroCells30 30)).setRow w1.heap.size tabA := ⟨_, rfl⟩
  rw [← hw2]
  have hb2 : Below w1.heap.size w1 w2 := by rw [hw2]; exact below_setRow ((Below.refl _ _).alloc (Nat.le_refl _) _) (Nat.le_refl _) _
  have hk2 : Blk w2 w1.heap.size 30 tabA := by rw [hw2]; exact setRow_heap _ _ _ _ _ _ (heap_alloc_new w1 _)
  have T2 := Lib.hid (T1.out.below hb2)
  have B2 := Lib.hid (B1.out.trans (hb2.mono B1.out.size))
  generalize w1.heap.size = g at *
  have K2 := Lib.hid hk2
  clear hb2 hk2 hw2 T1 B1 
  have c1 : w2.cell? ⟨g, n1, none⟩ = some (.int .u32 (xn : Int)) := by rw [K2.out.cell, tabA_at ln1, HXN.out]
  have c2 : w2.cell? ⟨g, i, none⟩ = some (.int .u32 (xi : Int)) := by rw [K2.out.cell, tabA_at hi, HXI.out]
  have c3 : w2.cell? ⟨g, k, none⟩ = some (.int .u32 (xk : Int)) := by rw [K2.out.cell, tabA_at hk, HXK.out]
  have c4 : w2.cell? ⟨g, 0, none⟩ = some (.int .u32 0) := by rw [K2.out.cell, tabA_at (by decide)]; rfl
  have c5 : w2.cell? ⟨g, 128, none⟩ = some (.int .u32 3988292384) := by rw [K2.out.cell, tabA_at (by decide), show Crc.stepn 8 128 = 3988292384 by decide +kernel]; rfl
  have c6 : w2.cell? ⟨g, j, none⟩ = some (.int .u32 (xj : Int)) := by rw [K2.out.cell, tabA_at lj, HXJ.out]
  have ii0 : (0 : Int) ≤ (i : Int) := by omega
  have ii1 : (i : Int) < 256 := by omega
  have ik0 : (0 : Int) ≤ (k : Int) := by omega
  have ik1 : (k : Int) < 256 := by omega
  have in0 : (0 : Int) ≤ (n1 : Int) := by omega
  have in1 : (n1 : Int) < 256 := by omega
  have ij0 : (0 : Int) ≤ (j : Int) := by omega
  have ij1 : (j : Int) < 256 := by omega
  have hS0 : TS w w2 g n1 i k j xn xi xk xj w2 := ⟨c1, c2, c3, c4, c5, c6, K2.out.lt, B2.out.size, T2.out, B2.out, Below.refl _ _⟩
  have hS := hS0.keep (wd := w2.drew) (Below.refl _ _).drew
  have HM := Lib.hid (fun (x : Value) (W : World) (hx : BytesAt W x [i]) (hc : Crcs W) => more_is s x [i] W hs hx hc HMO.out)
  have HA := Lib.hid (fun o => hS0.keep (wd := (w2.alloc o).drew) (((Below.refl _ _).alloc (Nat.le_refl _) o).drew))
  have HD := Lib.hid (fun o => ((Below.refl w2.heap.size w2).alloc (Nat.le_refl _) o).drew)
  have HY := Lib.hid ((bytes_new w2 [i] (0, 0) (by simpa using hi) (by simp)).keep (((Below.refl _ (w2.alloc (.cells ([i].map fun (c : Nat) => Value.int .u8 (c : Int)).toArray 5))).drew)))
  clear HMO K2 HXI HXK HXN HXJ
  unfold TS at hS
  clear hS0
  go_region_held3 (fun w' => w'.cell? ⟨g, n1, none⟩ = some (.int .u32 (xn : Int)) ∧ w'.cell? ⟨g, i, none⟩ = some (.int .u32 (xi : Int)) ∧ w'.cell? ⟨g, k, none⟩ = some (.int .u32 (xk : Int)) ∧ w'.cell? ⟨g, 0, none⟩ = some (.int .u32 0) ∧
      w'.cell? ⟨g, 128, none⟩ = some (.int .u32 3988292384) ∧ w'.cell? ⟨g, j, none⟩ = some (.int .u32 (xj : Int)) ∧ g < w2.heap.size ∧ w.heap.size ≤ w2.heap.size ∧ Tabs w2 ∧ Below w.heap.size w w2 ∧ Below w2.heap.size w2 w')
    (first | exact hS | exact HA.out _ | (exact TS.keep (HA.out _) (hb5.mono (HD.out _).size)) | assumption)
    (first
      | (go_at_call 23; refine (HM.out _ _ HY.out (T2.out.below (HD.out _)).crc).mono ?_; rintro e w5 ⟨rfl, rfl⟩)
      | (go_at_call 15; refine (works_any _ (T2.out.below (HD.out _))).mono ?_; rintro e w5 ⟨rfl, hb5⟩))
  go_wp2
  go_ret
  exact ⟨rfl, B2.out.trans (((HD.out _).trans (hb5.mono (HD.out _).size)).mono B2.out.size)⟩
end Go.Proofs.YtdgloipckcjhaaaDoor
