/- The examples of the chapter on checksums hold: works returns true; memory that lay stays. Condition: the listed tables. -/
import Derived.Test.YtdgloipckcjhaaaDoorRefParse2
import Derived.Lib.SlBytesConst
namespace Go.Proofs.YtdgloipckcjhaaaDoor
open Go.RowKit

/-- The listed tables in a world. -/
structure Tabs (W : World) : Prop where
  crc : Crcs W
  bru : W.cell? ⟨8, 15, none⟩ = some (.int .u8 4)
  lt : 8 < W.heap.size
theorem Tabs.below {w w' : World} (h : Tabs w) (hb : Below w.heap.size w w') : Tabs w' :=
  ⟨h.crc.below hb, (hb.cell (p := ⟨8, 15, none⟩) h.lt).trans h.bru, Nat.lt_of_lt_of_le h.lt hb.size⟩

theorem w_join1 (W : World) : Calls Tryd.prog 13 #[.int .u32 5, .int .u32 7, .int .i64 0] W fun e w' => e = .returned (.tuple #[.int .u32 2, .int .i64 0]) ∧ Below W.heap.size W w' := by
  have h := join_any 5 7 0 W (by decide) (by decide)
  rw [show joinV 5 7 0 = .tuple #[.int .u32 2, .int .i64 0] by kernel_rfl] at h
  exact h
theorem w_join2 (W : World) : Calls Tryd.prog 13 #[.int .u32 0, .int .u32 7, .int .i64 100] W fun e w' => e = .returned (.tuple #[.int .u32 7, .int .i64 0]) ∧ Below W.heap.size W w' := by
  have h := join_any 0 7 100 W (by decide) (by decide)
  rw [show joinV 0 7 100 = .tuple #[.int .u32 7, .int .i64 0] by kernel_rfl] at h
  exact h
theorem w_parse (W : World) : Calls Tryd.prog 16 #[.string ⟨#[99, 98, 102, 52, 51, 57, 50, 54]⟩] W fun e w' => e = .returned (.tuple #[.int .u32 3421780262, .int .i64 0]) ∧ Below W.heap.size W w' := by
  have h := parse_any ⟨#[99, 98, 102, 52, 51, 57, 50, 54]⟩ W (by decide)
  rw [show parseV (ByteArray.mk #[99, 98, 102, 52, 51, 57, 50, 54]).data.toList = .tuple #[.int .u32 3421780262, .int .i64 0] by kernel_rfl] at h
  exact h
theorem w_hex (W : World) (hT : Tabs W) : Calls Tryd.prog 18 #[.int .u32 255] W fun e w' => e = .returned (.string ⟨#[48, 48, 48, 48, 48, 48, 102, 102]⟩) ∧ Below W.heap.size W w' := by
  have h := hex_any 255 W (by decide) hT.bru hT.lt
  rw [show hexS 255 = ⟨#[48, 48, 48, 48, 48, 48, 102, 102]⟩ by unfold hexS; congr 1] at h
  exact h

theorem BytesAt.below {w w' : World} {v : Value} {l : List Nat} {B : Nat} (h : BytesAt w v l) (hb : Below B w w') (hB : ∀ a n c, v = .slice (some a) n c → a.block < B) : BytesAt w' v l := by
  refine ⟨?_, h.byte⟩
  rcases h.form with h1 | ⟨a, cap, rfl, h1, h2, h3⟩
  · exact .inl h1
  · have ha := hB a _ _ rfl
    exact .inr ⟨a, cap, rfl, h1, h2, fun i hi => (hb.cell (by unfold Addr.add; split <;> exact ha)).trans (h3 i hi)⟩
theorem bytes_new (W : World) (l : List Nat) (fr : Nat × Nat) (hb : ∀ c ∈ l, c < 256) (hl : l.length ≤ 9223372036854775807) :
    BytesAt (W.alloc (.cells (l.map fun (c : Nat) => Value.int .u8 (c : Int)).toArray 5 fr)) (.slice (some ⟨W.heap.size, 0, none⟩) l.length l.length) l := by
  refine ⟨.inr ⟨⟨W.heap.size, 0, none⟩, l.length, rfl, Nat.le_refl _, hl, fun i hi => ?_⟩, hb⟩
  rw [show (⟨W.heap.size, 0, none⟩ : Addr).add i = ⟨W.heap.size, i, none⟩ by unfold Addr.add; split <;> simp_all]
  rw [World.cell?_alloc_mark, List.getElem?_toArray, List.getElem?_map, List.getElem?_eq_getElem hi, List.getD_eq_getElem?_getD, List.getElem?_eq_getElem hi]
  rfl
theorem w_sum1 (v : Value) (W : World) (hv : BytesAt W v [49, 50, 51, 52, 53, 54, 55, 56, 57]) (hT : Tabs W) : Calls Tryd.prog 22 #[v] W fun e w' => e = .returned (.int .u32 3421780262) ∧ W = w' := by
  have h := sum_any v _ W hv hT.crc
  rw [show Crc.sum [49, 50, 51, 52, 53, 54, 55, 56, 57] = 3421780262 by decide +kernel] at h
  exact h
theorem w_sum2 (v : Value) (W : World) (hv : BytesAt W v [49, 50, 51, 52]) (hT : Tabs W) : Calls Tryd.prog 22 #[v] W fun e w' => e = .returned (.int .u32 (Crc.sum [49, 50, 51, 52] : Nat)) ∧ W = w' :=
  sum_any v _ W hv hT.crc
theorem w_more (v : Value) (W : World) (hv : BytesAt W v [53, 54, 55, 56, 57]) (hT : Tabs W) : Calls Tryd.prog 23 #[.int .u32 (Crc.sum [49, 50, 51, 52] : Nat), v] W fun e w' => e = .returned (.int .u32 3421780262) ∧ W = w' := by
  have h := more_any (Crc.sum [49, 50, 51, 52]) v _ W (by decide +kernel) hv hT.crc
  rw [show Crc.more (Crc.sum [49, 50, 51, 52]) [53, 54, 55, 56, 57] = 3421780262 by decide +kernel] at h
  exact h

set_option maxRecDepth 100000 in
set_option maxHeartbeats 4000000 in
theorem works_any (w : World) (hT : Tabs w) :
    Calls Tryd.prog 15 #[] w fun e w' => e = .returned (.bool true) ∧ Below w.heap.size w w' := by
  have HT := Lib.hid hT
  clear hT
  go_enter Tryd.func15, Tryd.ntmps15
  go_wp2_with fail
  refine (table_any _ HT.out.crc).mono ?_
  rintro e w1 ⟨rfl, hb1⟩
  have T1 := Lib.hid (HT.out.below hb1)
  have B1 := Lib.hid hb1
  clear HT hb1
  go_wp2_with (refine wpList_store_row rfl 30 (.tmp 1) (.tmp 8) rfl w1.heap.size tabA rfl rfl 30 Tryd.zeroCells30 (heap_alloc_new w1 _) (info256 tabA_size) (by rw [zero256, tabA_size]) tabA_all ?_)
  obtain ⟨w2, hw2⟩ : ∃ w2, w2 = (w1.alloc (.cells Tryd.zeroCells30 30)).setRow w1.heap.size tabA := ⟨_, rfl⟩
  rw [← hw2]
  have hb2 : Below w1.heap.size w1 w2 := by rw [hw2]; exact below_setRow ((Below.refl _ _).alloc (Nat.le_refl _) _) (Nat.le_refl _) _
  have hk2 : Blk w2 w1.heap.size 30 tabA := by rw [hw2]; exact setRow_heap _ _ _ _ _ _ (heap_alloc_new w1 _)
  have T2 := Lib.hid (T1.out.below hb2)
  have B2 := Lib.hid (B1.out.trans (hb2.mono B1.out.size))
  generalize w1.heap.size = g at *
  have K2 := Lib.hid hk2
  clear hb2 hk2 hw2 T1 B1 
  refine (w_join1 _).mono ?_
  rintro e w3 ⟨rfl, hb3⟩
  have T3 := Lib.hid (T2.out.below hb3)
  have B3 := Lib.hid (B2.out.trans (hb3.mono B2.out.size))
  have K3 := Lib.hid (K2.out.below hb3 K2.out.lt)
  clear hb3 T2 B2 K2
  go_wp2_with fail
  refine (w_join2 _).mono ?_
  rintro e w4 ⟨rfl, hb4⟩
  have T4 := Lib.hid (T3.out.below hb4)
  have B4 := Lib.hid (B3.out.trans (hb4.mono B3.out.size))
  have K4 := Lib.hid (K3.out.below hb4 K3.out.lt)
  clear hb4 T3 B3 K3
  go_wp2_with fail
  refine (w_parse _).mono ?_
  rintro e w5 ⟨rfl, hb5⟩
  have T5 := Lib.hid (T4.out.below hb5)
  have B5 := Lib.hid (B4.out.trans (hb5.mono B4.out.size))
  have K5 := Lib.hid (K4.out.below hb5 K4.out.lt)
  clear hb5 T4 B4 K4
  have kc := fun (w : World) (C : Array Value) (n c : Nat) => Lib.run_convert_bytes_const (P := Tryd.prog) w 33 5 C n c Tryd.underlying33 Tryd.underlying5
  go_wp2_with fail
  have A1 := bytes_new w5 [49, 50, 51, 52, 53, 54, 55, 56, 57] (9, 10) (by decide) (by decide)
  have M6 := (Below.refl w5.heap.size w5).alloc (Nat.le_refl _) (.cells ([49, 50, 51, 52, 53, 54, 55, 56, 57].map fun (c : Nat) => Value.int .u8 (c : Int)).toArray 5 (9, 10))
  have T6 := Lib.hid (T5.out.below M6)
  have B6 := Lib.hid (B5.out.trans (M6.mono B5.out.size))
  have K6 := Lib.hid (K5.out.below M6 K5.out.lt)
  clear T5 B5 K5 M6
  refine (w_sum1 _ _ A1 T6.out).mono ?_
  rintro e w6 ⟨rfl, hw6⟩
  rw [hw6] at T6 B6 K6
  clear hw6 A1
  go_wp2_with fail
  have A2 := bytes_new w6 [49, 50, 51, 52] (4, 5) (by decide) (by decide)
  have M7 := (Below.refl w6.heap.size w6).alloc (Nat.le_refl _) (.cells ([49, 50, 51, 52].map fun (c : Nat) => Value.int .u8 (c : Int)).toArray 5 (4, 5))
  have T7 := Lib.hid (T6.out.below M7)
  have B7 := Lib.hid (B6.out.trans (M7.mono B6.out.size))
  have K7 := Lib.hid (K6.out.below M7 K6.out.lt)
  clear T6 B6 K6 M7
  refine (w_sum2 _ _ A2 T7.out).mono ?_
  rintro e w7 ⟨rfl, hw7⟩
  rw [hw7] at T7 B7 K7
  clear hw7 A2
  go_wp2_with fail
  have A3 := bytes_new w7 [53, 54, 55, 56, 57] (5, 6) (by decide) (by decide)
  have M8 := (Below.refl w7.heap.size w7).alloc (Nat.le_refl _) (.cells ([53, 54, 55, 56, 57].map fun (c : Nat) => Value.int .u8 (c : Int)).toArray 5 (5, 6))
  have T8 := Lib.hid (T7.out.below M8)
  have B8 := Lib.hid (B7.out.trans (M8.mono B7.out.size))
  have K8 := Lib.hid (K7.out.below M8 K7.out.lt)
  clear T7 B7 K7 M8
  refine (w_more _ _ A3 T8.out).mono ?_
  rintro e w8 ⟨rfl, hw8⟩
  rw [hw8] at T8 B8 K8
  clear hw8 A3
  have c1 : w8.cell? ⟨g, 1, none⟩ = some (.int .u32 1996959894) := by
    rw [K8.out.cell 1, tabA_at (by decide), show Crc.stepn 8 1 = 1996959894 by decide +kernel]
    rfl
  have c2 : w8.cell? ⟨g, 255, none⟩ = some (.int .u32 755167117) := by
    rw [K8.out.cell 255, tabA_at (by decide), show Crc.stepn 8 255 = 755167117 by decide +kernel]
    rfl
  go_wp2_with fail
  refine (w_hex _ T8.out).mono ?_
  rintro e w9 ⟨rfl, hb9⟩
  go_wp2
  go_ret
  exact ⟨rfl, B8.out.trans (hb9.mono B8.out.size)⟩
end Go.Proofs.YtdgloipckcjhaaaDoor
