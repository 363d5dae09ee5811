/- CrcTexts, CrcBack and CrcSums return true; memory that lay stays. Conditions: the listed tables; the bytes lie in memory. -/
import Derived.Test.YtdgloipckcjhaaaDoorLawCrc1
import Derived.DeepKeys
import Derived.Laws.StructEq
import Derived.Laws.BytesArg
namespace Go.Proofs.YtdgloipckcjhaaaDoor
open Go.RowKit

theorem parseV_form (l : List UInt8) : ∃ (x : Nat) (e : Int), parseV l = .tuple #[.int .u32 (x : Int), .int .i64 e] := by
  unfold parseV
  split
  · exact ⟨_, 0, rfl⟩
  · exact ⟨0, 10, rfl⟩
theorem eql_tab (w : World) : (binOp .eql 30 (.agg tabA) (.agg tabA)).run Tryd.prog w = .ok (.bool true) w := by
  have hs : (keyOf Tryd.prog 30 (.agg tabA)).isSome = true := by kernel_rfl
  obtain ⟨l, hl⟩ := Option.isSome_iff_exists.1 hs
  obtain ⟨r, hr, hi⟩ := run_equal_deep (P := Tryd.prog) w (m := 2) (by decide) (k := 30) (by kernel_rfl) (by kernel_rfl) hl hl
  have hr1 : r = true := hi.2 rfl
  rw [hr1] at hr
  have hr' : (Op.equalIn 10000 30 (.agg tabA) (.agg tabA)).run Tryd.prog w = .ok true w := hr
  rw [run_eql_struct, hr']
  rfl

set_option maxRecDepth 100000 in
set_option maxHeartbeats 2000000 in
theorem texts_walk (s : ByteArray) (u : Nat) (w : World) (hs : s.size ≤ 9223372036854775807) (hu : u < 4294967296) (hT : Tabs w) :
    Calls Tryd.prog 4 #[.string s, .int .u32 (u : Int)] w fun e w' => e = .returned (.bool true) ∧ Below w.heap.size w w' := by
  have HT := Lib.hid hT
  clear hT
  by_cases h100 : s.size ≤ 100
  · have h1 := fun W => parse_any s W hs
    have h2 := fun W => refParse_any s W
    obtain ⟨x, e, hx⟩ := parseV_form s.data.toList
    rw [hx] at h1 h2
    have H1 := Lib.hid h1
    have H2 := Lib.hid h2
    have he := eql_tab
    clear h1 h2 hx
    go_enter Tryd.func4, Tryd.ntmps4
    go_wp2_with fail
    refine (H1.out _).mono ?_
    rintro e w1 ⟨rfl, hb1⟩
    have T1 := Lib.hid (HT.out.below hb1)
    have B1 := Lib.hid hb1
    clear hb1
    go_wp2_with fail
    refine (H2.out _).mono ?_
    rintro e w2 ⟨rfl, rfl⟩
    go_wp2_with fail
    refine (hex_any u _ hu T1.out.bru T1.out.lt).mono ?_
    rintro e w3 ⟨rfl, hb3⟩
    have T3 := Lib.hid (T1.out.below hb3)
    have B3 := Lib.hid (B1.out.trans (hb3.mono B1.out.size))
    clear hb3 T1 B1
    go_wp2_with fail
    refine (refHex_any u _ hu).mono ?_
    rintro e w4 ⟨rfl, rfl⟩
    go_wp2_with fail
    refine (table_any _ T3.out.crc).mono ?_
    rintro e w5 ⟨rfl, hb5⟩
    have T5 := Lib.hid (T3.out.below hb5)
    have B5 := Lib.hid (B3.out.trans (hb5.mono B3.out.size))
    clear hb5 T3 B3
    go_wp2_with fail
    refine (refTable_any _).mono ?_
    rintro e w6 ⟨rfl, hb6⟩
    have T6 := Lib.hid (T5.out.below hb6)
    have B6 := Lib.hid (B5.out.trans (hb6.mono B5.out.size))
    clear hb6 T5 B5
    go_wp2_with fail
    refine (works_any _ T6.out).mono ?_
    rintro e w7 ⟨rfl, hb7⟩
    go_wp2
    go_ret
    exact ⟨rfl, B6.out.trans (hb7.mono B6.out.size)⟩
  · have hd : ¬ (s.size : Int) ≤ 100 := by omega
    go_enter Tryd.func4, Tryd.ntmps4
    go_wp2_with (go_at_call 15; refine (works_any _ HT.out).mono ?_; rintro e w1 ⟨rfl, hb1⟩)
    go_ret
    exact ⟨rfl, hb1⟩

theorem hexS_size (u : Nat) : (hexS u).size = 8 := by unfold hexS; rw [Lib.size_mk, Hx.hexK_length]
theorem parse_hexS {u : Nat} (hu : u < 4294967296) : parseV (hexS u).data.toList = .tuple #[.int .u32 (u : Int), .int .i64 0] := by
  have e : (hexS u).data.toList = Hx.hexK 8 u := by unfold hexS; rfl
  rw [e, sum_yes (Hx.hexK_length 8 u) (Hx.hexK_all 8 u), Hx.unhex_hexK 8 u (by omega)]
theorem hexS_parse {s : ByteArray} (h1 : s.data.toList.length = 8) (h2 : s.data.toList.all Hx.isHex = true) : hexS (Hx.unhex s.data.toList) = s ∧ Hx.unhex s.data.toList < 4294967296 := by
  have h := Hx.hexK_unhex _ h2
  rw [h1] at h
  refine ⟨?_, h.2⟩
  unfold hexS
  rw [h.1]
theorem parse_is (s : ByteArray) (v : Value) (w : World) (hs : s.size ≤ 9223372036854775807) (hv : parseV s.data.toList = v) : Calls Tryd.prog 16 #[.string s] w fun e w' => e = .returned v ∧ Below w.heap.size w w' := by
  rw [← hv]; exact parse_any s w hs

set_option maxRecDepth 100000 in
set_option maxHeartbeats 2000000 in
theorem back_walk (u : Nat) (s : ByteArray) (w : World) (hu : u < 4294967296) (hs : s.size ≤ 9223372036854775807) (hT : Tabs w) :
    Calls Tryd.prog 10 #[.int .u32 (u : Int), .string s] w fun e w' => e = .returned (.bool true) ∧ Below w.heap.size w w' := by
  have HT := Lib.hid hT
  clear hT
  by_cases h100 : s.size ≤ 100
  · have hz := hexS_size u
    have hzz : ((hexS u).size : Int) = 8 := by omega
    have hP := fun W => parse_is (hexS u) _ W (by omega) (parse_hexS hu)
    have hX := fun (W : World) (h : Tabs W) => hex_any u W hu h.bru h.lt
    generalize hexS u = t at hP hX hz hzz
    have HP := Lib.hid hP
    have HX := Lib.hid hX
    clear hP hX hz
    go_enter Tryd.func10, Tryd.ntmps10
    go_wp2_with fail
    refine (HX.out _ HT.out).mono ?_
    rintro e w1 ⟨rfl, hb1⟩
    have T1 := Lib.hid (HT.out.below hb1)
    have B1 := Lib.hid hb1
    clear hb1 HX HT
    go_wp2_with fail
    refine (HP.out _).mono ?_
    rintro e w2 ⟨rfl, hb2⟩
    have T2 := Lib.hid (T1.out.below hb2)
    have B2 := Lib.hid (B1.out.trans (hb2.mono B1.out.size))
    clear hb2 T1 B1 HP
    go_wp2_with fail
    by_cases h : isSum s.data.toList = true
    · have h1 : s.data.toList.length = 8 := by unfold isSum at h; simp at h; exact h.1
      have h2 : s.data.toList.all Hx.isHex = true := by unfold isSum at h; simp only [Bool.and_eq_true] at h; exact h.2
      obtain ⟨e1, e2⟩ := hexS_parse h1 h2
      refine (parse_is s _ _ hs (sum_yes h1 h2)).mono ?_
      rintro e w3 ⟨rfl, hb3⟩
      have T3 := Lib.hid (T2.out.below hb3)
      have B3 := Lib.hid (B2.out.trans (hb3.mono B2.out.size))
      have hX := fun (W : World) (h : Tabs W) => hex_any _ W e2 h.bru h.lt
      rw [e1] at hX
      have HX := Lib.hid hX
      clear hb3 T2 B2 e1 h1 h2 h hX
      generalize Hx.unhex s.data.toList = x at *
      go_wp2_with fail
      refine (HX.out _ T3.out).mono ?_
      rintro e w4 ⟨rfl, hb4⟩
      have T4 := Lib.hid (T3.out.below hb4)
      have B4 := Lib.hid (B3.out.trans (hb4.mono B3.out.size))
      clear hb4 T3 B3 HX
      go_wp2_with fail
      refine (works_any _ T4.out).mono ?_
      rintro e w5 ⟨rfl, hb5⟩
      go_wp2
      go_ret
      exact ⟨rfl, B4.out.trans (hb5.mono B4.out.size)⟩
    · have hv : parseV s.data.toList = .tuple #[.int .u32 0, .int .i64 10] := by unfold parseV; rw [if_neg h]
      refine (parse_is s _ _ hs hv).mono ?_
      rintro e w3 ⟨rfl, hb3⟩
      have T3 := Lib.hid (T2.out.below hb3)
      have B3 := Lib.hid (B2.out.trans (hb3.mono B2.out.size))
      clear hb3 T2 B2 hv h
      go_wp2_with fail
      refine (works_any _ T3.out).mono ?_
      rintro e w5 ⟨rfl, hb5⟩
      go_wp2
      go_ret
      exact ⟨rfl, B3.out.trans (hb5.mono B3.out.size)⟩
  · have hd : ¬ (s.size : Int) ≤ 100 := by omega
    go_enter Tryd.func10, Tryd.ntmps10
    go_wp2_with (go_at_call 15; refine (works_any _ HT.out).mono ?_; rintro e w1 ⟨rfl, hb1⟩)
    go_ret
    exact ⟨rfl, hb1⟩

theorem BytesAt.keep {w w' : World} {v : Value} {l : List Nat} (h : BytesAt w v l) (hb : Below w.heap.size w w') : BytesAt w' v l := by
  refine ⟨?_, h.byte⟩
  rcases h.form with h1 | ⟨a, cap, rfl, h1, h2, h3⟩
  · exact .inl h1
  · exact .inr ⟨a, cap, rfl, h1, h2, fun i hi => (hb.cell (block_lt_of_cell (h3 i hi))).trans (h3 i hi)⟩
/-- The text of bytes. -/
def strB (l : List Nat) : ByteArray := ⟨(l.map UInt8.ofNat).toArray⟩
theorem conv_bytes {w : World} {v : Value} {l : List Nat} (h : BytesAt w v l) : (convert 33 9 v).run Tryd.prog w = .ok (.string (strB l)) w := by
  rcases h.form with ⟨cap, rfl, rfl⟩ | ⟨a, cap, rfl, h1, h2, h3⟩
  · exact run_convert_bytes_nil w 33 5 Tryd.underlying33 Tryd.underlying5 0 cap 9 Tryd.underlying9
  · have e : l.length = (l.map UInt8.ofNat).length := by rw [List.length_map]
    rw [e]
    refine run_convert_bytes_back w 33 9 5 a cap (l.map UInt8.ofNat) Tryd.underlying33 Tryd.underlying5 Tryd.underlying9 fun j hj => ?_
    have hj' : j < l.length := by simpa using hj
    rw [h3 j hj', List.getElem_map, List.getD_eq_getElem?_getD, List.getElem?_eq_getElem hj']
    have hb := h.byte _ (List.getElem_mem hj')
    show some (Value.int .u8 ((l[j] : Nat) : Int)) = some (Value.int .u8 (((UInt8.ofNat l[j]).toNat : Nat) : Int))
    rw [UInt8.toNat_ofNat', Nat.mod_eq_of_lt hb]

set_option maxRecDepth 100000 in
set_option maxHeartbeats 2000000 in
theorem sums_walk (v : Value) (l : List Nat) (u : Nat) (w : World) (hv : BytesAt w v l) (hu : u < 4294967296) (hT : Tabs w) :
    Calls Tryd.prog 11 #[v, .int .u32 (u : Int)] w fun e w' => e = .returned (.bool true) ∧ Below w.heap.size w w' := by
  have HT := Lib.hid hT
  have hlen : ∃ p n c, v = .slice p n c ∧ n = l.length := by
    rcases hv.form with ⟨cap, rfl, rfl⟩ | ⟨a, cap, rfl, _⟩
    · exact ⟨_, _, _, rfl, rfl⟩
    · exact ⟨_, _, _, rfl, rfl⟩
  obtain ⟨p, n, c, hve, hn⟩ := hlen
  have h1 := sum_any v l w hv hT.crc
  have h2 := refSum_any v l w hv
  have h3 := more_any u v l w hu hv hT.crc
  have h4 := refMore_any u v l w hu hv
  have h5 := check_any v l u w hv hT.crc
  have h6 := refCheck_any v l u w hv
  have h7 := check_any v l (Crc.sum l) w hv hT.crc
  rw [decide_eq_true rfl] at h7
  have hcv := conv_bytes hv
  generalize strB l = t at hcv
  generalize Crc.sum l = x at *
  generalize Crc.more u l = y at *
  generalize decide (x = u) = z at *
  rw [hve] at hcv h1 h2 h3 h4 h5 h6 h7 ⊢
  have H1 := Lib.hid h1
  have H2 := Lib.hid h2
  have H3 := Lib.hid h3
  have H4 := Lib.hid h4
  have H5 := Lib.hid h5
  have H6 := Lib.hid h6
  have H7 := Lib.hid h7
  clear h1 h2 h3 h4 h5 h6 h7 hT hv hve hn
  by_cases h100 : n ≤ 3000
  · go_enter Tryd.func11, Tryd.ntmps11
    go_wp2_with fail
    refine H1.out.mono ?_
    rintro e w1 ⟨rfl, rfl⟩
    go_wp2_with fail
    refine H2.out.mono ?_
    rintro e w2 ⟨rfl, rfl⟩
    go_wp2_with fail
    refine H3.out.mono ?_
    rintro e w3 ⟨rfl, rfl⟩
    go_wp2_with fail
    refine H4.out.mono ?_
    rintro e w4 ⟨rfl, rfl⟩
    go_wp2_with fail
    refine H5.out.mono ?_
    rintro e w5 ⟨rfl, rfl⟩
    go_wp2_with fail
    refine H6.out.mono ?_
    rintro e w6 ⟨rfl, rfl⟩
    go_wp2_with fail
    refine H1.out.mono ?_
    rintro e w7 ⟨rfl, rfl⟩
    go_wp2_with fail
    refine H7.out.mono ?_
    rintro e w8 ⟨rfl, rfl⟩
    go_wp2_with fail
    refine (works_any _ HT.out).mono ?_
    rintro e w9 ⟨rfl, hb9⟩
    go_wp2
    go_ret
    exact ⟨rfl, hb9⟩
  · have hd : ¬ (n : Int) ≤ 3000 := by omega
    go_enter Tryd.func11, Tryd.ntmps11
    go_wp2_with (go_at_call 15; refine (works_any _ HT.out).mono ?_; rintro e w1 ⟨rfl, hb1⟩)
    go_ret
    exact ⟨rfl, hb1⟩
end Go.Proofs.YtdgloipckcjhaaaDoor
