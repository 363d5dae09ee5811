/- ScriptWrong returns true at every input. Conditions: as the statement's own. -/
import Derived.Test.YtojodekmmkemgaaGreatDoorScNums
namespace Go.Proofs.YtojodekmmkemgaaGreatDoor
open Go.RowKit Go.Shelf

def badV : Array Value := ((List.range 12).map fun i : Nat => Value.string ⟨(badL i).toArray⟩).toArray
theorem badV_get (k : Nat) (h : k < 12) : badV[k]? = some (.string ⟨(badL k).toArray⟩) := by
  unfold badV
  rw [List.getElem?_toArray, List.getElem?_map, List.getElem?_range h]
  rfl
theorem badL_short (i : Nat) : (badL i).length ≤ 20 := by
  match i with
  | 0 | 1 | 2 | 3 | 4 | 5 | 6 | 7 | 8 | 9 | 10 => decide
  | i + 11 => show ([99, 97, 110, 99, 101, 108, 32, 48, 32, 48] : List UInt8).length ≤ 20; decide
theorem wrong_top {ops : List Ov} (ho : ∀ o ∈ ops, opOk o) (h40 : ops.length ≤ 40) (i : Nat) (more : List UInt8) (hm : more.length ≤ 200) : paTop (catL ops ++ badL i ++ [10] ++ more) = ([], ops.length + 1, 10) := by
  have h1 := catL_len9 ho
  have h2 := badL_short i
  unfold paTop
  rw [if_neg (by simp only [List.length_append, List.length_cons, List.length_nil]; omega), catL_end]
  have e : endL (ops.map textO) ++ badL i ++ [10] ++ more = endL (ops.map textO) ++ (badL i ++ 10 :: more) := by simp
  rw [e, linesL_all _ _ (fun l hl => by obtain ⟨o, h, rfl⟩ := List.mem_map.1 hl; exact textO_line (ho o h)), linesL_line (badL_line i), paAll_wrong ops [] _ _ 0 ho (by simp; omega) (badL_pass i) (by rw [badL_par i]; decide)]
  simp
set_option maxRecDepth 100000 in
set_option maxHeartbeats 8000000 in
theorem scriptWrong_any (A : Option Addr) (n c : Nat) (l : List No) (at' wh : Nat) (more : ByteArray) (w : World) (hE : DfE w) (hs : SlN w A l) (hn : l.length = n) (hnc : n ≤ c) (hn63 : n ≤ 9223372036854775807) (hat : at' ≤ 255) (hwh : wh ≤ 255) (hmz : more.size ≤ 9223372036854775807) :
    Calls Tryz.prog 7 #[.slice A n c, .int .u8 (at' : Int), .int .u8 (wh : Int), .string more] w fun e w' => e = .returned (.bool true) ∧ Below w.heap.size w w' := by
  have HE := Lib.hid hE
  have WK := Lib.hid (fun (W : World) (hb : Below w.heap.size w W) => works_any W (hE.keep hb))
  by_cases hbig : 200 < more.size
  · have hb3 : (200 : Int) < (more.size : Int) := by omega
    have W1 := Lib.hid (WK.out w (Below.refl _ _))
    clear hbig WK hs hn hnc hn63 hat hwh hmz hE
    go_enter Tryz.func7, Tryz.ntmps7
    go_wp2_with (go_at_call 20; refine W1.out.mono ?_; rintro e w10 ⟨rfl, hb⟩; have B10 := Lib.hid hb; clear hb)
    go_ret
    exact ⟨rfl, B10.out⟩
  have hb3 : ¬ ((200 : Int) < (more.size : Int)) := by omega
  obtain ⟨z, hz⟩ : ∃ z : Nat, z = min n 40 := ⟨_, rfl⟩
  obtain ⟨k, hk⟩ : ∃ k : Nat, k = at' % (z + 1) := ⟨_, rfl⟩
  obtain ⟨r, hr⟩ : ∃ r : Nat, r = wh % 12 := ⟨_, rfl⟩
  have hkz : k ≤ z := by rw [hk]; have := Nat.mod_lt at' (show 0 < z + 1 by omega); omega
  have hk40 : k ≤ 40 := by omega
  have hkn : k ≤ n := by omega
  have hr12 : r < 12 := by omega
  have hmin : (min (n : Int) 40) = (z : Int) := by omega
  have hw1 : IntKind.i64.wrap (at' : Int) = (at' : Int) := IntWalk.i64_in _ (by omega)
  have hw2 : IntKind.i64.wrap ((z : Int) + 1) = (z : Int) + 1 := IntWalk.i64_in _ (by omega)
  have hz0 : ((z : Int) + 1 == 0) = false := by rw [beq_eq_false_iff_ne]; omega
  have hz1 : ¬ ((z : Int) + 1 = 0) := by omega
  have htm : (at' : Int).tmod ((z : Int) + 1) = (k : Int) := by rw [Int.tmod_eq_emod_of_nonneg (by omega), hk]; first | exact (Int.natCast_emod _ _).symm | exact (Int.ofNat_emod _ _).symm | exact (Int.natCast_mod _ _).symm
  have htr : (wh : Int).tmod 12 = (r : Int) := by rw [Int.tmod_eq_emod_of_nonneg (by omega)]; omega
  have hwk : IntKind.i64.wrap ((k : Int) + 1) = (k : Int) + 1 := IntWalk.i64_in _ (by omega)
  have hcut := cut_toN A k n c (by omega)
  have hk0 : (0 : Int) ≤ (k : Int) := by omega
  have HOK := Lib.hid (opsN_ok (slN_z hs))
  have HS := Lib.hid hs
  have HL := Lib.hid (And.intro hn (And.intro hkn hk40))
  have HM : Hid (more.data.toList.length ≤ 200) := Lib.hid (by rw [size_list]; omega)
  clear hE hs hn hnc hn63 hat hwh hz hk hr hkz hk40 hbig
  go_enter Tryz.func7, Tryz.ntmps7
  go_wp2_with fail
  clear hcut hmin hw1 hw2 hz0 hz1 htm
  go_loopw [10, 36] (fun s i wr => ∃ (j : Nat) (t : ByteArray), j ≤ k ∧ i = .int .i64 j ∧ s = .string t ∧ Hid (t.data.toList = catL (opsN l j)) ∧ Hid (Below w.heap.size w wr)) (fun _ i _ => k - (intOf i).toNat)
  case atStart => exact ⟨0, ⟨#[]⟩, Nat.zero_le _, rfl, rfl, Lib.hid rfl, Lib.hid (Below.refl _ _)⟩
  case round =>
    obtain ⟨j, t, hj, rfl, rfl, HT, HB⟩ := hrel
    by_cases hlt : j < k
    · obtain ⟨x, hx⟩ : ∃ x, l[j]? = some x := ⟨_, List.getElem?_eq_getElem (by have := HL.out.1; have := HL.out.2.1; omega)⟩
      obtain ⟨hzx, g, o, rfl, hr⟩ := (HS.out.keep HB.out) j x hx
      have HR := Lib.hid hr
      have hltI : (j : Int) < (k : Int) := by omega
      obtain ⟨cc, hcc⟩ : ∃ cc, cc = madeO x := ⟨_, rfl⟩
      have HCO : Hid (opOk cc) := Lib.hid (by rw [hcc]; exact madeO_ok x hzx.n)
      have BX : Hid (Below wr.heap.size wr (wr.alloc (.cells (nLo x).toArray 27))) := Lib.hid ((Below.refl _ _).alloc (Nat.le_refl _) _)
      have RW : Hid (Whole (wr.alloc (.cells (nLo x).toArray 27)) wr.heap.size 27 (nLo x).toArray) := Lib.hid (Whole.new wr _ _)
      have MX := made_any x (wr.alloc (.cells (nLo x).toArray 27)) hzx
      unfold MdO at MX
      rw [← hcc, ← nLo_arr x] at MX
      have MX := Lib.hid MX
      have B1 := Lib.hid (HB.out.trans (BX.out.mono HB.out.size))
      obtain ⟨tc, htc⟩ : ∃ tc : ByteArray, tc.data.toList = textO cc := ⟨⟨(textO cc).toArray⟩, rfl⟩
      have HTC := Lib.hid htc
      have hl1 : tc.size ≤ 940 := by rw [← size_list, htc]; exact textO_len9 HCO.out
      have hl2 : t.size ≤ 941 * 40 := by rw [← size_list, HT.out]; have h1 := catL_len9 (HOK.out j); rw [opsN_len (by have := HL.out.1; have := HL.out.2.1; omega)] at h1; have := HL.out.2.2; omega
      obtain ⟨t1, e1, z1, ha1⟩ := add_ba tc ⟨#[10]⟩ (by show tc.size + 1 ≤ _; omega)
      obtain ⟨t2, e2, z2, ha2⟩ := add_ba t t1 (by rw [z1]; show t.size + (tc.size + 1) ≤ _; omega)
      have HT2 : Hid (t2.data.toList = catL (opsN l (j + 1))) := Lib.hid (by rw [e2.out, e1.out, opsN_next hx, cat_snoc, HT.out, htc, ← hcc, List.append_assoc])
      have all := nLo_one x
      have inf := nLo_inf x
      have infq := nLo_info x
      have hwj : IntKind.i64.wrap ((j : Int) + 1) = (j : Int) + 1 := IntWalk.i64_in _ (by have := HL.out.2.2; omega)
      clear hx hr hzx hcc htc hl1 hl2 e1 e2 z1 z2
      go_wp2_with (first
        | (refine wpList_load_mid rfl 27 (.tmp 38) rfl g (o + j * 7) rfl (nLo x) _ HR.out Tryz.underlying27 rfl infq ?_)
        | (refine wpList_store_row rfl 27 (.tmp 12) (.tmp 39) rfl _ (nLo x).toArray rfl rfl 27 _ (heap_alloc_new _ _) inf rfl all ?_; rw [World.setRow_alloc_new])
        | (refine wpList_load_row rfl 27 (.tmp 12) rfl wr.heap.size rfl 27 (nLo x).toArray (0, 0) _ RW.out Tryz.underlying27 rfl inf ?_)
        | (go_at_call 11; refine MX.out.mono ?_; rintro e w3 ⟨A3, n3, m3, rfl, hi, hb, -⟩; have B3 := Lib.hid (B1.out.trans (hb.mono B1.out.size)); have P3 := Lib.hid (print_ok cc A3 n3 m3 w3 (HE.out.keep B3.out) hi HCO.out tc HTC.out); clear hi hb MX)
        | (go_at_call 22; refine P3.out.mono ?_; rintro e w4 ⟨rfl, hb⟩; have B4 := Lib.hid (B3.out.trans (hb.mono B3.out.size)); clear hb P3))
      go_roundw
      case rel => exact ⟨j + 1, t2, by omega, by go_num, rfl, HT2, B4⟩
      case measure => simp [intOf]; omega
    · obtain rfl : j = k := by omega
      have hnj : ¬ ((j : Int) < (j : Int)) := by omega
      obtain ⟨bd, hbd⟩ : ∃ bd : ByteArray, bd = ⟨(badL r).toArray⟩ := ⟨_, rfl⟩
      have hbl : bd.data.toList = badL r := by rw [hbd]
      have NP : (wr.alloc (.cells badV 9)).cell? ⟨wr.heap.size, r, none⟩ = some (.string bd) := by
        rw [(Whole.new wr 9 badV).cell, hbd]
        exact badV_get r hr12
      have hrI : (r : Int) < 12 := by omega
      have hr0 : ¬ ((12 : Int) ≤ (r : Int)) := by omega
      have hr1 : ¬ ((r : Int) < 0) := by omega
      have hr2 : (0 : Int) ≤ (r : Int) := by omega
      have hl1 : bd.size ≤ 20 := by rw [← size_list, hbl]; exact badL_short r
      have hl2 : t.size ≤ 941 * 40 := by rw [← size_list, HT.out]; have h1 := catL_len9 (HOK.out j); rw [opsN_len (by have := HL.out.1; have := HL.out.2.1; omega)] at h1; have := HL.out.2.2; omega
      have hl3 : more.size ≤ 200 := by rw [← size_list]; exact HM.out
      obtain ⟨t1, e1, z1, ha1⟩ := add_ba t bd (by omega)
      obtain ⟨t2, e2, z2, ha2⟩ := add_ba t1 ⟨#[10]⟩ (by show t1.size + 1 ≤ _; omega)
      obtain ⟨t3, e3, z3, ha3⟩ := add_ba t2 more (by rw [z2]; show t1.size + 1 + _ ≤ _; omega)
      have h3 : t3.data.toList = catL (opsN l j) ++ badL r ++ [10] ++ more.data.toList := by rw [e3.out, e2.out, e1.out, HT.out, hbl]
      have htop : paTop t3.data.toList = ([], j + 1, 10) := by
        rw [h3, wrong_top (HOK.out j) (by rw [opsN_len (by have := HL.out.1; have := HL.out.2.1; omega)]; exact HL.out.2.2) r _ HM.out, opsN_len (by have := HL.out.1; have := HL.out.2.1; omega)]
      have hsz : t3.size ≤ 65536 := by rw [z3, z2, z1]; show t.size + bd.size + 1 + more.size ≤ _; omega
      have PS : Hid (∀ W : World, DfE W → Calls Tryz.prog 13 #[.string t3] W fun e w' => (∃ A c, e = .returned (.tuple #[.slice A 0 c, .int .i64 ((j : Int) + 1), .int .i64 10])) ∧ Below W.heap.size W w') := Lib.hid (fun W hW => (pall_any t3 W hW hsz).mono (fun e w' ⟨l', A', c', m', er, he, hp, _, _, hb⟩ => by
        rw [htop] at hp
        obtain ⟨h5, h6⟩ := Prod.mk.inj hp
        obtain ⟨h6, h7⟩ := Prod.mk.inj h6
        have h4 := congrArg List.length h5
        rw [List.length_map] at h4
        rw [← h4, ← h6, ← h7] at he
        exact ⟨⟨A', c', he⟩, hb⟩))
      have PN := Lib.hid (fun (W : World) (hW : DfE W) => parse_no bd W hW (by omega) (by rw [hbl]; exact badL_par r))
      have BA := Lib.hid (HB.out.alloc HB.out.size (.cells badV 9))
      have EZ0 := fun (A : Option Addr) (n m : Nat) (V : World) (hi : OpIn V (zeroO 0 0) A n m) => equal_b (zeroO 0 0) (zeroO 0 0) A none n 0 m 0 V hi (opin_zero V) true (by simp)
      rw [zero10] at EZ0
      have EZ := Lib.hid EZ0
      clear hl1 hl2 hl3 e1 e2 e3 z1 z2 z3 h3 htop hsz hbd hbl EZ0 HT HOK HS HL HM
      go_upto_region 14 with (refine Great.wpList_buildSliceTo rfl 43 9 12 _ rfl wr.heap.size rfl (some 53) rfl Tryz.underlying43 badV (by kernel_rfl) ?_)
      clear NP hr12 hrI hr0 hr1 hr2
      generalize wr.alloc (.cells badV 9) = w2 at BA ⊢
      have P2 := Lib.hid (PS.out w2 (HE.out.keep BA.out))
      go_upto_region 17 with (go_at_call 13; refine P2.out.mono ?_; rintro e w3 ⟨⟨A3, c3, rfl⟩, hb⟩; have B3 := Lib.hid (BA.out.trans (hb.mono BA.out.size)); have N3 := Lib.hid (PN.out w3 (HE.out.keep B3.out)); clear hb P2 PS PN)
      go_upto_region 18 with (first
        | (go_at_call 28; refine N3.out.mono ?_; rintro e w4 ⟨⟨A4, n4, m4, rfl, hi⟩, hb⟩; have ba := (Below.refl w4.heap.size w4).alloc (Nat.le_refl _) (.cells (oA (zeroO 0 0) A4 n4 m4) 34); have b4 := B3.out.trans (hb.mono B3.out.size); have I5 := Lib.hid (And.intro (b4.trans (ba.mono b4.size)) (OpAt.new hi)); clear hi hb ba b4 N3)
        | (refine wpList_store_row (by rfl) 34 (.tmp 19) (.tmp 85) (by rfl) _ (oA (zeroO 0 0) A4 n4 m4) (by rfl) (by rfl) 34 _ (heap_alloc_new _ _) (info10 _ _ _ _) (by rfl) (all10 _ _ _ _) ?_; rw [World.setRow_alloc_new]))
      generalize w4.alloc (.cells (oA (zeroO 0 0) A4 n4 m4) 34) = w5 at I5 ⊢
      generalize w4.heap.size = X at I5 ⊢
      have E5 := Lib.hid (EZ.out A4 n4 m4 w5 I5.out.2.i)
      go_wp2_with (first
        | (refine wpList_load_row (by rfl) 34 (.tmp 19) (by rfl) _ (by rfl) 34 (oA (zeroO 0 0) A4 n4 m4) (0, 0) _ I5.out.2.w Tryz.underlying34 (by rfl) (info10 (zeroO 0 0) A4 n4 m4) ?_)
        | (go_at_call 26; refine E5.out.mono ?_; rintro e w6 ⟨rfl, hb⟩; have B6 := Lib.hid (I5.out.1.trans (hb.mono I5.out.1.size)); have W1 := Lib.hid (WK.out w6 B6.out); clear hb E5)
        | (go_at_call 20; refine W1.out.mono ?_; rintro e w7 ⟨rfl, hb⟩; have B7 := Lib.hid (B6.out.trans (hb.mono B6.out.size)); clear hb))
      go_ret
      exact ⟨rfl, B7.out⟩
end Go.Proofs.YtojodekmmkemgaaGreatDoor
