/- Lists of operations, by the reference: which is wrong, whether a script is calm, the script's text. Condition: at most 10^12 operations. -/
import Derived.Test.YtojodekmmkemgaaGreatDoorScRPr
import Derived.Test.YtojodekmmkemgaaGreatDoorScPrA
namespace Go.Proofs.YtojodekmmkemgaaGreatDoor
open Go.RowKit Go.Shelf

set_option maxRecDepth 100000 in
set_option maxHeartbeats 4000000 in
theorem rwrong_any (A : Option Addr) (n c : Nat) (l : List Oq) (w : World) (hs : SlO w A l) (hn : n = l.length) (hb : n ≤ 1000000000000) :
    Calls Tryz.prog 74 #[.slice A n c] w fun e w' => e = .returned (.int .i64 (wrongL (l.map (·.o)))) ∧ Below w.heap.size w w' := by
  by_cases hbig : 2000 < n
  · have hb1 : (2000 : Int) < (n : Int) := by omega
    have HW := Lib.hid (wrongL_many (l := l.map (·.o)) (by rw [List.length_map]; omega))
    clear hs hn hb hbig
    go_enter Tryz.func74, Tryz.ntmps74
    go_wp2_with fail
    go_ret
    rw [HW.out]
    exact ⟨rfl, Below.refl _ _⟩
  have hb1 : ¬ ((2000 : Int) < (n : Int)) := by omega
  have HS := Lib.hid hs
  have HN := Lib.hid hn
  have hn2 : n ≤ 2000 := by omega
  clear hs hn hb hbig
  go_enter Tryz.func74, Tryz.ntmps74
  go_wp2_with fail
  clear hb1
  go_loopw [3] (fun i wr => ∃ k : Nat, k ≤ n ∧ i = .int .i64 k ∧ Hid (Below w.heap.size w wr) ∧ Hid (∀ i q, i < k → l[i]? = some q → opOk q.o)) (fun i _ => n - (intOf i).toNat)
  case atStart => exact ⟨0, Nat.zero_le _, rfl, Lib.hid (Below.refl _ _), Lib.hid (fun i q h => absurd h (Nat.not_lt_zero _))⟩
  case round =>
    obtain ⟨k, hk', rfl, HB, HQ⟩ := hrel
    by_cases hlt : k < n
    · obtain ⟨q, hq⟩ : ∃ q, l[k]? = some q := ⟨_, List.getElem?_eq_getElem (by rw [← HN.out]; exact hlt)⟩
      obtain ⟨g, o, rfl, hr, hi⟩ := (HS.out.keep HB.out) k q hq
      have HR := Lib.hid hr
      have HP := Lib.hid hq
      have CK := rocheck_any q.o q.A q.n q.m wr hi
      have hltI : (k : Int) < (n : Int) := by omega
      have hwk : IntKind.i64.wrap ((k : Int) + 1) = (k : Int) + 1 := IntWalk.i64_in _ (by omega)
      clear hq hr hi
      by_cases ok : opOk q.o
      · rw [ckO_yes ok] at CK
        have CK : Hid (Calls Tryz.prog 25 #[.agg (qL q).toArray] wr fun e w' => e = .returned (.int .i64 0) ∧ Below wr.heap.size wr w') := Lib.hid CK
        have HQ2 : Hid (∀ i q, i < k + 1 → l[i]? = some q → opOk q.o) := Lib.hid (fun i q' h he => by
          by_cases e : i = k
          · subst e
            rw [HP.out] at he
            cases he
            exact ok
          · exact HQ.out i q' (by omega) he)
        clear ok HP HQ
        go_wp2_with (first
          | (refine wpList_load_mid rfl 34 (.tmp 15) rfl g (o + k * 10) rfl (qL q) _ HR.out Tryz.underlying34 rfl (infoq q) ?_)
          | (go_at_call 25; refine CK.out.mono ?_; rintro e w2 ⟨rfl, hb⟩; have B2 := Lib.hid (HB.out.trans (hb.mono HB.out.size)); clear hb CK))
        go_roundw
        case rel => exact ⟨k + 1, by omega, by go_num, B2, HQ2⟩
        case measure => simp [intOf]; omega
      · rw [ckO_no ok] at CK
        have CK : Hid (Calls Tryz.prog 25 #[.agg (qL q).toArray] wr fun e w' => e = .returned (.int .i64 2) ∧ Below wr.heap.size wr w') := Lib.hid CK
        have HW := Lib.hid (wrongL_bad (l := l.map (·.o)) (by rw [List.length_map, ← HN.out]; exact hn2) (List.mem_map.2 ⟨q, List.mem_of_getElem? HP.out, rfl⟩) ok)
        clear ok HP HQ
        go_wp2_with (first
          | (refine wpList_load_mid rfl 34 (.tmp 15) rfl g (o + k * 10) rfl (qL q) _ HR.out Tryz.underlying34 rfl (infoq q) ?_)
          | (go_at_call 25; refine CK.out.mono ?_; rintro e w2 ⟨rfl, hb⟩; have B2 := Lib.hid (HB.out.trans (hb.mono HB.out.size)); clear hb CK))
        go_ret
        rw [HW.out]
        exact ⟨rfl, B2.out⟩
    · obtain rfl : k = n := by omega
      have hnlt : ¬ ((k : Int) < (k : Int)) := by omega
      have HW := Lib.hid (wrongL_ok (l := l.map (·.o)) (by rw [List.length_map, ← HN.out]; exact hn2) (fun o ho => by
        obtain ⟨q, hq, rfl⟩ := List.mem_map.1 ho
        obtain ⟨i, hi⟩ := List.getElem?_of_mem hq
        exact HQ.out i q (by have := (List.getElem?_eq_some_iff.1 hi).1; have := HN.out; omega) hi))
      clear HQ
      go_wp2_with fail
      go_ret
      rw [HW.out]
      exact ⟨rfl, HB.out⟩
set_option maxRecDepth 100000 in
set_option maxHeartbeats 4000000 in
theorem rcalm_any (A : Option Addr) (n c : Nat) (l : List Oq) (w : World) (hs : SlO w A l) (hn : n = l.length) (hb : n ≤ 1000000000000) :
    Calls Tryz.prog 35 #[.slice A n c] w fun e w' => e = .returned (.tuple #[.bool (calmV (l.map (·.o))).1, .int .i64 (calmV (l.map (·.o))).2]) ∧ Below w.heap.size w w' := by
  have CK := Lib.hid (rwrong_any A n c l w hs hn hb)
  by_cases h0 : wrongL (l.map (·.o)) = 0
  case neg =>
    obtain ⟨z, hz⟩ : ∃ z, z = wrongL (l.map (·.o)) := ⟨_, rfl⟩
    rw [← hz] at CK h0
    rw [calmV_no hz.symm h0]
    have e0 : (z == 0) = false := beq_eq_false_iff_ne.2 h0
    clear hz hs hn hb
    go_enter Tryz.func35, Tryz.ntmps35
    go_wp2_with (go_at_call 74; refine CK.out.mono ?_; rintro e w1 ⟨rfl, hB⟩)
    go_ret2
    exact ⟨rfl, hB⟩
  rw [h0] at CK
  rw [calmV_yes h0]
  obtain ⟨bq, hbq⟩ : ∃ b, b = (l.map (·.o)).any loud := ⟨_, rfl⟩
  rw [← hbq]
  have HBQ := Lib.hid hbq
  clear hbq
  have HS := Lib.hid hs
  have HN := Lib.hid hn
  have hn2 : n ≤ 2000 := by have := (wrongL_zero h0).1; rw [List.length_map] at this; omega
  clear hs hn hb h0
  go_enter Tryz.func35, Tryz.ntmps35
  go_wp2_with (go_at_call 74; refine CK.out.mono ?_; rintro e w1 ⟨rfl, hB⟩; have B1 := Lib.hid hB; clear hB CK)
  go_loopw [5] (fun i wr => ∃ k : Nat, k ≤ n ∧ i = .int .i64 k ∧ Hid (Below w.heap.size w wr) ∧ Hid (¬ hasP loud l k)) (fun i _ => n - (intOf i).toNat)
  case atStart => exact ⟨0, Nat.zero_le _, rfl, B1, Lib.hid (fun ⟨j, q, h, _⟩ => absurd h (Nat.not_lt_zero _))⟩
  case round =>
    obtain ⟨k, hk', rfl, HB, HQ⟩ := hrel
    by_cases hlt : k < n
    · obtain ⟨q, hq⟩ : ∃ q, l[k]? = some q := ⟨_, List.getElem?_eq_getElem (by rw [← HN.out]; exact hlt)⟩
      obtain ⟨g, o, rfl, hr, hi⟩ := (HS.out.keep HB.out) k q hq
      have x0 : wr.cell? ⟨g, o + k * 10, none⟩ = some (.int .i64 q.o.k) := hr 0 _ rfl
      have HP := Lib.hid hq
      have hltI : (k : Int) < (n : Int) := by omega
      have hwk : IntKind.i64.wrap ((k : Int) + 1) = (k : Int) + 1 := IntWalk.i64_in _ (by omega)
      have HLD : Hid (loud q.o = (q.o.k == 2 || q.o.k == 5 || q.o.k == 6)) := Lib.hid rfl
      have HY : Hid (loud q.o = true → bq = true) := Lib.hid (fun h => HBQ.out.trans <| hasP_all.1 ⟨k, q, by rw [← HN.out]; exact hlt, HP.out, h⟩)
      have HNO : Hid (loud q.o = false → ¬ hasP loud l (k + 1)) := Lib.hid (fun hf ⟨j, q', h, h2, h3⟩ => by
        by_cases e : j = k
        · subst e
          rw [HP.out] at h2
          cases h2
          rw [hf] at h3
          cases h3
        · exact HQ.out ⟨j, q', by omega, h2, h3⟩)
      clear hq hr hi HP HQ
      cases e2 : (q.o.k == 2) with
      | true =>
        have HF := Lib.hid (HY.out (by rw [HLD.out, e2]; rfl))
        go_wp2_with fail
        go_ret2
        rw [HF.out]
        exact ⟨rfl, HB.out⟩
      | false =>
        cases e5 : (q.o.k == 5) with
        | true =>
          have HF := Lib.hid (HY.out (by rw [HLD.out, e2, e5]; rfl))
          go_wp2_with fail
          go_ret2
          rw [HF.out]
          exact ⟨rfl, HB.out⟩
        | false =>
          cases e6 : (q.o.k == 6) with
          | true =>
            have HF := Lib.hid (HY.out (by rw [HLD.out, e2, e5, e6]; rfl))
            go_wp2_with fail
            go_ret2
            rw [HF.out]
            exact ⟨rfl, HB.out⟩
          | false =>
            have HF := Lib.hid (HNO.out (by rw [HLD.out, e2, e5, e6]; rfl))
            go_wp2_with fail
            go_roundw
            case rel => exact ⟨k + 1, by omega, by go_num, HB, HF⟩
            case measure => simp [intOf]; omega
    · obtain rfl : k = n := by omega
      have hnlt : ¬ ((k : Int) < (k : Int)) := by omega
      have HF : Hid (bq = false) := Lib.hid (HBQ.out.trans <| Bool.eq_false_iff.2 (fun e => HQ.out (by rw [HN.out]; exact hasP_all.2 e)))
      clear HQ
      go_wp2_with fail
      go_ret2
      rw [HF.out]
      exact ⟨rfl, HB.out⟩
theorem catL_take_le {l : List Ov} (k : Nat) : (catL (l.take k)).length ≤ (catL l).length := by
  conv => rhs; rw [← List.take_append_drop k l, catL_app, List.length_append]
  omega
set_option maxRecDepth 100000 in
set_option maxHeartbeats 4000000 in
theorem rprall_any (A : Option Addr) (n c : Nat) (l : List Oq) (w : World) (hs : SlO w A l) (hn : n = l.length) (hb : n ≤ 1000000000000) :
    Calls Tryz.prog 33 #[.slice A n c] w fun e w' => e = .returned (.tuple #[.string ⟨(prAll (l.map (·.o))).1.toArray⟩, .int .i64 (prAll (l.map (·.o))).2]) ∧ Below w.heap.size w w' := by
  have CK := Lib.hid (rwrong_any A n c l w hs hn hb)
  by_cases h0 : wrongL (l.map (·.o)) = 0
  case neg =>
    obtain ⟨z, hz⟩ : ∃ z, z = wrongL (l.map (·.o)) := ⟨_, rfl⟩
    rw [← hz] at CK h0
    rw [prAll_no hz.symm h0]
    have e0 : (z == 0) = false := beq_eq_false_iff_ne.2 h0
    clear hz hs hn hb
    go_enter Tryz.func33, Tryz.ntmps33
    go_wp2_with (go_at_call 74; refine CK.out.mono ?_; rintro e w1 ⟨rfl, hB⟩)
    go_ret2
    exact ⟨rfl, hB⟩
  rw [h0] at CK
  have HZ := Lib.hid (wrongL_zero h0)
  have HW := Lib.hid h0
  have HS := Lib.hid hs
  have HN := Lib.hid hn
  have hn2 : n ≤ 2000 := by have := (wrongL_zero h0).1; rw [List.length_map] at this; omega
  clear hs hn hb h0
  go_enter Tryz.func33, Tryz.ntmps33
  go_wp2_with (go_at_call 74; refine CK.out.mono ?_; rintro e w1 ⟨rfl, hB⟩; have B1 := Lib.hid hB; clear hB CK)
  go_loopw [5, 6] (fun s i wr => ∃ (k : Nat) (t : ByteArray), k ≤ n ∧ i = .int .i64 k ∧ s = .string t ∧ Hid (Below w.heap.size w wr) ∧ Hid (t.data.toList = catL ((l.map (·.o)).take k) ∧ t.size ≤ 65536)) (fun _ i _ => n - (intOf i).toNat)
  case atStart => exact ⟨0, ⟨#[]⟩, Nat.zero_le _, rfl, rfl, B1, Lib.hid ⟨rfl, by decide⟩⟩
  case round =>
    obtain ⟨k, t, hk', rfl, rfl, HB, HT⟩ := hrel
    by_cases hlt : k < n
    · obtain ⟨q, hq⟩ : ∃ q, l[k]? = some q := ⟨_, List.getElem?_eq_getElem (by rw [← HN.out]; exact hlt)⟩
      obtain ⟨g, o, rfl, hr, hi⟩ := (HS.out.keep HB.out) k q hq
      have ok : opOk q.o := HZ.out.2 q.o (List.mem_map.2 ⟨q, List.mem_of_getElem? hq, rfl⟩)
      have hsn : (l.map (·.o)).take (k + 1) = (l.map (·.o)).take k ++ [q.o] := by rw [List.take_add_one, List.getElem?_map, hq]; rfl
      have HR := Lib.hid hr
      have PR := roprint_any q.o q.A q.n q.m wr hi
      rw [txtO_yes ok, ckO_yes ok] at PR
      have TL := textO_len ok
      obtain ⟨tx, htx⟩ : ∃ x : ByteArray, x = ⟨(textO q.o).toArray⟩ := ⟨_, rfl⟩
      rw [← htx] at PR
      have PR : Hid (Calls Tryz.prog 23 #[.agg (qL q).toArray] wr fun e w' => e = .returned (.tuple #[.string tx, .int .i64 0]) ∧ Below wr.heap.size wr w') := Lib.hid PR
      have hxz : tx.size ≤ 2000 := by rw [htx, Lib.size_mk]; exact TL
      have htz := HT.out.2
      obtain ⟨t1, e1, z1, r1⟩ := add_ba t tx (by omega)
      obtain ⟨t2, e2, z2, r2⟩ := add_ba t1 ⟨#[10]⟩ (by show t1.size + 1 ≤ _; omega)
      have hz2 : t2.size ≤ 9223372036854775807 := by rw [z2]; show t1.size + 1 ≤ _; omega
      have HE2 : Hid (t2.data.toList = catL ((l.map (·.o)).take (k + 1))) := Lib.hid (by rw [e2.out, e1.out, HT.out.1, htx, hsn, catL_snoc])
      have hltI : (k : Int) < (n : Int) := by omega
      have hwk : IntKind.i64.wrap ((k : Int) + 1) = (k : Int) + 1 := IntWalk.i64_in _ (by omega)
      clear hq hr hi ok hsn TL htx hxz htz e1 e2 z1 z2
      by_cases hlong : 65536 < t2.size
      · have hl : (65536 : Int) < (t2.size : Int) := by omega
        have HP := Lib.hid (prAll_long HW.out (Nat.lt_of_lt_of_le (by rw [← HE2.out, szl]; exact hlong) (catL_take_le (k + 1))))
        clear hlong
        go_wp2_with (first
          | (refine wpList_load_mid rfl 34 (.tmp 23) rfl g (o + k * 10) rfl (qL q) _ HR.out Tryz.underlying34 rfl (infoq q) ?_)
          | (go_at_call 23; refine PR.out.mono ?_; rintro e w4 ⟨rfl, hb⟩; have B4 := Lib.hid (HB.out.trans (hb.mono HB.out.size)); clear hb PR))
        go_ret2
        rw [HP.out]
        exact ⟨rfl, B4.out⟩
      · have hl : ¬ ((65536 : Int) < (t2.size : Int)) := by omega
        have HT2 : Hid (t2.data.toList = catL ((l.map (·.o)).take (k + 1)) ∧ t2.size ≤ 65536) := Lib.hid ⟨HE2.out, by omega⟩
        clear hlong
        go_wp2_with (first
          | (refine wpList_load_mid rfl 34 (.tmp 23) rfl g (o + k * 10) rfl (qL q) _ HR.out Tryz.underlying34 rfl (infoq q) ?_)
          | (go_at_call 23; refine PR.out.mono ?_; rintro e w4 ⟨rfl, hb⟩; have B4 := Lib.hid (HB.out.trans (hb.mono HB.out.size)); clear hb PR))
        go_roundw
        case rel => exact ⟨k + 1, t2, by omega, by go_num, rfl, B4, HT2⟩
        case measure => simp [intOf]; omega
    · obtain rfl : k = n := by omega
      have hnlt : ¬ ((k : Int) < (k : Int)) := by omega
      have HC : Hid (t.data.toList = catL (l.map (·.o))) := Lib.hid (by have := HT.out.1; rw [List.take_of_length_le (by rw [List.length_map]; have := HN.out; omega)] at this; exact this)
      have HP := Lib.hid (prAll_yes HW.out (by rw [← HC.out, szl]; exact HT.out.2))
      go_wp2_with fail
      go_ret2
      rw [HP.out, ← HC.out]
      exact ⟨rfl, HB.out⟩
end Go.Proofs.YtojodekmmkemgaaGreatDoor
