/- ScriptLists returns true at every input. Conditions: as the statement's own. -/
import Derived.Test.YtojodekmmkemgaaGreatDoorScLit
import Derived.Test.YtojodekmmkemgaaGreatDoorScRLs
import Derived.Test.YtojodekmmkemgaaGreatDoorScSam
import Derived.Test.YtojodekmmkemgaaGreatDoorScWk
namespace Go.Proofs.YtojodekmmkemgaaGreatDoor
open Go.RowKit Go.Shelf

set_option maxRecDepth 100000 in
set_option maxHeartbeats 8000000 in
theorem scriptLists_any (A : Option Addr) (n c : Nat) (l : List Oq) (p : Nat) (w : World) (hE : DfE w) (hs : SlOw w A l) (hn : l.length = n) (hnc : n ≤ c) (hbg : n ≤ 9223372036854775807) (hp : p ≤ 255) :
    Calls Tryz.prog 6 #[.slice A n c, .int .u8 (p : Int)] w fun e w' => e = .returned (.bool true) ∧ Below w.heap.size w w' := by
  have HE := Lib.hid (fun (W : World) (hb : Below w.heap.size w W) => hE.keep hb)
  have WK := Lib.hid (fun (W : World) (hb : Below w.heap.size w W) => works_any W (hE.keep hb))
  have LI := Lib.hid (light_any 100 A n c l w hs hn hnc hbg (by decide))
  obtain ⟨r, hr⟩ : ∃ r : Nat, r = p % 30 := ⟨_, rfl⟩
  have hr30 : r < 30 := by omega
  have hw1 : IntKind.i64.wrap (p : Int) = (p : Int) := IntWalk.i64_in _ (by omega)
  have htr : (p : Int).tmod 30 = (r : Int) := by rw [Int.tmod_eq_emod_of_nonneg (by omega)]; omega
  have hw2 : IntKind.i64.wrap (1 + (r : Int)) = ((r + 1 : Nat) : Int) := by rw [IntWalk.i64_in _ (by omega)]; omega
  have HS := Lib.hid hs
  have HN := Lib.hid hn
  have HR := Lib.hid hr30
  clear hE hs hn hnc hbg hp hr hr30
  go_enter Tryz.func6, Tryz.ntmps6
  go_upto_if 17 with (go_at_call 21; refine LI.out.mono ?_; rintro e w2 ⟨⟨(_ | _), rfl, hq⟩, hb⟩; all_goals (have B2 := Lib.hid hb; have HQ := Lib.hid hq; clear hb hq LI; have WK1 := Lib.hid (WK.out w2 B2.out)))
  · go_wp2_with (go_at_call 20; refine WK1.out.mono ?_; rintro e w3 ⟨rfl, hb⟩; have HF := Lib.hid (B2.out.trans (hb.mono B2.out.size)); clear hb)
    go_ret
    exact ⟨rfl, HF.out⟩
  have hq := HQ.out (by trivial)
  have hn100 : n ≤ 100 := by have := hq.1; have := HN.out; omega
  have S2 := Lib.hid ((HS.out.keep B2.out).small (fun x hx => Nat.le_trans (hq.2 x hx) (by decide)))
  have hln : l.length = n := HN.out
  have hNN : n * (r + 1) ≤ 100 * 30 := Nat.mul_le_mul hn100 (by have := HR.out; omega)
  obtain ⟨L, hL⟩ : ∃ L, L = repO (r + 1) l := ⟨_, rfl⟩
  obtain ⟨N, hN⟩ : ∃ N, N = L.length := ⟨_, rfl⟩
  have hN3 : N ≤ 3000 := by rw [hN, hL, repO_len, hln]; omega
  have RP := repeat_any A n c l (r + 1) w2 S2.out hln.symm (by rw [hln]; omega) (by omega) (by have := HR.out; omega)
  rw [← hL, ← hN] at RP
  have RP := Lib.hid RP
  have HNL := Lib.hid (And.intro hN.symm hN3)
  clear hq hn100 hln hNN hL hN hN3 WK1 HQ S2 HS HN HR
  go_upto_region 4 with (go_at_call 31; refine RP.out.mono ?_; rintro e w3 ⟨⟨g, rfl, _, hs⟩, hb⟩; have I3 := Lib.hid (And.intro (B2.out.trans (hb.mono B2.out.size)) hs); clear hb hs RP)
  clear B2 hw1 htr hw2
  have CL := Lib.hid (oclone_any g N N L w3 I3.out.2 HNL.out.1 (by have := HNL.out.2; omega))
  go_upto_region 5 with (go_at_call 32; refine CL.out.mono ?_; rintro e w4 ⟨⟨A4, c4, rfl, hs⟩, hb⟩; have I4 := Lib.hid (And.intro (I3.out.1.trans (hb.mono I3.out.1.size)) (And.intro (I3.out.2.keep hb) hs)); clear hb hs CL)
  clear I3
  obtain ⟨os, hos⟩ : ∃ os, os = L.map (·.o) := ⟨_, rfl⟩
  obtain ⟨tx, htx⟩ : ∃ t : ByteArray, t = ⟨(prAll os).1.toArray⟩ := ⟨_, rfl⟩
  obtain ⟨e1, he1⟩ : ∃ e, e = (prAll os).2 := ⟨_, rfl⟩
  obtain ⟨cb, hcb⟩ : ∃ e, e = (calmV os).1 := ⟨_, rfl⟩
  obtain ⟨e2, he2⟩ : ∃ e, e = (calmV os).2 := ⟨_, rfl⟩
  have PR := fun (W : World) (hE : DfE W) (hs : SlO W A4 L) => prall_any A4 N c4 L W hE hs HNL.out.1.symm (by have := HNL.out.2; omega)
  have RPR := fun (W : World) (hs : SlO W (some ⟨g, 0, none⟩) L) => rprall_any (some ⟨g, 0, none⟩) N N L W hs HNL.out.1.symm (by have := HNL.out.2; omega)
  have CM := fun (W : World) (hs : SlO W A4 L) => calm_any A4 N c4 L W hs HNL.out.1.symm (by have := HNL.out.2; omega)
  have RCM := fun (W : World) (hs : SlO W (some ⟨g, 0, none⟩) L) => rcalm_any (some ⟨g, 0, none⟩) N N L W hs HNL.out.1.symm (by have := HNL.out.2; omega)
  rw [← hos, ← htx, ← he1] at PR RPR
  rw [← hos, ← hcb, ← he2] at CM RCM
  have SM := Lib.hid (fun (W : World) (hs : SlO W A4 L) (hs2 : SlO W (some ⟨g, 0, none⟩) L) => same_any A4 (some ⟨g, 0, none⟩) N c4 N L L W hs hs2 HNL.out.1 rfl (by have := HNL.out.2; omega))
  have PR := Lib.hid PR
  have RPR := Lib.hid RPR
  have CM := Lib.hid CM
  have RCM := Lib.hid RCM
  clear hos htx he1 hcb he2
  go_upto_region 6 with (go_at_call 12; refine (PR.out _ (HE.out _ I4.out.1) I4.out.2.2).mono ?_; rintro e w5 ⟨rfl, hb⟩; have I5 := Lib.hid (And.intro (I4.out.1.trans (hb.mono I4.out.1.size)) (And.intro (I4.out.2.1.keep hb) (I4.out.2.2.keep hb))); clear hb PR)
  clear I4
  go_upto_region 7 with (go_at_call 33; refine (RPR.out _ I5.out.2.1).mono ?_; rintro e w6 ⟨rfl, hb⟩; have I6 := Lib.hid (And.intro (I5.out.1.trans (hb.mono I5.out.1.size)) (And.intro (I5.out.2.1.keep hb) (I5.out.2.2.keep hb))); clear hb RPR)
  clear I5
  go_upto_region 8 with (go_at_call 34; refine (CM.out _ I6.out.2.2).mono ?_; rintro e w7 ⟨rfl, hb⟩; have I7 := Lib.hid (And.intro (I6.out.1.trans (hb.mono I6.out.1.size)) (And.intro (I6.out.2.1.keep hb) (I6.out.2.2.keep hb))); clear hb CM)
  clear I6
  go_upto_region 9 with (go_at_call 35; refine (RCM.out _ I7.out.2.1).mono ?_; rintro e w8 ⟨rfl, hb⟩; have I8 := Lib.hid (And.intro (I7.out.1.trans (hb.mono I7.out.1.size)) (And.intro (I7.out.2.1.keep hb) (I7.out.2.2.keep hb))); clear hb RCM)
  clear I7
  have h1 : (tx.toList == tx.toList) = true := beq_self_eq_true _
  have h2 : (e1 == e1) = true := beq_self_eq_true _
  have h3 : (cb == cb) = true := beq_self_eq_true _
  have h4 : (e2 == e2) = true := beq_self_eq_true _
  go_wp2_with (first
    | (go_at_call 14; refine (SM.out _ I8.out.2.2 I8.out.2.1).mono ?_; rintro e w9 ⟨rfl, hb⟩; have B9 := Lib.hid (I8.out.1.trans (hb.mono I8.out.1.size)); have W9 := Lib.hid (WK.out _ B9.out); clear hb SM)
    | (go_at_call 20; refine W9.out.mono ?_; rintro e w10 ⟨rfl, hb⟩; have BF := Lib.hid (B9.out.trans (hb.mono B9.out.size)); clear hb))
  go_ret
  exact ⟨rfl, BF.out⟩
end Go.Proofs.YtojodekmmkemgaaGreatDoor
