/- ScriptMany returns true at every input. Conditions: as the statement's own. -/
import Derived.Test.YtojodekmmkemgaaGreatDoorScUse
import Derived.Test.YtojodekmmkemgaaGreatDoorScRep
namespace Go.Proofs.YtojodekmmkemgaaGreatDoor
open Go.RowKit Go.Shelf

theorem repO_one (k : Nat) (q : Oq) : (repO k [q]).map (·.o) = List.replicate k q.o := by
  rw [repO_map]
  induction k with
  | zero => rfl
  | succ k ih => rw [List.replicate_succ, List.flatten_cons, ih, List.replicate_succ]; rfl
theorem repL_tick : ∀ n : Nat, Lib.repeatL [116, 105, 99, 107, 32, 55, 10] n = endL (List.replicate n (textO tick7))
  | 0 => rfl
  | n + 1 => by
    rw [Lib.repeatL, repL_tick n, List.replicate_succ, endL_cons, tick7_text]
    rfl
theorem parse_all (s : ByteArray) (w : World) (hE : DfE w) : Calls Tryz.prog 13 #[.string s] w fun e w' => PAllR s.data.toList w e w' := by
  by_cases h : s.size ≤ 65536
  · exact pall_any s w hE h
  · exact pall_long s w (by omega)
theorem rep_calm (n : Nat) : (List.replicate n tick7).any loud = false := by
  rw [List.any_eq_false]
  intro x hx
  rw [List.eq_of_mem_replicate hx]
  decide
theorem many_le {N : Nat} (h : N ≤ 2000) : prAll (List.replicate N tick7) = (catL (List.replicate N tick7), 0) ∧ (catL (List.replicate N tick7)).length = 7 * N ∧ calmV (List.replicate N tick7) = (true, 0) ∧ paTop (manyL N) = (List.replicate N tick7, 0, 0) := by
  have h1 : wrongL (List.replicate N tick7) = 0 := wrongL_ok (by rw [List.length_replicate]; exact h) (rep_ok tick7_ok N)
  have h2 : (catL (List.replicate N tick7)).length = 7 * N := by rw [catL_rep, tick7_text]; rfl
  refine ⟨prAll_yes h1 (by omega), h2, by rw [calmV_yes h1, rep_calm]; rfl, ?_⟩
  unfold paTop
  rw [if_neg (by rw [manyL_len]; omega), manyL_read h]
theorem many_gt {N : Nat} (h : N = 2001) : prAll (List.replicate N tick7) = ([], 12) ∧ calmV (List.replicate N tick7) = (false, 12) ∧ paTop (manyL N) = ([], 2001, 12) := by
  have h1 : wrongL (List.replicate N tick7) = 12 := wrongL_many (by rw [List.length_replicate]; omega)
  refine ⟨prAll_no h1 (by decide), calmV_no h1 (by decide), ?_⟩
  unfold paTop
  rw [if_neg (by rw [manyL_len]; omega), manyL_over (by omega)]
theorem long_le : prAll (List.replicate 1985 longO) = (catL (List.replicate 1985 longO), 0) ∧ (catL (List.replicate 1985 longO)).length = 65505 := by
  have h2 : (catL (List.replicate 1985 longO)).length = 65505 := by rw [catL_rep, longO_len]
  exact ⟨prAll_yes (wrongL_ok (by rw [List.length_replicate]; decide) (rep_ok longO_ok _)) (by omega), h2⟩
theorem long_gt : prAll (List.replicate 1986 longO) = ([], 11) := by
  have h2 : (catL (List.replicate 1986 longO)).length = 65538 := by rw [catL_rep, longO_len]
  exact prAll_long (wrongL_ok (by rw [List.length_replicate]; decide) (rep_ok longO_ok _)) (by omega)
theorem hash_top {n : Nat} (h : 65536 < n) : paTop (List.replicate n 35) = ([], 0, 11) := if_pos (by rw [List.length_replicate]; exact h)
theorem long_z : OpZ longO := ⟨by unfold In64; decide, by unfold In64; decide, by unfold In64; decide, Nat.zero_le _, by decide, by decide⟩
def q7 : Oq := ⟨tick7, none, 0, 0⟩
def ql : Oq := ⟨longO, none, 0, 0⟩
/-- A list of one operation without steps, new. -/
theorem one_slO (w : World) (q : Oq) (cs : Array Value) (hc : cs = (qL q).toArray) (hd : q.o.d = zeroD) (hA : q.A = none) (hn : q.n = 0) (hm : q.m = 0) (hz : OpZ q.o) : SlO (w.alloc (.cells cs 34)) (some ⟨w.heap.size, 0, none⟩) [q] := by
  intro i p hi
  match i with
  | 0 =>
    cases hi
    refine ⟨w.heap.size, 0, rfl, fun j v hj => ?_, ⟨by rw [hd, hA, hn, hm]; exact defAt_zeroO _, hz⟩⟩
    rw [(Whole.new w 34 cs).cell, hc, List.getElem?_toArray, show 0 + 0 * 10 + j = j by omega]
    exact hj
  | i + 1 => simp at hi
theorem long_rep (n : Nat) (W : World) (hn : n ≤ 2000) : Calls Tryz.prog 31 #[.slice (some ⟨W.heap.size, 0, none⟩) 1 1, .int .i64 (n : Int)] (W.alloc (.cells (oA longO none 0 0) 34)) fun e w' => (∃ g, e = .returned (.slice (some ⟨g, 0, none⟩) n n) ∧ SlO w' (some ⟨g, 0, none⟩) (repO n [ql])) ∧ Below W.heap.size W w' := by
  have h1 := one_slO W ql (oA longO none 0 0) (by rfl) rfl rfl rfl rfl long_z
  have h2 := repeat_any (some ⟨W.heap.size, 0, none⟩) 1 1 [ql] n _ h1 rfl (by show 1 * n ≤ _; omega) (by decide) (by omega)
  have h3 : (repO n [ql]).length = n := by rw [repO_len]; show 1 * n = n; omega
  rw [h3] at h2
  have b1 := (Below.refl W.heap.size W).alloc (Nat.le_refl _) (.cells (oA longO none 0 0) 34)
  exact h2.mono (fun e w' ⟨⟨g, he, _, hs⟩, hb⟩ => ⟨⟨g, he, hs⟩, b1.trans (hb.mono b1.size)⟩)
/-- The answers at so many ticks. -/
def ManyR (N r : Nat) (want : Int) (cb : Bool) (sB : ByteArray) (Ln mm : Nat) : Prop :=
  sB.data.toList = (prAll (List.replicate N tick7)).1 ∧ (prAll (List.replicate N tick7)).2 = want ∧ calmV (List.replicate N tick7) = (cb, want) ∧ (paTop (manyL N)).1.length = Ln ∧ (paTop (manyL N)).2 = (mm, want) ∧
  ((r ≤ 2 ∧ want = 0 ∧ cb = true ∧ sB.size = 7 * N ∧ Ln = N ∧ mm = 0) ∨ (r = 3 ∧ want = 12 ∧ cb = false ∧ sB = ⟨#[]⟩ ∧ Ln = 0 ∧ mm = 2001))
theorem manyR_of {N r : Nat} (hN : N = 1998 + r) (hr : r < 4) : ∃ want cb sB Ln mm, ManyR N r want cb sB Ln mm := by
  by_cases h : r ≤ 2
  · obtain ⟨h1, h2, h3, h4⟩ := many_le (N := N) (by omega)
    refine ⟨0, true, ⟨(catL (List.replicate N tick7)).toArray⟩, N, 0, ?_, by rw [h1], h3, by rw [h4]; simp, by rw [h4], Or.inl ⟨h, rfl, rfl, ?_, rfl, rfl⟩⟩
    · rw [h1]
    · rw [Lib.size_mk, h2]
  · obtain ⟨h1, h3, h4⟩ := many_gt (N := N) (by omega)
    exact ⟨12, false, ⟨#[]⟩, 0, 2001, by rw [h1], by rw [h1], h3, by rw [h4]; rfl, by rw [h4], Or.inr ⟨by omega, rfl, rfl, rfl, rfl, rfl⟩⟩
set_option maxRecDepth 100000 in
set_option maxHeartbeats 8000000 in
theorem scriptMany_any (m : Nat) (hm : m ≤ 255) (w : World) (hE : DfE w) :
    Calls Tryz.prog 10 #[.int .u8 (m : Int)] w fun e w' => e = .returned (.bool true) ∧ Below w.heap.size w w' := by
  have HE := Lib.hid hE
  obtain ⟨r, hr⟩ : ∃ r : Nat, r = m % 4 := ⟨_, rfl⟩
  have hr4 : r < 4 := by omega
  have htm : (m : Int).tmod 4 = (r : Int) := by rw [Int.tmod_eq_emod_of_nonneg (by omega)]; omega
  obtain ⟨kI, hk⟩ : ∃ k : Int, k = (r : Int) - 2 := ⟨_, rfl⟩
  obtain ⟨N, hN⟩ : ∃ N : Nat, N = 1998 + r := ⟨_, rfl⟩
  obtain ⟨Z, hZ⟩ : ∃ Z : Nat, Z = 65537 + m := ⟨_, rfl⟩
  have hw1 : IntKind.i64.wrap (r : Int) = (r : Int) := IntWalk.i64_in _ (by omega)
  have hw2 : IntKind.i64.wrap ((r : Int) - 2) = kI := by rw [IntWalk.i64_in _ (by omega)]; exact hk.symm
  have hw3 : IntKind.i64.wrap (2000 + kI) = (N : Int) := by rw [IntWalk.i64_in _ (by omega)]; omega
  have hw4 : IntKind.i64.wrap (m : Int) = (m : Int) := IntWalk.i64_in _ (by omega)
  have hw5 : IntKind.i64.wrap (65537 + (m : Int)) = (Z : Int) := by rw [IntWalk.i64_in _ (by omega)]; omega
  obtain ⟨want, cb, sB, Ln, mm, hR⟩ := manyR_of hN hr4
  obtain ⟨hR1, hR2, hR3, hR4, hR5, hR6⟩ := hR
  have HC := Lib.hid hR6
  have RP : Hid (Calls Tryz.prog 31 #[.slice (some ⟨w.heap.size, 0, none⟩) 1 1, .int .i64 (N : Int)] (w.alloc (.cells #[.int .i64 4, .int .i64 7, .int .i64 0, .string ⟨#[]⟩, .string ⟨#[]⟩, .string ⟨#[]⟩, .string ⟨#[]⟩, .int .i64 0, .int .i64 0, .slice none 0 0] 34)) fun e w' => (∃ g, e = .returned (.slice (some ⟨g, 0, none⟩) N N) ∧ SlO w' (some ⟨g, 0, none⟩) (repO N [q7])) ∧ Below w.heap.size w w') := Lib.hid (by
    have h1 := one_slO w q7 #[.int .i64 4, .int .i64 7, .int .i64 0, .string ⟨#[]⟩, .string ⟨#[]⟩, .string ⟨#[]⟩, .string ⟨#[]⟩, .int .i64 0, .int .i64 0, .slice none 0 0] rfl rfl rfl rfl rfl (opok_z (k := 4) (n := 7) (by decide) (by decide))
    have h2 := repeat_any (some ⟨w.heap.size, 0, none⟩) 1 1 [q7] N _ h1 rfl (by show 1 * N ≤ _; omega) (by decide) (by omega)
    have h3 : (repO N [q7]).length = N := by rw [repO_len]; show 1 * N = N; omega
    rw [h3] at h2
    have b1 := (Below.refl w.heap.size w).alloc (Nat.le_refl _) (.cells #[.int .i64 4, .int .i64 7, .int .i64 0, .string ⟨#[]⟩, .string ⟨#[]⟩, .string ⟨#[]⟩, .string ⟨#[]⟩, .int .i64 0, .int .i64 0, .slice none 0 0] 34)
    exact h2.mono (fun e w' ⟨⟨g, he, _, hs⟩, hb⟩ => ⟨⟨g, he, hs⟩, b1.trans (hb.mono b1.size)⟩))
  have PA : Hid (∀ (g : Nat) (W : World), DfE W → SlO W (some ⟨g, 0, none⟩) (repO N [q7]) → Calls Tryz.prog 12 #[.slice (some ⟨g, 0, none⟩) N N] W fun e w' => e = .returned (.tuple #[.string sB, .int .i64 want]) ∧ Below W.heap.size W w') := Lib.hid (fun g W hW hs => by
    have h := prall_any (some ⟨g, 0, none⟩) N N (repO N [q7]) W hW hs (by rw [repO_len]; show N = 1 * N; omega) (by omega)
    rw [repO_one, show q7.o = tick7 from rfl, ← hR1, hR2, ba_eta] at h
    exact h)
  have CA : Hid (∀ (g : Nat) (W : World), SlO W (some ⟨g, 0, none⟩) (repO N [q7]) → Calls Tryz.prog 34 #[.slice (some ⟨g, 0, none⟩) N N] W fun e w' => e = .returned (.tuple #[.bool cb, .int .i64 want]) ∧ Below W.heap.size W w') := Lib.hid (fun g W hs => by
    have h := calm_any (some ⟨g, 0, none⟩) N N (repO N [q7]) W hs (by rw [repO_len]; show N = 1 * N; omega) (by omega)
    rw [repO_one, show q7.o = tick7 from rfl, hR3] at h
    exact h)
  have RS := fun W => Tryz.strings_Repeat ⟨#[116, 105, 99, 107, 32, 55, 10]⟩ N W (by omega) (by show 7 * N ≤ _; omega)
  rw [show (⟨#[116, 105, 99, 107, 32, 55, 10]⟩ : ByteArray).data.toList = [116, 105, 99, 107, 32, 55, 10] from rfl, repL_tick] at RS
  have hlen1 : (endL (List.replicate N (textO tick7))).length = 7 * N := by rw [endL_rep, tick7_text]; rfl
  obtain ⟨tM, e2, _, hadd⟩ := add_ba ⟨(endL (List.replicate N (textO tick7))).toArray⟩ ⟨#[35, 10]⟩ (by rw [Lib.size_mk, hlen1]; show 7 * N + 2 ≤ _; omega)
  have e3 : tM.data.toList = manyL N := by rw [e2.out]; rfl
  have PS : Hid (∀ W : World, DfE W → Calls Tryz.prog 13 #[.string tM] W fun e w' => (∃ A c, e = .returned (.tuple #[.slice A Ln c, .int .i64 (mm : Int), .int .i64 want])) ∧ Below W.heap.size W w') := Lib.hid (fun W hW => (parse_all tM W hW).mono (fun e w' ⟨l, A, c, m', er, he, hp, _, _, hb⟩ => by
    rw [e3] at hp
    have h4 : l.length = Ln := by rw [← hR4, hp]; simp
    have h5 := hR5
    rw [hp] at h5
    obtain ⟨h6, h7⟩ := Prod.mk.inj h5
    have h6 : m' = mm := h6
    have h7 : er = want := h7
    rw [h4, h6, h7] at he
    exact ⟨⟨A, c, he⟩, hb⟩))
  clear e2 e3 hlen1 hR1 hR2 hR3 hR4 hR5 hR6
  generalize (⟨(endL (List.replicate N (textO tick7))).toArray⟩ : ByteArray) = tN at RS hadd
  have RS := Lib.hid RS
  obtain ⟨oc, hoc⟩ : ∃ oc, oc = oA longO none 0 0 := ⟨_, rfl⟩
  have RL1985 : Hid (∀ W : World, Calls Tryz.prog 31 #[.slice (some ⟨W.heap.size, 0, none⟩) 1 1, .int .i64 1985] (W.alloc (.cells oc 34)) fun e w' => (∃ g, e = .returned (.slice (some ⟨g, 0, none⟩) 1985 1985) ∧ SlO w' (some ⟨g, 0, none⟩) (repO 1985 [ql])) ∧ Below W.heap.size W w') := Lib.hid (fun W => by
    rw [hoc]
    exact long_rep 1985 W (by decide))
  have RL1986 : Hid (∀ W : World, Calls Tryz.prog 31 #[.slice (some ⟨W.heap.size, 0, none⟩) 1 1, .int .i64 1986] (W.alloc (.cells oc 34)) fun e w' => (∃ g, e = .returned (.slice (some ⟨g, 0, none⟩) 1986 1986) ∧ SlO w' (some ⟨g, 0, none⟩) (repO 1986 [ql])) ∧ Below W.heap.size W w') := Lib.hid (fun W => by
    rw [hoc]
    exact long_rep 1986 W (by decide))
  obtain ⟨sL, hsL⟩ : ∃ s : ByteArray, s.data.toList = catL (List.replicate 1985 longO) := ⟨⟨(catL (List.replicate 1985 longO)).toArray⟩, rfl⟩
  have hszL : (sL.size : Int) = 65505 := by rw [← size_list, hsL, long_le.2]; rfl
  have PL : Hid (∀ (g : Nat) (W : World), DfE W → SlO W (some ⟨g, 0, none⟩) (repO 1985 [ql]) → Calls Tryz.prog 12 #[.slice (some ⟨g, 0, none⟩) 1985 1985] W fun e w' => e = .returned (.tuple #[.string sL, .int .i64 0]) ∧ Below W.heap.size W w') := Lib.hid (fun g W hW hs => by
    have h := prall_any (some ⟨g, 0, none⟩) 1985 1985 (repO 1985 [ql]) W hW hs (by rw [repO_len]; rfl) (by omega)
    rw [repO_one, show ql.o = longO from rfl, long_le.1, ← hsL, ba_eta] at h
    exact h)
  have PM : Hid (∀ (g : Nat) (W : World), DfE W → SlO W (some ⟨g, 0, none⟩) (repO 1986 [ql]) → Calls Tryz.prog 12 #[.slice (some ⟨g, 0, none⟩) 1986 1986] W fun e w' => e = .returned (.tuple #[.string ⟨#[]⟩, .int .i64 11]) ∧ Below W.heap.size W w') := Lib.hid (fun g W hW hs => by
    have h := prall_any (some ⟨g, 0, none⟩) 1986 1986 (repO 1986 [ql]) W hW hs (by rw [repO_len]; rfl) (by omega)
    rw [repO_one, show ql.o = longO from rfl, long_gt] at h
    exact h)
  obtain ⟨tL, htL⟩ : ∃ t : ByteArray, t.data.toList = textO longO := ⟨⟨(textO longO).toArray⟩, rfl⟩
  have hszT : (tL.size : Int) = 32 := by rw [← size_list, htL, longO_len]; rfl
  have PT : Hid (∀ W : World, DfE W → Calls Tryz.prog 22 #[.agg oc] W fun e w' => e = .returned (.tuple #[.string tL, .int .i64 0]) ∧ Below W.heap.size W w') := Lib.hid (fun W hW => by
    rw [hoc]
    exact print_ok longO none 0 0 W hW ⟨defAt_zeroO W, long_z⟩ longO_ok tL htL)
  have hinf : (Tryz.prog.info? 34).map (·.size) = some oc.size := by rw [hoc]; exact info10 _ _ _ _
  have hsz10 : oc.size = 10 := by rw [hoc]; rfl
  have hfold : Array.foldl (fun (cs : Array Value) (x : Value × Nat) => cs.setIfInBounds x.snd x.fst) #[.int .i64 0, .int .i64 0, .int .i64 0, .string ⟨#[]⟩, .string ⟨#[]⟩, .string ⟨#[]⟩, .string ⟨#[]⟩, .int .i64 0, .int .i64 0, .slice none 0 0] oc.zipIdx 0 10 = oc := by rw [hoc]; kernel_rfl
  have hlit : (#[.int .i64 12, .int .i64 10, .int .i64 1, .string ⟨#[]⟩, .string ⟨#[97, 97, 97, 97, 97, 97, 97, 97, 97, 97]⟩, .string ⟨#[98, 98, 98, 98, 98, 98, 98, 98, 98]⟩, .string ⟨#[]⟩, .int .i64 0, .int .i64 0, .slice none 0 0] : Array Value) = oc := by rw [hoc]; rfl
  have HLIT := Lib.hid hlit
  have RH := fun W => Tryz.strings_Repeat ⟨#[35]⟩ Z W (by omega) (by show 1 * Z ≤ _; omega)
  rw [show (⟨#[35]⟩ : ByteArray).data.toList = [35] from rfl, repeatL_byte] at RH
  obtain ⟨tH, htH⟩ : ∃ t : ByteArray, t = ⟨(List.replicate Z 35).toArray⟩ := ⟨_, rfl⟩
  have PH : Hid (∀ W : World, DfE W → Calls Tryz.prog 13 #[.string tH] W fun e w' => (∃ A c, e = .returned (.tuple #[.slice A 0 c, .int .i64 0, .int .i64 11])) ∧ Below W.heap.size W w') := Lib.hid (fun W hW => (parse_all tH W hW).mono (fun e w' ⟨l, A, c, m', er, he, hp, _, _, hb⟩ => by
    rw [htH, show (⟨(List.replicate Z (35 : UInt8)).toArray⟩ : ByteArray).data.toList = List.replicate Z 35 from rfl, hash_top (by omega)] at hp
    obtain ⟨h5, h6⟩ := Prod.mk.inj hp
    obtain ⟨h6, h7⟩ := Prod.mk.inj h6
    have h4 := congrArg List.length h5
    rw [List.length_map] at h4
    rw [← h4, ← h6, ← h7] at he
    exact ⟨⟨A, c, he⟩, hb⟩))
  rw [← htH] at RH
  have RH := Lib.hid RH
  have WK := Lib.hid (fun (W : World) (hb : Below w.heap.size w W) => works_any W (hE.keep hb))
  have HK := Lib.hid (And.intro hk (And.intro hN hr4))
  clear hE hr hk hN hZ hsL htL htH hr4 hm hoc hlit
  go_enter Tryz.func10, Tryz.ntmps10
  go_upto_if 28 with fail
  go_cut [4] from 28 to 28 (fun s4 wx => s4 = .int .i64 want ∧ w = wx)
  case first =>
    rcases HC.out with ⟨h1, h2, _⟩ | ⟨h1, h2, _⟩
    · have h3 : ¬ (0 < kI) := by have := HK.out.1; omega
      have H2 := Lib.hid h2
      clear h1 h2
      go_wp2_with fail
      go_meet
      case rel => exact ⟨by rw [H2.out], rfl⟩
    · have h3 : 0 < kI := by have := HK.out.1; omega
      have H2 := Lib.hid h2
      clear h1 h2
      go_wp2_with fail
      go_meet
      case rel => exact ⟨by rw [H2.out], rfl⟩
  case rest =>
  obtain ⟨rfl, rfl⟩ := hcut
  go_upto_region 6 with (go_at_call 31; refine RP.out.mono ?_; rintro e w2 ⟨⟨g, rfl, hs⟩, hb⟩; have B2 := Lib.hid hb; have S2 := Lib.hid hs; have P2 := Lib.hid (PA.out g w2 (HE.out.keep hb) hs); clear hs hb RP PA)
  go_upto_region 7 with (go_at_call 12; refine P2.out.mono ?_; rintro e w3 ⟨rfl, hb⟩; have B3 := Lib.hid (B2.out.trans (hb.mono B2.out.size)); have C3 := Lib.hid (CA.out g w3 (S2.out.keep hb)); clear hb P2 CA)
  go_upto_region 8 with (go_at_call 34; refine C3.out.mono ?_; rintro e w4 ⟨rfl, hb⟩; have B4 := Lib.hid (B3.out.trans (hb.mono B3.out.size)); have R4 := Lib.hid (RS.out w4); clear hb C3 S2 RS)
  go_upto_region 9 with (first
    | (go_at_call 37; refine R4.out.mono ?_; rintro e w5 ⟨rfl, hb⟩; have B5 := Lib.hid (B4.out.trans (hb.mono B4.out.size)); have P5 := Lib.hid (PS.out w5 (HE.out.keep B5.out)); clear hb R4 PS)
    | (go_at_call 13; refine P5.out.mono ?_; rintro e w6 ⟨⟨A6, c6, rfl⟩, hb⟩; have B6 := Lib.hid (B5.out.trans (hb.mono B5.out.size)); clear hb P5))
  clear hadd
  go_cut [109] from 53 to 109 (fun s109 wx => s109 = .bool false ∧ w6 = wx)
  case first =>
    rcases HC.out with ⟨h1, h2, h3, h4, h5, h6⟩ | ⟨h1, h2, h3, h4, h5, h6⟩
    · have g1 : ¬ (0 < kI) := by have := HK.out.1; omega
      have g2 : kI ≤ 0 := by omega
      have hN3 := HK.out.2.1
      have g3 : IntKind.i64.wrap (7 * (N : Int)) = (sB.size : Int) := by rw [IntWalk.i64_in _ (by omega)]; omega
      subst h2 h3 h5 h6
      clear h1 h4 hN3 HK HC
      go_wp2_with fail
      go_meet
      case rel => exact ⟨by simp, rfl⟩
    · have g1 : kI = 1 := by have := HK.out.1; omega
      subst h2 h3 h4 h5 h6
      subst g1
      clear h1 HK HC
      go_wp2_with fail
      go_meet
      case rel => exact ⟨by simp, rfl⟩
  case rest =>
  obtain ⟨rfl, rfl⟩ := hcut
  clear HC HK hw1 hw2 hw3
  go_upto_region 12 with fail
  rw [HLIT.out]
  have B7 := Lib.hid (B6.out.alloc B6.out.size (.cells oc 34))
  have O7 := Lib.hid (Whole.new w6 34 oc)
  generalize w6.alloc (.cells oc 34) = w7 at B7 O7 ⊢
  generalize w6.heap.size = R at O7 ⊢
  have P7 := Lib.hid (PT.out w7 (HE.out.keep B7.out))
  go_upto_region 13 with (first
    | (refine wpList_load_row (by rfl) 34 (.tmp 13) (by rfl) R (by rfl) 34 oc (0, 0) _ O7.out Tryz.underlying34 (by rfl) hinf ?_)
    | (go_at_call 22; refine P7.out.mono ?_; rintro e w8 ⟨rfl, hb⟩; have B8 := Lib.hid (B7.out.trans (hb.mono B7.out.size)); have O8 := Lib.hid (O7.out.keep hb); have R8 := Lib.hid (RL1985.out w8); clear hb P7 PT RL1985))
  go_upto_region 14 with (first
    | (refine wpList_load_row (by rfl) 34 (.tmp 13) (by rfl) R (by rfl) 34 oc (0, 0) _ O8.out Tryz.underlying34 (by rfl) hinf ?_)
    | (go_at_call 31; refine R8.out.mono ?_; rintro e w9 ⟨⟨g9, rfl, hs⟩, hb⟩; have B9 := Lib.hid (B8.out.trans (hb.mono B8.out.size)); have O9 := Lib.hid (O8.out.keep hb); have P9 := Lib.hid (PL.out g9 w9 (HE.out.keep B9.out) hs); clear hb hs R8 PL)
    | (go_at_call 12; refine P9.out.mono ?_; rintro e w10 ⟨rfl, hb⟩; have B10 := Lib.hid (B9.out.trans (hb.mono B9.out.size)); have O10 := Lib.hid (O9.out.keep hb); have R10 := Lib.hid (RL1986.out w10); clear hb P9 RL1986))
  go_upto_region 15 with (first
    | (refine wpList_load_row (by rfl) 34 (.tmp 13) (by rfl) R (by rfl) 34 oc (0, 0) _ O10.out Tryz.underlying34 (by rfl) hinf ?_)
    | (go_at_call 31; refine R10.out.mono ?_; rintro e w11 ⟨⟨g11, rfl, hs⟩, hb⟩; have B11 := Lib.hid (B10.out.trans (hb.mono B10.out.size)); have P11 := Lib.hid (PM.out g11 w11 (HE.out.keep B11.out) hs); clear hb hs R10 PM)
    | (go_at_call 12; refine P11.out.mono ?_; rintro e w12 ⟨rfl, hb⟩; have B12 := Lib.hid (B11.out.trans (hb.mono B11.out.size)); have R12 := Lib.hid (RH.out w12); clear hb P11 RH))
  clear hfold hsz10 hinf
  go_wp2_with (first
    | (go_at_call 37; refine R12.out.mono ?_; rintro e w13 ⟨rfl, hb⟩; have B13 := Lib.hid (B12.out.trans (hb.mono B12.out.size)); have P13 := Lib.hid (PH.out w13 (HE.out.keep B13.out)); clear hb R12 PH)
    | (go_at_call 13; refine P13.out.mono ?_; rintro e w14 ⟨⟨A14, c14, rfl⟩, hb⟩; have B14 := Lib.hid (B13.out.trans (hb.mono B13.out.size)); have W1 := Lib.hid (WK.out w14 B14.out); clear hb P13)
    | (go_at_call 20; refine W1.out.mono ?_; rintro e w15 ⟨rfl, hb⟩; have B15 := Lib.hid (B14.out.trans (hb.mono B14.out.size)); clear hb W1))
  go_ret
  exact ⟨rfl, B15.out⟩
end Go.Proofs.YtojodekmmkemgaaGreatDoor
