/- Refused calls change nothing; copies and lists can be changed alone. Condition: the list of moves lies ahead. -/
import Derived.Test.YtkkkppbcjmeapaaDoorPtSty
namespace Go.Proofs.YtkkkppbcjmeapaaDoor
open Go.RowKit

theorem owner_err {d : List Pt} {x y : ByteArray} (hd : d ≠ []) (hr : okR x y = true) : (ownerV d x y).2.2 = 0 := by
  unfold ownerV
  rw [if_neg hd, if_neg (by rw [hr]; decide)]
  split <;> rfl
theorem mv_arg {d : List Pt} {x y : ByteArray} {g : Int} (hd : d ≠ []) (hr : okR x y = true) (hg : ¬ (1 ≤ g ∧ g < 8)) : moveV d x y g = (0, 2, d) := by
  unfold moveV
  rw [if_neg (by rw [owner_err hd hr]; decide), if_pos hg]
theorem mv_bad {d : List Pt} {x y : ByteArray} {g : Int} (hd : d ≠ []) (hr : okR x y = false) : moveV d x y g = (0, 2, d) := by
  unfold moveV
  rw [owner_bad hd hr, if_pos (by decide)]
theorem okR_ba : okR ⟨#[98]⟩ ⟨#[97]⟩ = false := by simp only [okR, okS, ByteArray.toList_eq]; rfl
theorem okR_B : okR ⟨#[66]⟩ ⟨#[]⟩ = false := by simp only [okR, okS, ByteArray.toList_eq]; rfl
theorem okR_aa : okR ⟨#[97]⟩ ⟨#[97]⟩ = false := by simp only [okR, okS, ByteArray.toList_eq]; rfl
theorem find_bad {d : List Pt} {key : ByteArray} (hd : d ≠ []) (hk : isName key.data.toList = false) : findV d key = (⟨⟨#[]⟩, ⟨#[]⟩, 0, 0⟩, 2) := by
  unfold findV
  rw [if_neg hd, hk]; rfl
theorem group_bad {w W : World} {B : Nat} {d : List Pt} (S : St w W B d) (key : ByteArray) (hs : SmallP d) (hd : d ≠ []) (hk : key.size ≤ 9223372036854775807) (hn : isName key.data.toList = false) :
    Calls Tryd.prog 23 #[.pointer (some ⟨B, 0, none⟩), .string key] W fun e W' => e = .returned (.tuple #[.int .i64 0, .int .i64 2]) ∧ Below W.heap.size W W' := by
  refine (group_any B d key W S.m hs hk (fun _ h => by rw [hn] at h; cases h)).mono ?_
  rw [find_bad hd hn]
  exact fun _ _ h => h
theorem epoch_bad {w W : World} {B : Nat} {d : List Pt} (S : St w W B d) (key : ByteArray) (hs : SmallP d) (hd : d ≠ []) (hk : key.size ≤ 9223372036854775807) (hn : isName key.data.toList = false) :
    Calls Tryd.prog 27 #[.pointer (some ⟨B, 0, none⟩), .string key] W fun e W' => e = .returned (.tuple #[.int .i64 0, .int .i64 2]) ∧ Below W.heap.size W W' := by
  refine (epoch_any B d key W S.m hs hk (fun _ h => by rw [hn] at h; cases h)).mono ?_
  rw [find_bad hd hn]
  exact fun _ _ h => h
theorem twos {k : Nat} (hk : k < 7) : (#[Value.int .i64 2, .int .i64 2, .int .i64 2, .int .i64 2, .int .i64 2, .int .i64 2, .int .i64 2] : Array Value)[k]? = some (.int .i64 2) := by
  match k, hk with
  | 0, _ => rfl
  | 1, _ => rfl
  | 2, _ => rfl
  | 3, _ => rfl
  | 4, _ => rfl
  | 5, _ => rfl
  | 6, _ => rfl
set_option maxRecDepth 100000 in
set_option maxHeartbeats 8000000 in
theorem routeStays_any (x : Option Addr) (n cap : Nat) (l : List (Nat × Nat × Nat)) (a b c : Nat) (w : World) (hln : l.length = n) (hnc : n ≤ cap) (hM : SlM w x l) (ha : a < 256) (hb : b < 256) (hc : c < 256) :
    Calls Tryd.prog 6 #[.slice x n cap, .agg #[.int .u8 (a : Int), .int .u8 (b : Int), .int .u8 (c : Int)] ] w fun e w' => e = .returned (.bool true) ∧ Below w.heap.size w w' := by
  have b0 := Lib.hid (fun o => (Below.refl w.heap.size w).alloc (Nat.le_refl _) o)
  have X0 := Lib.hid (Whole.new w 24 #[.int .u8 (a : Int), .int .u8 (b : Int), .int .u8 (c : Int)])
  have b00 := Lib.hid (b0.out (.cells #[.int .u8 (a : Int), .int .u8 (b : Int), .int .u8 (c : Int)] 24))
  have h20 : ∀ W, (Builtin.min_ #[3, 3] 3 #[.int .i64 (n : Int), .int .i64 20]).run Tryd.prog W = .ok (.int .i64 ((min n 20 : Nat) : Int)) W := fun W => min_nat _ _ n 20 W
  have hct : ∀ W, (Instr.slice 22 (.slice x n cap) none (some (.int .i64 ((min n 20 : Nat) : Int))) none).run Tryd.prog W = .ok (.slice x (min n 20) cap) W := fun W => cut_moves x (min n 20) n cap (by omega) W
  have HM := Lib.hid hM
  have HLN := Lib.hid hln
  obtain ⟨m, hm⟩ : ∃ m, m = min n 20 := ⟨_, rfl⟩
  rw [← hm] at h20 hct
  have HMN := Lib.hid hm
  clear hM hln hm
  go_enter Tryd.func6, Tryd.ntmps6
  go_wp2_with fail
  generalize w.alloc (.cells #[.int .u8 (a : Int), .int .u8 (b : Int), .int .u8 (c : Int)] 24) = w0 at X0 b00 ⊢
  refine (begun_stg w0 _ (Below.refl _ _)).mono ?_
  rintro e w1 ⟨B, A, rfl, hS⟩
  have S1 : Hid (StyL w0 (w1.alloc (.cells #[.pointer (some ⟨B, 0, none⟩)] 25)) w1.heap.size B 0 _ _) := Lib.hid ⟨hS.keep ((Below.refl w1.heap.size w1).alloc (Nat.le_refl _) _), Whole.new w1 25 #[.pointer (some ⟨B, 0, none⟩)]⟩
  clear hS b0
  go_wp2_with fail
  clear h20 hct
  generalize w1.heap.size = PM at S1 ⊢
  go_loopw [54] (fun i wr => ∃ (k : Nat) (d : List Pt) (acc : Nat → Int × Int), k ≤ m ∧ i = .int .i64 k ∧ Hid (StyL w0 wr PM B k d acc)) (fun i _ => m - (intOf i).toNat)
  case atStart => exact ⟨0, _, _, Nat.zero_le _, rfl, S1⟩
  case round =>
    clear S1
    obtain ⟨k, d, acc, hk, rfl, S⟩ := hrel
    by_cases hlt : k < m
    · as_aux_lemma =>
      have hki : (k : Int) < m := by omega
      have hk30 : k ≤ 30 := by have := HMN.out; omega
      have hkl : k < l.length := by have := HMN.out; have := HLN.out; omega
      obtain ⟨ta, tb, tc, hl⟩ : ∃ ta tb tc, l[k]? = some (ta, tb, tc) := ⟨_, _, _, List.getElem?_eq_getElem hkl⟩
      obtain ⟨hta, htb, htc, p, rfl, c0, c1, c2⟩ := HM.out.at (b00.out.trans (S.out.g.s.b.mono b00.out.size)) hl
      have hwk : IntKind.i64.wrap ((k : Int) + 1) = (k : Int) + 1 := IntWalk.i64_in _ (by omega)
      have SP := Lib.hid (fun W => span_any ta tb tc W hta htb htc)
      have X1 := Lib.hid (fun (W : World) => Whole.new W 24 #[.int .u8 (ta : Int), .int .u8 (tb : Int), .int .u8 (tc : Int)])
      go_wp2_with fail
      have hS0 := S.out.keep ((Below.refl wr.heap.size wr).alloc (Nat.le_refl _) (.cells #[.int .u8 (ta : Int), .int .u8 (tb : Int), .int .u8 (tc : Int)] 24))
      refine (SP.out _).mono ?_
      rintro e w2 ⟨rfl, hb2⟩
      have S2 := Lib.hid ((hS0.keep hb2).keep ((Below.refl w2.heap.size w2).alloc (Nat.le_refl _) (.cells #[.string (spF ta tb), .string (spT ta tb)] 30)))
      have p0 := (S2.out.pm.cell 0).trans (show _ = some (Value.pointer (some ⟨B, 0, none⟩)) from rfl)
      clear hS0 hb2 S SP X1 c0 c1 c2 hta htb htc hl
      go_wp2_with fail
      clear p0
      refine (move_stg S2.out.g hk30 ta tb tc).mono ?_
      rintro e w3 ⟨nn, er, d', acc', rfl, _, hS3, hg3⟩
      have S3 := Lib.hid (S2.out.move hS3 hg3)
      clear hS3 hg3 S2
      go_wp2_with fail
      go_roundw
      case rel => exact ⟨k + 1, d', acc', by omega, by go_num, S3⟩
      case measure => simp [intOf]; omega
    · obtain rfl : k = m := by omega
      have hk20 : k ≤ 20 := by have := HMN.out; omega
      clear hlt HM HLN HMN hk
      have SP := Lib.hid (fun W => span_any a b c W ha hb hc)
      have p0 := (S.out.pm.cell 0).trans (show _ = some (Value.pointer (some ⟨B, 0, none⟩)) from rfl)
      have hdl : d.length ≤ 41 := by have := S.out.g.l; omega
      have hne : d ≠ [] := acc_ne S.out.g.a
      go_wp2_with fail
      clear p0
      refine (copy_st S.out.g.s (by omega) hne).mono ?_
      rintro e w2 ⟨C, rfl, hCB, _, hC, hS2, hb2⟩
      have al := (Below.refl w2.heap.size w2).alloc (Nat.le_refl _) (.cells #[.pointer (some ⟨C, 0, none⟩)] 25)
      have hPC := Whole.new w2 25 #[.pointer (some ⟨C, 0, none⟩)]
      have hPM := (S.out.pm.below hb2 S.out.pm.lt).alloc (.cells #[.pointer (some ⟨C, 0, none⟩)] 25)
      have q0 := (hPC.cell 0).trans (show _ = some (Value.pointer (some ⟨C, 0, none⟩)) from rfl)
      have hX := (X0.out.below hS2.b X0.out.lt).alloc (.cells #[.pointer (some ⟨C, 0, none⟩)] 25)
      have hS3 := hS2.keep al
      have hC3 := hC.keep al
      have x0 := (hX.cell 0).trans (show _ = some (Value.int .u8 (a : Int)) from rfl)
      have x1 := (hX.cell 1).trans (show _ = some (Value.int .u8 (b : Int)) from rfl)
      have x2 := (hX.cell 2).trans (show _ = some (Value.int .u8 (c : Int)) from rfl)
      obtain ⟨E, HE, HA⟩ : ∃ E : Int, Hid (0 ≤ E ∧ E ≤ 100) ∧ Hid (Acc E d acc) := ⟨_, Lib.hid (by omega), Lib.hid S.out.g.a⟩
      have TT : Hid (St w0 (w2.alloc (.cells #[.pointer (some ⟨C, 0, none⟩)] 25)) B d ∧ St w0 (w2.alloc (.cells #[.pointer (some ⟨C, 0, none⟩)] 25)) C d ∧ C ≠ B ∧ Whole (w2.alloc (.cells #[.pointer (some ⟨C, 0, none⟩)] 25)) PM 25 #[.pointer (some ⟨B, 0, none⟩)] ∧ Whole (w2.alloc (.cells #[.pointer (some ⟨C, 0, none⟩)] 25)) w2.heap.size 25 #[.pointer (some ⟨C, 0, none⟩)]) := Lib.hid ⟨hS3, hC3, hCB, hPM, hPC⟩
      clear hS2 hb2 hX hS3 hC3 hC hCB S al hPC hPM X0
      go_wp2_with fail
      clear x0 x1 x2 q0
      generalize w2.alloc (.cells #[.pointer (some ⟨C, 0, none⟩)] 25) = w3 at TT ⊢
      generalize w2.heap.size = PC at TT ⊢
      refine (SP.out _).mono ?_
      rintro e w4 ⟨rfl, hb4⟩
      have b4 := hb4.alloc (Nat.le_trans (Nat.le_refl _) hb4.size) (.cells #[.string (spF a b), .string (spT a b)] 30)
      have T : Hid (StyM w0 (w4.alloc (.cells #[.string (spF a b), .string (spT a b)] 30)) PM PC B C w4.heap.size (spF a b) (spT a b) d d) := Lib.hid ⟨TT.out.1.keep b4, TT.out.2.1.keep b4, TT.out.2.2.1, TT.out.2.2.2.1.below b4 TT.out.2.2.2.1.lt, TT.out.2.2.2.2.below b4 TT.out.2.2.2.2.lt, Whole.new w4 30 #[.string (spF a b), .string (spT a b)]⟩
      have HOK := Lib.hid (sp_ok a b)
      have HND := Lib.hid (sp_named a b)
      have HSZ := Lib.hid (sp_sml a b)
      have HG : Hid (1 ≤ spG c ∧ spG c < 8) := Lib.hid (by unfold spG; omega)
      have HL := Lib.hid (And.intro hdl hne)
      generalize spF a b = X at T HOK HND HSZ ⊢
      generalize spT a b = Y at T HOK HND HSZ ⊢
      generalize spG c = G at HG ⊢
      clear hb4 b4 TT SP hdl hne
      have HM := Lib.hid (fun (W : World) (T : StyM w0 W PM PC B C w4.heap.size X Y d d) (x y : ByteArray) (g : Int) (hx : x.size ≤ 9223372036854775807) (hy : y.size ≤ 9223372036854775807) (hv : moveV d x y g = (0, 2, d)) => move_acc T.s HA.out (by have := HE.out; omega) (by have := HL.out.1; omega) x y g hx hy hv)
      have V0 := Lib.hid (mv_arg (g := 0) HL.out.2 HOK.out (by decide))
      have V8 := Lib.hid (mv_arg (g := 8) HL.out.2 HOK.out (by decide))
      have Vd := Lib.hid (fun g => mv_bad (g := g) HL.out.2 okR_ba)
      have Ve := Lib.hid (fun g => mv_bad (g := g) HL.out.2 okR_B)
      have p0 := (T.out.pm.cell 0).trans (show _ = some (Value.pointer (some ⟨B, 0, none⟩)) from rfl)
      have r0 := (T.out.r.cell 0).trans (show _ = some (Value.string X) from rfl)
      have r1 := (T.out.r.cell 1).trans (show _ = some (Value.string Y) from rfl)
      go_wp2_with fail
      clear p0 r0 r1
      generalize w4.alloc (.cells #[.string X, .string Y] 30) = w5 at T ⊢
      generalize w4.heap.size = R at T HM ⊢
      refine (HM.out _ T.out X Y 0 HSZ.out.1 HSZ.out.2 V0.out).mono ?_
      rintro e w6 ⟨rfl, hS6, hg6⟩
      have T6 := Lib.hid (T.out.move hS6 hg6)
      clear hS6 hg6 T
      have p0 := (T6.out.pm.cell 0).trans (show _ = some (Value.pointer (some ⟨B, 0, none⟩)) from rfl)
      have r0 := (T6.out.r.cell 0).trans (show _ = some (Value.string X) from rfl)
      have r1 := (T6.out.r.cell 1).trans (show _ = some (Value.string Y) from rfl)
      go_wp2_with fail
      clear p0 r0 r1
      refine (HM.out _ T6.out X Y 8 HSZ.out.1 HSZ.out.2 V8.out).mono ?_
      rintro e w7 ⟨rfl, hS7, hg7⟩
      have T7 := Lib.hid (T6.out.move hS7 hg7)
      clear hS7 hg7 T6
      have p0 := (T7.out.pm.cell 0).trans (show _ = some (Value.pointer (some ⟨B, 0, none⟩)) from rfl)
      go_wp2_with fail
      clear p0
      refine (HM.out _ T7.out _ _ G (by decide) (by decide) (Vd.out G)).mono ?_
      rintro e w8 ⟨rfl, hS8, hg8⟩
      have T8 := Lib.hid (T7.out.move hS8 hg8)
      clear hS8 hg8 T7
      have p0 := (T8.out.pm.cell 0).trans (show _ = some (Value.pointer (some ⟨B, 0, none⟩)) from rfl)
      go_wp2_with fail
      clear p0
      refine (HM.out _ T8.out _ _ G (by decide) (by decide) (Ve.out G)).mono ?_
      rintro e w9 ⟨rfl, hS9, hg9⟩
      have T9 := Lib.hid (T8.out.move hS9 hg9)
      clear hS9 hg9 T8
      have p0 := (T9.out.pm.cell 0).trans (show _ = some (Value.pointer (some ⟨B, 0, none⟩)) from rfl)
      go_wp2_with fail
      clear p0
      refine (group_bad T9.out.s _ (HA.out.small (by have := HL.out.1; omega)) HL.out.2 (by decide) (by decide)).mono ?_
      rintro e w10 ⟨rfl, hb10⟩
      have T10 := Lib.hid (T9.out.keep hb10)
      clear hb10 T9
      have p0 := (T10.out.pm.cell 0).trans (show _ = some (Value.pointer (some ⟨B, 0, none⟩)) from rfl)
      go_wp2_with fail
      clear p0
      refine (epoch_bad T10.out.s _ (HA.out.small (by have := HL.out.1; omega)) HL.out.2 (by decide) (by decide)).mono ?_
      rintro e w11 ⟨rfl, hb11⟩
      have T11 := Lib.hid (T10.out.keep hb11)
      clear hb11 T10
      have p0 := (T11.out.pm.cell 0).trans (show _ = some (Value.pointer (some ⟨B, 0, none⟩)) from rfl)
      go_wp2_with fail
      clear p0
      refine (owner_acc T11.out.s HA.out (by have := HL.out.1; omega) _ _ (by decide) (by decide) (owner_bad HL.out.2 okR_aa)).mono ?_
      rintro e w12 ⟨rfl, _, hb12⟩
      have T12 := Lib.hid (T11.out.keep hb12)
      clear hb12 T11
      have EL := Lib.hid (Whole.new w12 35 #[.int .i64 2, .int .i64 2, .int .i64 2, .int .i64 2, .int .i64 2, .int .i64 2, .int .i64 2])
      have T13 := Lib.hid (T12.out.keep ((Below.refl w12.heap.size w12).alloc (Nat.le_refl _) (.cells #[.int .i64 2, .int .i64 2, .int .i64 2, .int .i64 2, .int .i64 2, .int .i64 2, .int .i64 2] 35)))
      clear T12 HM V0 V8 Vd Ve
      go_wp2_with fail
      generalize w12.alloc (.cells #[.int .i64 2, .int .i64 2, .int .i64 2, .int .i64 2, .int .i64 2, .int .i64 2, .int .i64 2] 35) = w13 at EL T13 ⊢
      generalize w12.heap.size = L at EL ⊢
      go_loopw [133] (fun i wr => ∃ (k : Nat), k ≤ 7 ∧ i = .int .i64 k ∧ Hid (StyM w0 wr PM PC B C R X Y d d) ∧ Hid (Whole wr L 35 #[.int .i64 2, .int .i64 2, .int .i64 2, .int .i64 2, .int .i64 2, .int .i64 2, .int .i64 2])) (fun i _ => 7 - (intOf i).toNat)
      case atStart => exact ⟨0, by omega, rfl, T13, EL⟩
      case round =>
        clear T13 EL
        obtain ⟨k, hk, rfl, T, EL⟩ := hrel
        by_cases hlt : k < 7
        · as_aux_lemma =>
          have hki : (k : Int) < 7 := by omega
          have hk0 : (0 : Int) ≤ k := by omega
          have hwk : IntKind.i64.wrap ((k : Int) + 1) = (k : Int) + 1 := IntWalk.i64_in _ (by omega)
          have z0 := (EL.out.cell k).trans (twos hlt)
          clear HA HE HOK HND HSZ HG HL
          go_wp2_with fail
          go_roundw
          case rel => exact ⟨k + 1, by omega, by go_num, T, EL⟩
          case measure => simp [intOf]; omega
        · as_aux_lemma =>
          obtain rfl : k = 7 := by omega
          rw [show ((7 : Nat) : Int) = 7 from rfl]
          clear hlt hk EL
          have hd : d.length ≤ 900 := by have := HL.out.1; omega
          have HD := Lib.hid hd
          clear hd
          go_wp2_with fail
          refine (same_any T.out HD.out HD.out).mono ?_
          rintro e w14 ⟨⟨b1, rfl, hbb⟩, hb14⟩
          obtain rfl : b1 = true := hbb.2 ⟨rfl, rfl⟩
          have T14 := Lib.hid (T.out.keep hb14)
          clear hb14 T hbb
          have p0 := (T14.out.pm.cell 0).trans (show _ = some (Value.pointer (some ⟨B, 0, none⟩)) from rfl)
          go_wp2_with fail
          clear p0
          refine (ranges_any B d _ T14.out.s.m HD.out).mono ?_
          rintro e w15 ⟨v15, rfl, ho, hb1⟩
          obtain ⟨w16, hr, hb2⟩ := run_clr_rng w15 w14.heap.size v15 _ _ ho
          have T16 := Lib.hid (T14.out.keep (hb1.trans hb2))
          clear hb1 hb2 ho T14
          have p0 := (T16.out.pm.cell 0).trans (show _ = some (Value.pointer (some ⟨B, 0, none⟩)) from rfl)
          go_wp2_with fail
          clear p0
          refine (groups_any B d _ T16.out.s.m HD.out).mono ?_
          rintro e w17 ⟨v17, rfl, ho, hb1⟩
          obtain ⟨w18, hr, hb2⟩ := run_clr_int w17 w16.heap.size v17 _ _ ho
          have T18 := Lib.hid (T16.out.keep (hb1.trans hb2))
          clear hb1 hb2 ho T16
          have p0 := (T18.out.pm.cell 0).trans (show _ = some (Value.pointer (some ⟨B, 0, none⟩)) from rfl)
          go_wp2_with fail
          clear p0
          refine (of_any B d 1 _ T18.out.s.m HD.out).mono ?_
          rintro e w19 ⟨v19, rfl, ho, hb1⟩
          obtain ⟨w20, hr, hb2⟩ := run_clr_rng w19 w18.heap.size v19 _ _ ho
          have T20 := Lib.hid (T18.out.keep (hb1.trans hb2))
          clear hb1 hb2 ho T18
          go_wp2_with fail
          clear hr
          refine (same_any T20.out HD.out HD.out).mono ?_
          rintro e w21 ⟨⟨b1, rfl, hbb⟩, hb21⟩
          obtain rfl : b1 = true := hbb.2 ⟨rfl, rfl⟩
          have T21 := Lib.hid (T20.out.keep hb21)
          clear hb21 T20 hbb
          have q0 := (T21.out.pc.cell 0).trans (show _ = some (Value.pointer (some ⟨C, 0, none⟩)) from rfl)
          have r0 := (T21.out.r.cell 0).trans (show _ = some (Value.string X) from rfl)
          have r1 := (T21.out.r.cell 1).trans (show _ = some (Value.string Y) from rfl)
          rcases moved HA.out (by have := HE.out; omega) HE.out.1 HOK.out HND.out.1 HND.out.2 HG.out (by have := HL.out.1; omega) with ⟨o, bl, hv, hbo, hm⟩ | ⟨o, ep, hv, hog, hM⟩
          · as_aux_lemma =>
            have HV := Lib.hid hv
            have HMv := Lib.hid hm
            clear hv hbo hm
            go_wp2_with fail
            clear q0 r0 r1
            refine (owner_acc T21.out.c HA.out (by have := HL.out.1; omega) X Y HSZ.out.1 HSZ.out.2 HV.out).mono ?_
            rintro e w22 ⟨rfl, _, hb22⟩
            have T22 := Lib.hid (T21.out.keep hb22)
            clear hb22 T21
            have p0 := (T22.out.pm.cell 0).trans (show _ = some (Value.pointer (some ⟨B, 0, none⟩)) from rfl)
            have r0 := (T22.out.r.cell 0).trans (show _ = some (Value.string X) from rfl)
            have r1 := (T22.out.r.cell 1).trans (show _ = some (Value.string Y) from rfl)
            go_wp2_with fail
            clear p0 r0 r1
            refine (move_acc T22.out.s HA.out (by have := HE.out; omega) (by have := HL.out.1; omega) X Y G HSZ.out.1 HSZ.out.2 HMv.out).mono ?_
            rintro e w23 ⟨rfl, hS23, hg23⟩
            have T23 := Lib.hid (T22.out.move hS23 hg23)
            clear hS23 hg23 T22
            have q0 := (T23.out.pc.cell 0).trans (show _ = some (Value.pointer (some ⟨C, 0, none⟩)) from rfl)
            have r0 := (T23.out.r.cell 0).trans (show _ = some (Value.string X) from rfl)
            have r1 := (T23.out.r.cell 1).trans (show _ = some (Value.string Y) from rfl)
            go_wp2_with fail
            clear q0 r0 r1
            refine (owner_acc T23.out.c HA.out (by have := HL.out.1; omega) X Y HSZ.out.1 HSZ.out.2 HV.out).mono ?_
            rintro e w24 ⟨rfl, _, hb24⟩
            have T24 := Lib.hid (T23.out.keep hb24)
            clear hb24 T23
            go_wp2_with fail
            refine (same_any T24.out HD.out HD.out).mono ?_
            rintro e w25 ⟨⟨b1, rfl, hbb⟩, hb25⟩
            obtain rfl : b1 = true := hbb.2 ⟨rfl, rfl⟩
            have T25 := Lib.hid (T24.out.keep hb25)
            clear hb25 T24 hbb
            go_wp2_with fail
            refine (works_st T25.out.s).mono ?_
            rintro e w26 ⟨rfl, hb26⟩
            have BE := Lib.hid (b00.out.trans (hb26.mono b00.out.size))
            clear hb26 T25
            go_wp2_with fail
            go_ret
            exact ⟨rfl, BE.out⟩
          · as_aux_lemma =>
            have HV := Lib.hid hv
            have HMv := Lib.hid hM.v1
            have h1e : (1 : Int) < ep := moved_ep HA.out HOK.out HND.out.1 HND.out.2 hM
            have HDf := Lib.hid (moved_differs HA.out HOK.out HND.out.1 HND.out.2 hM hog)
            have HL1 := Lib.hid (show (newL d X Y G).length ≤ 900 by have := hM.l1; have := HL.out.1; omega)
            clear hv hog hM
            go_wp2_with fail
            clear q0 r0 r1
            refine (owner_acc T21.out.c HA.out (by have := HL.out.1; omega) X Y HSZ.out.1 HSZ.out.2 HV.out).mono ?_
            rintro e w22 ⟨rfl, _, hb22⟩
            have T22 := Lib.hid (T21.out.keep hb22)
            clear hb22 T21
            have p0 := (T22.out.pm.cell 0).trans (show _ = some (Value.pointer (some ⟨B, 0, none⟩)) from rfl)
            have r0 := (T22.out.r.cell 0).trans (show _ = some (Value.string X) from rfl)
            have r1 := (T22.out.r.cell 1).trans (show _ = some (Value.string Y) from rfl)
            go_wp2_with fail
            clear p0 r0 r1
            refine (move_acc T22.out.s HA.out (by have := HE.out; omega) (by have := HL.out.1; omega) X Y G HSZ.out.1 HSZ.out.2 HMv.out).mono ?_
            rintro e w23 ⟨rfl, hS23, hg23⟩
            have T23 := Lib.hid (T22.out.move hS23 hg23)
            clear hS23 hg23 T22
            have q0 := (T23.out.pc.cell 0).trans (show _ = some (Value.pointer (some ⟨C, 0, none⟩)) from rfl)
            have r0 := (T23.out.r.cell 0).trans (show _ = some (Value.string X) from rfl)
            have r1 := (T23.out.r.cell 1).trans (show _ = some (Value.string Y) from rfl)
            go_wp2_with fail
            clear q0 r0 r1
            refine (owner_acc T23.out.c HA.out (by have := HL.out.1; omega) X Y HSZ.out.1 HSZ.out.2 HV.out).mono ?_
            rintro e w24 ⟨rfl, _, hb24⟩
            have T24 := Lib.hid (T23.out.keep hb24)
            clear hb24 T23
            go_wp2_with fail
            refine (same_any T24.out HD.out HL1.out).mono ?_
            rintro e w25 ⟨⟨b1, rfl, hbb⟩, hb25⟩
            obtain rfl : b1 = false := Bool.eq_false_iff.2 (fun h => HDf.out (hbb.1 h))
            have T25 := Lib.hid (T24.out.keep hb25)
            clear hb25 T24 hbb
            go_wp2_with fail
            refine (works_st T25.out.s).mono ?_
            rintro e w26 ⟨rfl, hb26⟩
            have BE := Lib.hid (b00.out.trans (hb26.mono b00.out.size))
            clear hb26 T25
            go_wp2_with fail
            go_ret
            exact ⟨rfl, BE.out⟩
end Go.Proofs.YtkkkppbcjmeapaaDoor
