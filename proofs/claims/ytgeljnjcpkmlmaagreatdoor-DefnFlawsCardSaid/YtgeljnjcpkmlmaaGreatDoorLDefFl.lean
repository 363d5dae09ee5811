/- DefnFlaws returns true at every definition and every two bytes. Conditions: as the statement's own. -/
import Derived.Test.YtgeljnjcpkmlmaaGreatDoorDfV
import Derived.Test.YtgeljnjcpkmlmaaGreatDoorDfWrk
import Derived.Test.YtgeljnjcpkmlmaaGreatDoorDfShort
import Derived.Laws.Cover1
namespace Go.Proofs.YtgeljnjcpkmlmaaGreatDoor
open Go.RowKit Go.Shelf

theorem flat_key : ∀ (l : List Sp) (k : Nat) (p : Sp) (x : ByteArray), l[k]? = some p → (l.flatMap stC).set (k * 2) (.string x) = (l.set k ⟨x, p.v⟩).flatMap stC
  | [], k, p, x, h => by simp at h
  | q :: l, 0, p, x, h => by cases h; simp [stC]
  | q :: l, k + 1, p, x, h => by
    have ih := flat_key l k p x h
    rw [List.set_cons_succ, List.flatMap_cons, List.flatMap_cons, ← ih]
    show ([Value.string q.k, .int .i64 q.v] ++ l.flatMap stC).set ((k + 1) * 2) _ = _
    rw [show (k + 1) * 2 = k * 2 + 1 + 1 by omega]
    rfl
theorem flat_val : ∀ (l : List Sp) (k : Nat) (p : Sp) (x : Int), l[k]? = some p → (l.flatMap stC).set (k * 2 + 1) (.int .i64 x) = (l.set k ⟨p.k, x⟩).flatMap stC
  | [], k, p, x, h => by simp at h
  | q :: l, 0, p, x, h => by cases h; simp [stC]
  | q :: l, k + 1, p, x, h => by
    have ih := flat_val l k p x h
    rw [List.set_cons_succ, List.flatMap_cons, List.flatMap_cons, ← ih]
    show ([Value.string q.k, .int .i64 q.v] ++ l.flatMap stC).set ((k + 1) * 2 + 1) _ = _
    rw [show (k + 1) * 2 + 1 = k * 2 + 1 + 1 + 1 by omega]
    rfl
/-- What stands in the copy behind the change: a definition that is not valid. -/
structure FlawR (w3 wx : World) (C : Nat) (x : Dv) (A : Option Addr) (n c : Nat) : Prop where
  cell : Whole wx C 24 #[.string x.n, .int .i64 x.r, .int .i64 x.dl, .slice A n c]
  no : ¬ defOk x
  at_ : DefAt wx A n c x
  b : Below w3.heap.size w3 wx
theorem no_step {d : Dv} {k : Nat} {q : Sp} {s : List Sp} (hs : s[k]? = some q) (hq : stOk q = false) : ¬ defOk { d with s := s } := fun h => by
  have := h.2.2.2.2.2.2.2.all (List.mem_of_getElem? hs)
  rw [hq] at this; cases this
theorem no_dash {s t : List UInt8} (h : t = s ++ [45]) : isName t = false := by
  cases e : isName t with
  | false => rfl
  | true =>
    have := isName_mem e (c := 45) (by rw [h]; simp)
    revert this; decide
theorem no_twice {d : Dv} {k : Nat} {p : Sp} {s : List Sp} (hk : k < s.length) (hp : s[k]? = some p) : ¬ defOk { d with s := s ++ [p] } := fun h => by
  have h1 := h.2.2.2.2.2.2.2 s.length p (by simp)
  exact h1.2 k p hk (by rw [List.getElem?_append_left hk]; exact hp) rfl
set_option maxRecDepth 100000 in
set_option maxHeartbeats 4000000 in
theorem defnFlaws_any (d : Dv) (A : Option Addr) (n c : Nat) (w8 k8 : UInt8) (w : World) (hl : d.s.length = n) (hnc : n ≤ c) (hn : n ≤ 9223372036854775807) (hz : DefZ d) (hs : SlD w A d.s) (hE : DfE w) :
    Calls Tryz.prog 9 #[dV d A n c, .int .u8 (w8.toNat : Int), .int .u8 (k8.toNat : Int)] w fun e w' => e = .returned (.bool true) ∧ Below w.heap.size w w' := by
  have mixed : Tryz.prog.follows Departure.mixedOrders = true := by kernel_rfl
  have b1 := (Below.refl w.heap.size w).alloc (Nat.le_refl _) (.cells #[.string d.n, .int .i64 d.r, .int .i64 d.dl, .slice A n c] 24)
  have SH := Lib.hid (short_any d A n c _ hl hn hz (hs.keep b1))
  have HW0 := Lib.hid (Whole.new w 24 #[.string d.n, .int .i64 d.r, .int .i64 d.dl, .slice A n c])
  have HB := Lib.hid b1
  have HE := Lib.hid hE
  have HA := Lib.hid (fun (W : World) (hb : Below w.heap.size w W) (hS : ShortD d) => (show DefAt W A n c d from ⟨hl, hnc, by have := hS.1; omega, hz, hs.keep hb⟩))
  have WK := Lib.hid (fun (W : World) (hb : Below w.heap.size w W) => works_any W (hE.keep hb))
  have CK := Lib.hid (fun (W : World) (h : DefAt W A n c d) => defCheck_any d A n c W h)
  have HL := Lib.hid (And.intro hl hnc)
  have HZ := Lib.hid hz
  unfold dV at SH CK
  clear b1 hE hz hs hnc hn hl
  unfold dV
  go_enter Tryz.func9, Tryz.ntmps9
  go_upto_if 21 with (first
    | (go_at_call 11; refine SH.out.mono ?_; rintro e w1 ⟨⟨b, rfl, hb⟩, hB⟩; have B1 := Lib.hid (HB.out.trans (hB.mono HB.out.size)); have W1 := Lib.hid (HW0.out.keep hB); obtain ⟨y0, y1, y2, y3⟩ := def_cells W1.out; have HSh := Lib.hid hb; clear hb hB; cases b))
  · have W1f := Lib.hid (WK.out w1 B1.out)
    go_wp2_with (go_at_call 12; refine W1f.out.mono ?_; rintro e w2 ⟨rfl, hB2⟩)
    go_ret
    exact ⟨rfl, B1.out.trans (hB2.mono B1.out.size)⟩
  have HS := Lib.hid (HSh.out trivial)
  have HD1 := Lib.hid (HA.out w1 B1.out HS.out)
  go_fit (CK.out w1 HD1.out)
  rintro e w2 ⟨rfl, hB2⟩
  have B2 := Lib.hid (B1.out.trans (hB2.mono B1.out.size))
  have W2 := Lib.hid (W1.out.keep hB2)
  clear hB2 y0 y1 y2 y3 HSh SH CK HW0 HB HD1 B1 W1
  by_cases hok : defOk d
  case neg =>
    rw [ckD_no hok]
    have W2f := Lib.hid (WK.out w2 B2.out)
    clear hok
    go_wp2_with (go_at_call 12; refine W2f.out.mono ?_; rintro e w3 ⟨rfl, hB3⟩)
    go_ret
    exact ⟨rfl, B2.out.trans (hB3.mono B2.out.size)⟩
  rw [ckD_yes hok]
  have HOK := Lib.hid hok
  have hn1 : 1 ≤ n ∧ n ≤ 8 := by rw [← HL.out.1]; exact ⟨hok.2.2.2.2.2.1, hok.2.2.2.2.2.2.1⟩
  obtain ⟨hn1, hn8⟩ := hn1
  have hdn : d.n.size ≤ 16 := by have := (isName_len hok.1).2.1; rw [Lib.size_eq]; omega
  have CP := Lib.hid (defCopy_any d A n c w2 HL.out.1 (by omega) (HA.out w2 B2.out HS.out).s)
  unfold CpyR dV at CP
  obtain ⟨y0, y1, y2, y3⟩ := def_cells W2.out
  clear hok
  go_upto_region 4 with (go_at_call 20; refine CP.out.mono ?_; rintro e w3 ⟨⟨A3, c3, rfl, hc3, ho3⟩, hB⟩)
  have ba := (Below.refl w3.heap.size w3).alloc (Nat.le_refl _) (.cells #[.string d.n, .int .i64 d.r, .int .i64 d.dl, .slice A3 n c3] 24)
  have O4 := Lib.hid (ho3.alloc (.cells #[.string d.n, .int .i64 d.r, .int .i64 d.dl, .slice A3 n c3] 24))
  have N4 := Lib.hid (Whole.new w3 24 #[.string d.n, .int .i64 d.r, .int .i64 d.dl, .slice A3 n c3])
  have K4 := Lib.hid (hB.trans (ba.mono hB.size))
  have HC4 : Hid (w2.heap.size ≤ w3.heap.size ∧ n ≤ c3) := Lib.hid ⟨hB.size, hc3⟩
  clear ba hB ho3 hc3 y0 y1 y2 y3 CP
  generalize w3.alloc (.cells #[.string d.n, .int .i64 d.r, .int .i64 d.dl, .slice A3 n c3] 24) = w4 at O4 N4 K4 ⊢
  generalize w3.heap.size = C at N4 HC4 ⊢
  obtain ⟨g, rfl⟩ : ∃ g, A3 = some ⟨g, 0, none⟩ := by
    rcases O4.out.2 with ⟨_, h0⟩ | ⟨g, cap, cur, e, _⟩
    · omega
    · cases e; exact ⟨g, rfl⟩
  obtain ⟨⟨x0, x1, x2, x3⟩, f0, f1, f2, f3⟩ := whole4 N4.out
  have hn0 : ((n : Int) == 0) = false := by rw [beq_eq_false_iff_ne]; omega
  obtain ⟨kk, hkk⟩ : ∃ kk, kk = k8.toNat % n := ⟨_, rfl⟩
  have hkl : kk < n := by rw [hkk]; exact Nat.mod_lt _ (by omega)
  have hk8 := k8.toNat_lt
  have hwk : IntKind.i64.wrap (k8.toNat : Int) = (k8.toNat : Int) := IntWalk.i64_in _ (by omega)
  have htk : ((k8.toNat : Int)).tmod (n : Int) = (kk : Int) := by rw [Int.tmod_eq_emod_of_nonneg (by omega), hkk]; omega
  obtain ⟨t, ht⟩ : ∃ t, t = w8.toNat % 13 := ⟨_, rfl⟩
  have ht13 : t < 13 := by omega
  have htt : ((w8.toNat : Int)).tmod 13 = (t : Int) := by rw [Int.tmod_eq_emod_of_nonneg (by omega), ht]; omega
  have htt2 : ((w8.toNat : Int)) % 13 = (t : Int) := by omega
  clear hkk hk8 ht
  go_upto_block 0 with fail
  clear hwk htk htt htt2 hn0
  go_cut [] from 119 (fun wx => ∃ (x : Dv) (A' : Option Addr) (n' c' : Nat), Hid (FlawR w2 wx C x A' n' c'))
  case first =>
    obtain ⟨p, hp⟩ : ∃ p, d.s[kk]? = some p := ⟨_, List.getElem?_eq_getElem (by rw [HL.out.1]; exact hkl)⟩
    obtain ⟨g1, o1, e1, z0, z1⟩ := slD_own O4.out HL.out.1 kk p hp
    cases e1
    simp only [Nat.zero_add] at z0 z1
    have hk0 : (0 : Int) ≤ (kk : Int) := by omega
    have hkl' : (kk : Int) < (n : Int) := by omega
    have fk := O4.out.frozenAt (kk * 2)
    have fv := O4.out.frozenAt (kk * 2 + 1)
    have HP := Lib.hid hp
    have HKL := Lib.hid hkl
    have hgb := (O4.out.lt g rfl)
    have HGB := Lib.hid hgb
    have SP : Hid (∀ (W : World) (s : List Sp), s = d.s → True) := Lib.hid (fun _ _ _ => trivial)
    have ZS := Lib.hid HZ.out.s
    clear hp hgb SP
    have ht : t = 0 ∨ t = 1 ∨ t = 2 ∨ t = 3 ∨ t = 4 ∨ t = 5 ∨ t = 6 ∨ t = 7 ∨ t = 8 ∨ t = 9 ∨ t = 10 ∨ t = 11 ∨ t = 12 := by omega
    clear ht13
    rcases ht with rfl | rfl | rfl | rfl | rfl | rfl | rfl | rfl | rfl | rfl | rfl | rfl | rfl
    · have g9 := grown_set (World.grownBy.refl w4 (some C)) 0 (.string ⟨#[]⟩)
      have HF : Hid (FlawR w2 (w4.setCell ⟨C, 0, none⟩ (.string ⟨#[]⟩)) C { d with n := ⟨#[]⟩ } (some ⟨g, 0, none⟩) n c3) := Lib.hid ⟨by simpa using N4.out.put 0 (.string ⟨#[]⟩), (fun h => absurd h.1 (by (try dsimp only); first | omega | decide)), ⟨HL.out.1, HC4.out.2, by omega, ⟨(by (try dsimp only); first | omega | decide), HZ.out.r, HZ.out.dl, HZ.out.s⟩, slD_own (O4.out.kept g9 (Or.inr (own_ne O4.out N4.out (by decide)).symm)) HL.out.1⟩, K4.out.grown g9 K4.out.size (fun j e => by cases e; exact HC4.out.1)⟩
      go_wp2_with fail
      go_meet
      case rel => exact ⟨_, _, _, _, HF⟩
    · have z45 : (⟨#[45]⟩ : ByteArray).size = 1 := rfl
      obtain ⟨a1, e1, m1, s1⟩ := add_ba d.n ⟨#[45]⟩ (by omega)
      have g9 := grown_set (World.grownBy.refl w4 (some C)) 0 (.string a1)
      have HF : Hid (FlawR w2 (w4.setCell ⟨C, 0, none⟩ (.string a1)) C { d with n := a1 } (some ⟨g, 0, none⟩) n c3) := Lib.hid ⟨by simpa using N4.out.put 0 (.string a1), (fun h => by have h1 := no_dash e1.out; have h2 := h.1; dsimp only at h2; rw [h1] at h2; cases h2), ⟨HL.out.1, HC4.out.2, by omega, ⟨by dsimp only; omega, HZ.out.r, HZ.out.dl, HZ.out.s⟩, slD_own (O4.out.kept g9 (Or.inr (own_ne O4.out N4.out (by decide)).symm)) HL.out.1⟩, K4.out.grown g9 K4.out.size (fun j e => by cases e; exact HC4.out.1)⟩
      go_wp2_with fail
      go_meet
      case rel => exact ⟨_, _, _, _, HF⟩
    · have g9 := grown_set (World.grownBy.refl w4 (some C)) 1 (.int .i64 (-1))
      have HF : Hid (FlawR w2 (w4.setCell ⟨C, 1, none⟩ (.int .i64 (-1))) C { d with r := -1 } (some ⟨g, 0, none⟩) n c3) := Lib.hid ⟨by simpa using N4.out.put 1 (.int .i64 (-1)), (fun h => absurd h.2.1 (by (try dsimp only); first | omega | decide)), ⟨HL.out.1, HC4.out.2, by omega, ⟨HZ.out.n, (by (try dsimp only); first | omega | decide), HZ.out.dl, HZ.out.s⟩, slD_own (O4.out.kept g9 (Or.inr (own_ne O4.out N4.out (by decide)).symm)) HL.out.1⟩, K4.out.grown g9 K4.out.size (fun j e => by cases e; exact HC4.out.1)⟩
      go_wp2_with fail
      go_meet
      case rel => exact ⟨_, _, _, _, HF⟩
    · have g9 := grown_set (World.grownBy.refl w4 (some C)) 1 (.int .i64 21)
      have HF : Hid (FlawR w2 (w4.setCell ⟨C, 1, none⟩ (.int .i64 21)) C { d with r := 21 } (some ⟨g, 0, none⟩) n c3) := Lib.hid ⟨by simpa using N4.out.put 1 (.int .i64 21), (fun h => absurd h.2.2.1 (by (try dsimp only); first | omega | decide)), ⟨HL.out.1, HC4.out.2, by omega, ⟨HZ.out.n, (by (try dsimp only); first | omega | decide), HZ.out.dl, HZ.out.s⟩, slD_own (O4.out.kept g9 (Or.inr (own_ne O4.out N4.out (by decide)).symm)) HL.out.1⟩, K4.out.grown g9 K4.out.size (fun j e => by cases e; exact HC4.out.1)⟩
      go_wp2_with fail
      go_meet
      case rel => exact ⟨_, _, _, _, HF⟩
    · have g9 := grown_set (World.grownBy.refl w4 (some C)) 2 (.int .i64 (-1))
      have HF : Hid (FlawR w2 (w4.setCell ⟨C, 2, none⟩ (.int .i64 (-1))) C { d with dl := -1 } (some ⟨g, 0, none⟩) n c3) := Lib.hid ⟨by simpa using N4.out.put 2 (.int .i64 (-1)), (fun h => absurd h.2.2.2.1 (by (try dsimp only); first | omega | decide)), ⟨HL.out.1, HC4.out.2, by omega, ⟨HZ.out.n, HZ.out.r, (by (try dsimp only); first | omega | decide), HZ.out.s⟩, slD_own (O4.out.kept g9 (Or.inr (own_ne O4.out N4.out (by decide)).symm)) HL.out.1⟩, K4.out.grown g9 K4.out.size (fun j e => by cases e; exact HC4.out.1)⟩
      go_wp2_with fail
      go_meet
      case rel => exact ⟨_, _, _, _, HF⟩
    · have g9 := grown_set (World.grownBy.refl w4 (some C)) 2 (.int .i64 100001)
      have HF : Hid (FlawR w2 (w4.setCell ⟨C, 2, none⟩ (.int .i64 100001)) C { d with dl := 100001 } (some ⟨g, 0, none⟩) n c3) := Lib.hid ⟨by simpa using N4.out.put 2 (.int .i64 100001), (fun h => absurd h.2.2.2.2.1 (by (try dsimp only); first | omega | decide)), ⟨HL.out.1, HC4.out.2, by omega, ⟨HZ.out.n, HZ.out.r, (by (try dsimp only); first | omega | decide), HZ.out.s⟩, slD_own (O4.out.kept g9 (Or.inr (own_ne O4.out N4.out (by decide)).symm)) HL.out.1⟩, K4.out.grown g9 K4.out.size (fun j e => by cases e; exact HC4.out.1)⟩
      go_wp2_with fail
      go_meet
      case rel => exact ⟨_, _, _, _, HF⟩
    · have g9 := grown_set (World.grownBy.refl w4 (some C)) 3 (.slice none 0 0)
      have HF : Hid (FlawR w2 (w4.setCell ⟨C, 3, none⟩ (.slice none 0 0)) C { d with s := [] } none 0 0) := Lib.hid ⟨by simpa using N4.out.put 3 (.slice none 0 0), (fun h => absurd h.2.2.2.2.2.1 (by (try dsimp only); first | omega | decide)), ⟨rfl, Nat.le_refl _, by omega, ⟨HZ.out.n, HZ.out.r, HZ.out.dl, fun i p h => by simp at h⟩, fun i p h => by simp at h⟩, K4.out.grown g9 K4.out.size (fun j e => by cases e; exact HC4.out.1)⟩
      go_wp2_with fail
      go_meet
      case rel => exact ⟨_, _, _, _, HF⟩
    · have O9 := own_set O4.out (kk * 2) (.string ⟨#[65]⟩)
      rw [flat_key d.s kk p ⟨#[65]⟩ HP.out] at O9
      have hlen : (d.s.set kk ⟨⟨#[65]⟩, p.v⟩).length = n := by rw [List.length_set, HL.out.1]
      have hat : (d.s.set kk ⟨⟨#[65]⟩, p.v⟩)[kk]? = some ⟨⟨#[65]⟩, p.v⟩ := by rw [List.getElem?_set_self (by rw [HL.out.1]; exact HKL.out)]
      have g9 := grown_set (World.grownBy.refl w4 (some g)) (kk * 2) (.string ⟨#[65]⟩)
      have HF : Hid (FlawR w2 (w4.setCell ⟨g, kk * 2, none⟩ (.string ⟨#[65]⟩)) C { d with s := d.s.set kk ⟨⟨#[65]⟩, p.v⟩ } (some ⟨g, 0, none⟩) n c3) := Lib.hid ⟨N4.out.grown g9 (own_ne O4.out N4.out (by decide)), no_step hat (by unfold stOk; rw [show isName (⟨#[65]⟩ : ByteArray).data.toList = false by decide]; rfl), ⟨hlen, HC4.out.2, by omega, ⟨HZ.out.n, HZ.out.r, HZ.out.dl, fun i r hr => by
        rw [List.getElem?_set] at hr
        split at hr
        · split at hr
          · cases hr; exact ⟨(by (try dsimp only); first | omega | decide), (ZS.out kk p HP.out).2⟩
          · cases hr
        · exact ZS.out i r hr⟩, slD_own O9 hlen⟩, K4.out.grown g9 K4.out.size (fun j e => by cases e; exact HGB.out.1)⟩
      clear O9 g9 hlen hat
      go_wp2_with fail
      go_meet
      case rel => exact ⟨_, _, _, _, HF⟩
    · have O9 := own_set O4.out (kk * 2 + 1) (.int .i64 0)
      rw [flat_val d.s kk p 0 HP.out] at O9
      have hlen : (d.s.set kk ⟨p.k, 0⟩).length = n := by rw [List.length_set, HL.out.1]
      have hat : (d.s.set kk ⟨p.k, 0⟩)[kk]? = some ⟨p.k, 0⟩ := by rw [List.getElem?_set_self (by rw [HL.out.1]; exact HKL.out)]
      have g9 := grown_set (World.grownBy.refl w4 (some g)) (kk * 2 + 1) (.int .i64 0)
      have HF : Hid (FlawR w2 (w4.setCell ⟨g, kk * 2 + 1, none⟩ (.int .i64 0)) C { d with s := d.s.set kk ⟨p.k, 0⟩ } (some ⟨g, 0, none⟩) n c3) := Lib.hid ⟨N4.out.grown g9 (own_ne O4.out N4.out (by decide)), no_step hat (by unfold stOk; simp), ⟨hlen, HC4.out.2, by omega, ⟨HZ.out.n, HZ.out.r, HZ.out.dl, fun i r hr => by
        rw [List.getElem?_set] at hr
        split at hr
        · split at hr
          · cases hr; exact ⟨(ZS.out kk p HP.out).1, (by (try dsimp only); first | omega | decide), (by (try dsimp only); first | omega | decide)⟩
          · cases hr
        · exact ZS.out i r hr⟩, slD_own O9 hlen⟩, K4.out.grown g9 K4.out.size (fun j e => by cases e; exact HGB.out.1)⟩
      clear O9 g9 hlen hat
      go_wp2_with fail
      go_meet
      case rel => exact ⟨_, _, _, _, HF⟩
    · have O9 := own_set O4.out (kk * 2 + 1) (.int .i64 1152921504606846977)
      rw [flat_val d.s kk p 1152921504606846977 HP.out] at O9
      have hlen : (d.s.set kk ⟨p.k, 1152921504606846977⟩).length = n := by rw [List.length_set, HL.out.1]
      have hat : (d.s.set kk ⟨p.k, 1152921504606846977⟩)[kk]? = some ⟨p.k, 1152921504606846977⟩ := by rw [List.getElem?_set_self (by rw [HL.out.1]; exact HKL.out)]
      have g9 := grown_set (World.grownBy.refl w4 (some g)) (kk * 2 + 1) (.int .i64 1152921504606846977)
      have HF : Hid (FlawR w2 (w4.setCell ⟨g, kk * 2 + 1, none⟩ (.int .i64 1152921504606846977)) C { d with s := d.s.set kk ⟨p.k, 1152921504606846977⟩ } (some ⟨g, 0, none⟩) n c3) := Lib.hid ⟨N4.out.grown g9 (own_ne O4.out N4.out (by decide)), no_step hat (by unfold stOk; simp), ⟨hlen, HC4.out.2, by omega, ⟨HZ.out.n, HZ.out.r, HZ.out.dl, fun i r hr => by
        rw [List.getElem?_set] at hr
        split at hr
        · split at hr
          · cases hr; exact ⟨(ZS.out kk p HP.out).1, (by (try dsimp only); first | omega | decide), (by (try dsimp only); first | omega | decide)⟩
          · cases hr
        · exact ZS.out i r hr⟩, slD_own O9 hlen⟩, K4.out.grown g9 K4.out.size (fun j e => by cases e; exact HGB.out.1)⟩
      clear O9 g9 hlen hat
      go_wp2_with fail
      go_meet
      case rel => exact ⟨_, _, _, _, HF⟩
    · have O9 := own_set O4.out (kk * 2 + 1) (.int .i64 (-1152921504606846977))
      rw [flat_val d.s kk p (-1152921504606846977) HP.out] at O9
      have hlen : (d.s.set kk ⟨p.k, -1152921504606846977⟩).length = n := by rw [List.length_set, HL.out.1]
      have hat : (d.s.set kk ⟨p.k, -1152921504606846977⟩)[kk]? = some ⟨p.k, -1152921504606846977⟩ := by rw [List.getElem?_set_self (by rw [HL.out.1]; exact HKL.out)]
      have g9 := grown_set (World.grownBy.refl w4 (some g)) (kk * 2 + 1) (.int .i64 (-1152921504606846977))
      have HF : Hid (FlawR w2 (w4.setCell ⟨g, kk * 2 + 1, none⟩ (.int .i64 (-1152921504606846977))) C { d with s := d.s.set kk ⟨p.k, -1152921504606846977⟩ } (some ⟨g, 0, none⟩) n c3) := Lib.hid ⟨N4.out.grown g9 (own_ne O4.out N4.out (by decide)), no_step hat (by unfold stOk; simp), ⟨hlen, HC4.out.2, by omega, ⟨HZ.out.n, HZ.out.r, HZ.out.dl, fun i r hr => by
        rw [List.getElem?_set] at hr
        split at hr
        · split at hr
          · cases hr; exact ⟨(ZS.out kk p HP.out).1, (by (try dsimp only); first | omega | decide), (by (try dsimp only); first | omega | decide)⟩
          · cases hr
        · exact ZS.out i r hr⟩, slD_own O9 hlen⟩, K4.out.grown g9 K4.out.size (fun j e => by cases e; exact HGB.out.1)⟩
      clear O9 g9 hlen hat
      go_wp2_with fail
      go_meet
      case rel => exact ⟨_, _, _, _, HF⟩
    · have bd := (Below.refl w4.heap.size w4).drew
      have bda : Below w4.heap.size w4 (w4.drew.alloc (.cells #[.string p.k, .int .i64 p.v] 37)) := bd.trans ((Below.refl w4.drew.heap.size w4.drew).alloc (Nat.le_refl _) _)
      obtain ⟨v9, w9, hr9, ho9, hg9⟩ := run_app_step (w4.drew.alloc (.cells #[.string p.k, .int .i64 p.v] 37)) w2.heap.size _ n _ (O4.out.drew.alloc _) ⟨w4.heap.size, 0, none⟩ 1 1 (stC p) rfl (news_at w4.drew _ (stC p) _ rfl) (by simp [stC, Value.oneCell']) (by omega) (by have := K4.out.size; simp; omega)
      obtain ⟨A9, c9, rfl, hc9⟩ := own_slice2 ho9
      have hgC : some C ≠ some g := own_ne O4.out N4.out (by decide)
      have N9 := (N4.out.keep bda).grown hg9 (by simpa [Value.ownBlock] using hgC)
      have cC := N9.cell 3
      simp only [List.getElem?_toArray, List.getElem?_cons_succ, List.getElem?_cons_zero] at cC
      have fC := N9.fr 3
      have g10 := grown_set (World.grownBy.refl w9 (some C)) 3 (.slice A9 (n + 1) c9)
      have o10 := ho9.kept g10 (Or.inr (own_ne ho9 N9 (by decide)).symm)
      rw [show (d.s.flatMap stC) ++ stC p = (d.s ++ [p]).flatMap stC by rw [List.flatMap_append]; simp] at o10
      have k9 := ((K4.out.trans (bda.mono K4.out.size)).grown hg9 (Nat.le_trans K4.out.size bda.size) (fun j e => (O4.out.lt j e).1))
      have hlen : (d.s ++ [p]).length = n + 1 := by rw [List.length_append, HL.out.1]; rfl
      have HF : Hid (FlawR w2 (w9.setCell ⟨C, 3, none⟩ (.slice A9 (n + 1) c9)) C { d with s := d.s ++ [p] } A9 (n + 1) c9) := Lib.hid ⟨by simpa using N9.put 3 (.slice A9 (n + 1) c9), no_twice (by rw [HL.out.1]; exact HKL.out) HP.out, ⟨hlen, hc9, by omega, ⟨HZ.out.n, HZ.out.r, HZ.out.dl, fun i r hr => by
        rcases List.mem_append.1 (List.mem_of_getElem? hr) with hm | hm
        · obtain ⟨j, hj⟩ := List.getElem?_of_mem hm
          exact ZS.out j r hj
        · simp only [List.mem_cons, List.not_mem_nil, or_false] at hm
          rw [hm]; exact ZS.out kk p HP.out⟩, slD_own o10 hlen⟩, k9.grown g10 (Nat.le_trans K4.out.size (Nat.le_trans bda.size hg9.size)) (fun j e => by cases e; exact HC4.out.1)⟩
      have R := Lib.hid hr9
      have xa := bcell x3 bda
      have xa2 := acell (.cells #[.string p.k, .int .i64 p.v] 37) x3
      clear hr9 ho9 hg9 N9 g10 o10 k9 hlen bd bda hc9 hgC
      go_upto_region 35 with fail
      refine wp_region_held_drew (S := fun _ => True) (by kernel_rfl) trivial (fun hHeld => ?_)
      refine wpAnyH_take (i := 0) (v := ?_) rfl (by kernel_rfl) (by kernel_rfl) (by kernel_rfl) (fun _ _ _ h => h) (Or.inl ⟨by rfl, ?_⟩) (by assumption) ?_
      rotate_left
      · intro w hSw
        go_simp
        try with_reducible rfl
      simp only [Act.put, List.getElem_toArray, List.getElem_cons_zero, List.setIfInBounds_toArray, List.set_cons_zero, List.set_cons_succ]
      refine wpAnyH_take (i := 2) (v := ?_) rfl (by kernel_rfl) (by kernel_rfl) (by kernel_rfl) (fun _ _ _ h => h) (Or.inl ⟨by rfl, ?_⟩) (by assumption) ?_
      rotate_left
      · intro w hSw
        go_simp
        try with_reducible rfl
      simp only [Act.put, List.getElem_toArray, List.getElem_cons_succ, List.getElem_cons_zero, List.setIfInBounds_toArray, List.set_cons_zero, List.set_cons_succ]
      refine wpAnyH_take (i := 4) (v := ?_) rfl (by kernel_rfl) (by kernel_rfl) (by kernel_rfl) (fun _ _ _ h => h) (Or.inl ⟨by rfl, ?_⟩) (by assumption) ?_
      rotate_left
      · intro w hSw
        go_simp
        try with_reducible rfl
      simp only [Act.put, List.getElem_toArray, List.getElem_cons_succ, List.getElem_cons_zero, List.setIfInBounds_toArray, List.set_cons_zero, List.set_cons_succ]
      refine wpAnyH_ready (rs := [1, 3]) (by kernel_rfl) (by simp) ?_
      refine AllReadyH.cons rfl (fun K hK => ?_) (AllReadyH.cons rfl (fun K hK => ?_) AllReadyH.nil)
      · go_simp
        refine hK.out _ _ ?_ (fun hHeld' => ?_)
        · trivial
        clear hK K hHeld
        have hHeld := hHeld'
        clear hHeld'
        try simp only [Act.put, List.getElem_toArray, List.getElem_cons_succ, List.getElem_cons_zero, List.setIfInBounds_toArray, List.set_cons_zero, List.set_cons_succ]
        refine wpAnyH_ready (rs := [3]) (by kernel_rfl) (by simp) ?_
        refine AllReadyH.cons rfl (fun K hK => ?_) AllReadyH.nil
        go_simp
        refine hK.out _ _ ?_ (fun hHeld' => ?_)
        · trivial
        clear hK K hHeld
        have hHeld := hHeld'
        clear hHeld'
        try simp only [Act.put, List.getElem_toArray, List.getElem_cons_succ, List.getElem_cons_zero, List.setIfInBounds_toArray, List.set_cons_zero, List.set_cons_succ]
        refine wpAnyH_take (i := 5) (v := ?_) rfl (by kernel_rfl) (by kernel_rfl) (by kernel_rfl) (fun _ _ _ h => h) (Or.inl ⟨by rfl, ?_⟩) (by assumption) ?_
        rotate_left
        · intro w hSw
          go_simp
          try with_reducible rfl
        simp only [Act.put, List.getElem_toArray, List.getElem_cons_succ, List.getElem_cons_zero, List.setIfInBounds_toArray, List.set_cons_zero, List.set_cons_succ]
        refine wpAnyH_ready (rs := [6]) (by kernel_rfl) (by simp) ?_
        refine AllReadyH.cons rfl (fun K hK => ?_) AllReadyH.nil
        go_simp
        refine hK.out _ _ ?_ (fun hHeld' => ?_)
        · trivial
        clear hK K hHeld
        have hHeld := hHeld'
        clear hHeld'
        try simp only [Act.put, List.getElem_toArray, List.getElem_cons_succ, List.getElem_cons_zero, List.setIfInBounds_toArray, List.set_cons_zero, List.set_cons_succ]
        refine wpAnyH_ready (rs := [7]) (by kernel_rfl) (by simp) ?_
        refine AllReadyH.cons rfl (fun K hK => ?_) AllReadyH.nil
        go_simp
        refine hK.out _ _ ?_ (fun hHeld' => ?_)
        · trivial
        clear hK K hHeld
        have hHeld := hHeld'
        clear hHeld'
        try simp only [Act.put, List.getElem_toArray, List.getElem_cons_succ, List.getElem_cons_zero, List.setIfInBounds_toArray, List.set_cons_zero, List.set_cons_succ]
        refine wpAnyH_ready (rs := [8]) (by kernel_rfl) (by simp) ?_
        refine AllReadyH.cons rfl (fun K hK => ?_) AllReadyH.nil
        refine step_append_run (by rfl) (.tmp 110) (.tmp 116) 22 22 (by rfl) (by rfl) (by rfl) R.out ?_
        refine hK.out _ _ ?_ (fun hHeld' => ?_)
        · trivial
        clear hK K hHeld
        have hHeld := hHeld'
        clear hHeld'
        try simp only [Act.put, List.getElem_toArray, List.getElem_cons_succ, List.getElem_cons_zero, List.setIfInBounds_toArray, List.set_cons_zero, List.set_cons_succ]
        refine wpAnyH_take (i := 9) (v := ?_) rfl (by kernel_rfl) (by kernel_rfl) (by kernel_rfl) (fun _ _ _ h => h) (Or.inl ⟨by rfl, ?_⟩) (by assumption) ?_
        rotate_left
        · intro w hSw
          go_simp
          try with_reducible rfl
        simp only [Act.put, List.getElem_toArray, List.getElem_cons_succ, List.getElem_cons_zero, List.setIfInBounds_toArray, List.set_cons_zero, List.set_cons_succ]
        refine wpAnyH_ready (rs := [10]) (by kernel_rfl) (by simp) ?_
        refine AllReadyH.cons rfl (fun K hK => ?_) AllReadyH.nil
        go_simp
        refine hK.out _ _ ?_ (fun hHeld' => ?_)
        · trivial
        clear hK K hHeld
        have hHeld := hHeld'
        clear hHeld'
        try simp only [Act.put, List.getElem_toArray, List.getElem_cons_succ, List.getElem_cons_zero, List.setIfInBounds_toArray, List.set_cons_zero, List.set_cons_succ]
        refine wpAnyH_done (by kernel_rfl) ?_ _
        clear hHeld R xa xa2 cC fC
        go_wp2_with fail
        go_meet
        case rel => exact ⟨_, _, _, _, HF⟩
      · go_simp
        refine hK.out _ _ ?_ (fun hHeld' => ?_)
        · trivial
        clear hK K hHeld
        have hHeld := hHeld'
        clear hHeld'
        try simp only [Act.put, List.getElem_toArray, List.getElem_cons_succ, List.getElem_cons_zero, List.setIfInBounds_toArray, List.set_cons_zero, List.set_cons_succ]
        refine wpAnyH_take (i := 5) (v := ?_) rfl (by kernel_rfl) (by kernel_rfl) (by kernel_rfl) (fun _ _ _ h => h) (Or.inl ⟨by rfl, ?_⟩) (by assumption) ?_
        rotate_left
        · intro w hSw
          go_simp
          try with_reducible rfl
        simp only [Act.put, List.getElem_toArray, List.getElem_cons_succ, List.getElem_cons_zero, List.setIfInBounds_toArray, List.set_cons_zero, List.set_cons_succ]
        refine wpAnyH_ready (rs := [1, 6]) (by kernel_rfl) (by simp) ?_
        refine AllReadyH.cons rfl (fun K hK => ?_) (AllReadyH.cons rfl (fun K hK => ?_) AllReadyH.nil)
        · go_simp
          refine hK.out _ _ ?_ (fun hHeld' => ?_)
          · trivial
          clear hK K hHeld
          have hHeld := hHeld'
          clear hHeld'
          try simp only [Act.put, List.getElem_toArray, List.getElem_cons_succ, List.getElem_cons_zero, List.setIfInBounds_toArray, List.set_cons_zero, List.set_cons_succ]
          refine wpAnyH_ready (rs := [6]) (by kernel_rfl) (by simp) ?_
          refine AllReadyH.cons rfl (fun K hK => ?_) AllReadyH.nil
          go_simp
          refine hK.out _ _ ?_ (fun hHeld' => ?_)
          · trivial
          clear hK K hHeld
          have hHeld := hHeld'
          clear hHeld'
          try simp only [Act.put, List.getElem_toArray, List.getElem_cons_succ, List.getElem_cons_zero, List.setIfInBounds_toArray, List.set_cons_zero, List.set_cons_succ]
          refine wpAnyH_ready (rs := [7]) (by kernel_rfl) (by simp) ?_
          refine AllReadyH.cons rfl (fun K hK => ?_) AllReadyH.nil
          go_simp
          refine hK.out _ _ ?_ (fun hHeld' => ?_)
          · trivial
          clear hK K hHeld
          have hHeld := hHeld'
          clear hHeld'
          try simp only [Act.put, List.getElem_toArray, List.getElem_cons_succ, List.getElem_cons_zero, List.setIfInBounds_toArray, List.set_cons_zero, List.set_cons_succ]
          refine wpAnyH_ready (rs := [8]) (by kernel_rfl) (by simp) ?_
          refine AllReadyH.cons rfl (fun K hK => ?_) AllReadyH.nil
          refine step_append_run (by rfl) (.tmp 110) (.tmp 116) 22 22 (by rfl) (by rfl) (by rfl) R.out ?_
          refine hK.out _ _ ?_ (fun hHeld' => ?_)
          · trivial
          clear hK K hHeld
          have hHeld := hHeld'
          clear hHeld'
          try simp only [Act.put, List.getElem_toArray, List.getElem_cons_succ, List.getElem_cons_zero, List.setIfInBounds_toArray, List.set_cons_zero, List.set_cons_succ]
          refine wpAnyH_take (i := 9) (v := ?_) rfl (by kernel_rfl) (by kernel_rfl) (by kernel_rfl) (fun _ _ _ h => h) (Or.inl ⟨by rfl, ?_⟩) (by assumption) ?_
          rotate_left
          · intro w hSw
            go_simp
            try with_reducible rfl
          simp only [Act.put, List.getElem_toArray, List.getElem_cons_succ, List.getElem_cons_zero, List.setIfInBounds_toArray, List.set_cons_zero, List.set_cons_succ]
          refine wpAnyH_ready (rs := [10]) (by kernel_rfl) (by simp) ?_
          refine AllReadyH.cons rfl (fun K hK => ?_) AllReadyH.nil
          go_simp
          refine hK.out _ _ ?_ (fun hHeld' => ?_)
          · trivial
          clear hK K hHeld
          have hHeld := hHeld'
          clear hHeld'
          try simp only [Act.put, List.getElem_toArray, List.getElem_cons_succ, List.getElem_cons_zero, List.setIfInBounds_toArray, List.set_cons_zero, List.set_cons_succ]
          refine wpAnyH_done (by kernel_rfl) ?_ _
          clear hHeld R xa xa2 cC fC
          go_wp2_with fail
          go_meet
          case rel => exact ⟨_, _, _, _, HF⟩
        · go_simp
          refine hK.out _ _ ?_ (fun hHeld' => ?_)
          · trivial
          clear hK K hHeld
          have hHeld := hHeld'
          clear hHeld'
          try simp only [Act.put, List.getElem_toArray, List.getElem_cons_succ, List.getElem_cons_zero, List.setIfInBounds_toArray, List.set_cons_zero, List.set_cons_succ]
          refine wpAnyH_ready (rs := [1, 7]) (by kernel_rfl) (by simp) ?_
          refine AllReadyH.cons rfl (fun K hK => ?_) (AllReadyH.cons rfl (fun K hK => ?_) AllReadyH.nil)
          · go_simp
            refine hK.out _ _ ?_ (fun hHeld' => ?_)
            · trivial
            clear hK K hHeld
            have hHeld := hHeld'
            clear hHeld'
            try simp only [Act.put, List.getElem_toArray, List.getElem_cons_succ, List.getElem_cons_zero, List.setIfInBounds_toArray, List.set_cons_zero, List.set_cons_succ]
            refine wpAnyH_ready (rs := [7]) (by kernel_rfl) (by simp) ?_
            refine AllReadyH.cons rfl (fun K hK => ?_) AllReadyH.nil
            go_simp
            refine hK.out _ _ ?_ (fun hHeld' => ?_)
            · trivial
            clear hK K hHeld
            have hHeld := hHeld'
            clear hHeld'
            try simp only [Act.put, List.getElem_toArray, List.getElem_cons_succ, List.getElem_cons_zero, List.setIfInBounds_toArray, List.set_cons_zero, List.set_cons_succ]
            refine wpAnyH_ready (rs := [8]) (by kernel_rfl) (by simp) ?_
            refine AllReadyH.cons rfl (fun K hK => ?_) AllReadyH.nil
            refine step_append_run (by rfl) (.tmp 110) (.tmp 116) 22 22 (by rfl) (by rfl) (by rfl) R.out ?_
            refine hK.out _ _ ?_ (fun hHeld' => ?_)
            · trivial
            clear hK K hHeld
            have hHeld := hHeld'
            clear hHeld'
            try simp only [Act.put, List.getElem_toArray, List.getElem_cons_succ, List.getElem_cons_zero, List.setIfInBounds_toArray, List.set_cons_zero, List.set_cons_succ]
            refine wpAnyH_take (i := 9) (v := ?_) rfl (by kernel_rfl) (by kernel_rfl) (by kernel_rfl) (fun _ _ _ h => h) (Or.inl ⟨by rfl, ?_⟩) (by assumption) ?_
            rotate_left
            · intro w hSw
              go_simp
              try with_reducible rfl
            simp only [Act.put, List.getElem_toArray, List.getElem_cons_succ, List.getElem_cons_zero, List.setIfInBounds_toArray, List.set_cons_zero, List.set_cons_succ]
            refine wpAnyH_ready (rs := [10]) (by kernel_rfl) (by simp) ?_
            refine AllReadyH.cons rfl (fun K hK => ?_) AllReadyH.nil
            go_simp
            refine hK.out _ _ ?_ (fun hHeld' => ?_)
            · trivial
            clear hK K hHeld
            have hHeld := hHeld'
            clear hHeld'
            try simp only [Act.put, List.getElem_toArray, List.getElem_cons_succ, List.getElem_cons_zero, List.setIfInBounds_toArray, List.set_cons_zero, List.set_cons_succ]
            refine wpAnyH_done (by kernel_rfl) ?_ _
            clear hHeld R xa xa2 cC fC
            go_wp2_with fail
            go_meet
            case rel => exact ⟨_, _, _, _, HF⟩
          · go_simp
            refine hK.out _ _ ?_ (fun hHeld' => ?_)
            · trivial
            clear hK K hHeld
            have hHeld := hHeld'
            clear hHeld'
            try simp only [Act.put, List.getElem_toArray, List.getElem_cons_succ, List.getElem_cons_zero, List.setIfInBounds_toArray, List.set_cons_zero, List.set_cons_succ]
            refine wpAnyH_ready (rs := [1]) (by kernel_rfl) (by simp) ?_
            refine AllReadyH.cons rfl (fun K hK => ?_) AllReadyH.nil
            go_simp
            refine hK.out _ _ ?_ (fun hHeld' => ?_)
            · trivial
            clear hK K hHeld
            have hHeld := hHeld'
            clear hHeld'
            try simp only [Act.put, List.getElem_toArray, List.getElem_cons_succ, List.getElem_cons_zero, List.setIfInBounds_toArray, List.set_cons_zero, List.set_cons_succ]
            refine wpAnyH_ready (rs := [8]) (by kernel_rfl) (by simp) ?_
            refine AllReadyH.cons rfl (fun K hK => ?_) AllReadyH.nil
            refine step_append_run (by rfl) (.tmp 110) (.tmp 116) 22 22 (by rfl) (by rfl) (by rfl) R.out ?_
            refine hK.out _ _ ?_ (fun hHeld' => ?_)
            · trivial
            clear hK K hHeld
            have hHeld := hHeld'
            clear hHeld'
            try simp only [Act.put, List.getElem_toArray, List.getElem_cons_succ, List.getElem_cons_zero, List.setIfInBounds_toArray, List.set_cons_zero, List.set_cons_succ]
            refine wpAnyH_take (i := 9) (v := ?_) rfl (by kernel_rfl) (by kernel_rfl) (by kernel_rfl) (fun _ _ _ h => h) (Or.inl ⟨by rfl, ?_⟩) (by assumption) ?_
            rotate_left
            · intro w hSw
              go_simp
              try with_reducible rfl
            simp only [Act.put, List.getElem_toArray, List.getElem_cons_succ, List.getElem_cons_zero, List.setIfInBounds_toArray, List.set_cons_zero, List.set_cons_succ]
            refine wpAnyH_ready (rs := [10]) (by kernel_rfl) (by simp) ?_
            refine AllReadyH.cons rfl (fun K hK => ?_) AllReadyH.nil
            go_simp
            refine hK.out _ _ ?_ (fun hHeld' => ?_)
            · trivial
            clear hK K hHeld
            have hHeld := hHeld'
            clear hHeld'
            try simp only [Act.put, List.getElem_toArray, List.getElem_cons_succ, List.getElem_cons_zero, List.setIfInBounds_toArray, List.set_cons_zero, List.set_cons_succ]
            refine wpAnyH_done (by kernel_rfl) ?_ _
            clear hHeld R xa xa2 cC fC
            go_wp2_with fail
            go_meet
            case rel => exact ⟨_, _, _, _, HF⟩
    · rw [show (((12 : Nat)) : Int) = 12 from rfl]
      have J0 : Hid (Whole w4 C 24 #[.string d.n, .int .i64 d.r, .int .i64 d.dl, .slice (some ⟨g, 0, none⟩) (n + 0) c3] ∧ w4.ownsRow w2.heap.size 37 2 (.slice (some ⟨g, 0, none⟩) (n + 0) c3) (n + 0) (d.s.flatMap stC) ∧ d.s.length = n + 0 ∧ (∀ p ∈ d.s, SpZ p) ∧ n + 0 ≤ c3 ∧ Below w2.heap.size w2 w4) := Lib.hid ⟨N4.out, O4.out, HL.out.1, fun r hr => by
        obtain ⟨j, hj⟩ := List.getElem?_of_mem hr
        exact ZS.out j r hj, HC4.out.2, K4.out⟩
      have HCC := Lib.hid HC4.out.1
      clear z0 z1 hk0 hkl' fk fv HP HKL HGB hkl x0 x1 x2 x3 f0 f1 f2 f3 O4 N4 K4 HC4
      go_wp2_with fail
      go_loopw [9] (fun i wr => ∃ (j : Nat) (A' : Option Addr) (c' : Nat) (L : List Sp), n + j ≤ 9 ∧ i = .int .i64 j ∧ Hid (Whole wr C 24 #[.string d.n, .int .i64 d.r, .int .i64 d.dl, .slice A' (n + j) c'] ∧ wr.ownsRow w2.heap.size 37 2 (.slice A' (n + j) c') (n + j) (L.flatMap stC) ∧ L.length = n + j ∧ (∀ p ∈ L, SpZ p) ∧ n + j ≤ c' ∧ Below w2.heap.size w2 wr)) (fun i _ => 9 - ((intOf i).toNat + n))
      case atStart => exact ⟨0, _, _, d.s, by omega, rfl, J0⟩
      case round =>
        clear J0
        obtain ⟨j, A', c', L, hj, rfl, HJ⟩ := hrel
        obtain ⟨⟨x0, x1, x2, x3⟩, f0, f1, f2, f3⟩ := whole4 HJ.out.1
        obtain ⟨m, hm⟩ : ∃ m, m = n + j := ⟨_, rfl⟩
        have HM := Lib.hid hm
        rw [← hm] at HJ x3 hj
        clear hm
        by_cases hm9 : m < 9
        · obtain ⟨ch, hch⟩ : ∃ ch : UInt8, ch = (97 + j).toUInt8 := ⟨_, rfl⟩
          have hchn : ch.toNat = 97 + j := by rw [hch]; exact u8_lt (by have := HM.out; omega)
          have hcc : (97 : Int) + (j : Int) = (ch.toNat : Int) := by omega
          have hw1 : IntKind.u8.wrap (j : Int) = (j : Int) := by rw [IntKind.wrap_u8]; have := HM.out; omega
          have hw2 : IntKind.u8.wrap (ch.toNat : Int) = (ch.toNat : Int) := by rw [IntKind.wrap_u8]; have := HM.out; omega
          have hwj : IntKind.i64.wrap ((j : Int) + 1) = (j : Int) + 1 := IntWalk.i64_in _ (by have := HM.out; omega)
          have hm9' : (m : Int) < 9 := by omega
          have ba := (Below.refl wr.heap.size wr).alloc (Nat.le_refl _) (.cells #[.int .u8 (ch.toNat : Int)] 5)
          have hcv := conv_bytes (SlB.of_own (own_one wr ch)) 1
          unfold u8V at hcv
          have zn : (⟨#[110, 111, 110, 101]⟩ : ByteArray).size = 4 := rfl
          have zc : (⟨[ch].toArray⟩ : ByteArray).size = 1 := rfl
          obtain ⟨tt, et, mt, st⟩ := add_ba ⟨#[110, 111, 110, 101]⟩ ⟨[ch].toArray⟩ (by omega)
          have bb2 := (Below.refl (wr.alloc (.cells #[.int .u8 (ch.toNat : Int)] 5)).heap.size (wr.alloc (.cells #[.int .u8 (ch.toNat : Int)] 5))).alloc (Nat.le_refl _) (.cells #[.string tt, .int .i64 1] 37)
          have bb := ba.trans (bb2.mono ba.size)
          obtain ⟨v9, w9, hr9, ho9, hg9⟩ := run_app_step ((wr.alloc (.cells #[.int .u8 (ch.toNat : Int)] 5)).alloc (.cells #[.string tt, .int .i64 1] 37)) w2.heap.size _ m _ ((HJ.out.2.1.alloc _).alloc _) ⟨(wr.alloc (.cells #[.int .u8 (ch.toNat : Int)] 5)).heap.size, 0, none⟩ 1 1 [.string tt, .int .i64 1] rfl (news_at (wr.alloc (.cells #[.int .u8 (ch.toNat : Int)] 5)) _ [.string tt, .int .i64 1] _ rfl) (by simp [Value.oneCell']) (by omega) (by have := HJ.out.2.2.2.2.2.size; simp; omega)
          obtain ⟨A9, c9, rfl, hc9⟩ := own_slice2 ho9
          have N9 := (HJ.out.1.keep bb).grown hg9 (own_ne HJ.out.2.1 HJ.out.1 (by decide))
          have cC := N9.cell 3
          simp only [List.getElem?_toArray, List.getElem?_cons_succ, List.getElem?_cons_zero] at cC
          have fC := N9.fr 3
          have xa := bcell x3 ba
          have g10 := grown_set (World.grownBy.refl w9 (some C)) 3 (.slice A9 (m + 1) c9)
          have o10 := ho9.kept g10 (Or.inr (own_ne ho9 N9 (by decide)).symm)
          rw [show (L.flatMap stC) ++ [.string tt, .int .i64 1] = (L ++ [(⟨tt, 1⟩ : Sp)]).flatMap stC by rw [List.flatMap_append]; simp [stC]] at o10
          have kb := HJ.out.2.2.2.2.2
          have k9 := (kb.trans (bb.mono kb.size)).grown hg9 (Nat.le_trans kb.size bb.size) (fun i e => (HJ.out.2.1.lt i e).1)
          have HF : Hid (Whole (w9.setCell ⟨C, 3, none⟩ (.slice A9 (m + 1) c9)) C 24 #[.string d.n, .int .i64 d.r, .int .i64 d.dl, .slice A9 (m + 1) c9] ∧ (w9.setCell ⟨C, 3, none⟩ (.slice A9 (m + 1) c9)).ownsRow w2.heap.size 37 2 (.slice A9 (m + 1) c9) (m + 1) ((L ++ [(⟨tt, 1⟩ : Sp)]).flatMap stC) ∧ (L ++ [(⟨tt, 1⟩ : Sp)]).length = m + 1 ∧ (∀ p ∈ L ++ [(⟨tt, 1⟩ : Sp)], SpZ p) ∧ m + 1 ≤ c9 ∧ Below w2.heap.size w2 (w9.setCell ⟨C, 3, none⟩ (.slice A9 (m + 1) c9))) := Lib.hid ⟨by simpa using N9.put 3 (.slice A9 (m + 1) c9), o10, by rw [List.length_append, HJ.out.2.2.1]; rfl, fun r hr => by
            rcases List.mem_append.1 hr with hr | hr
            · exact HJ.out.2.2.2.1 r hr
            · simp only [List.mem_cons, List.not_mem_nil, or_false] at hr
              rw [hr]; exact ⟨by dsimp only; omega, by dsimp only; omega, by dsimp only; omega⟩, hc9, k9.grown g10 (Nat.le_trans kb.size (Nat.le_trans bb.size hg9.size)) (fun i e => by cases e; exact HCC.out)⟩
          have R := Lib.hid hr9
          have HM1 : Hid (n + (j + 1) = m + 1) := Lib.hid (by have := HM.out; omega)
          simp only [World.size_alloc] at R
          clear hr9 ho9 hg9 N9 g10 o10 k9 kb bb bb2 ba hch hchn zn zc mt et hc9 HJ
          go_wp2_with (at_builtin; refine wpList_append_run rfl (.tmp 44) (.tmp 52) 22 22 rfl rfl rfl R.out ?_)
          go_roundw
          case rel => exact ⟨j + 1, A9, c9, L ++ [(⟨tt, 1⟩ : Sp)], by have := HM1.out; omega, by go_num, by rw [HM1.out]; exact HF⟩
          case measure => have := HM.out; simp [intOf]; omega
        · obtain rfl : m = 9 := by omega
          have HF : Hid (FlawR w2 wr C { d with s := L } A' 9 c') := Lib.hid ⟨HJ.out.1, (fun h => by have h1 := h.2.2.2.2.2.2.1; dsimp only at h1; rw [HJ.out.2.2.1] at h1; omega), ⟨HJ.out.2.2.1, HJ.out.2.2.2.2.1, by omega, ⟨HZ.out.n, HZ.out.r, HZ.out.dl, fun i r hr => HJ.out.2.2.2.1 r (List.mem_of_getElem? hr)⟩, slD_own HJ.out.2.1 HJ.out.2.2.1⟩, HJ.out.2.2.2.2.2⟩
          clear HJ
          go_wp2_with fail
          go_meet
          case rel => exact ⟨_, _, _, _, HF⟩
  case rest =>
    obtain ⟨x, A', n', c', HF⟩ := hcut
    have BC := Lib.hid (B2.out.trans (HF.out.b.mono B2.out.size))
    have WB := Lib.hid (W2.out.keep HF.out.b)
    have TX := Lib.hid ((defText_any x A' n' c' wc HF.out.at_ (HE.out.keep BC.out)).mono (fun e w' ⟨h, hb⟩ => And.intro (h.resolve_left (fun h => HF.out.no h.1)).2 hb))
    have NT := Lib.hid (fun (W : World) (hb : Below wc.heap.size wc W) => (net_any x A' n' c' W (HF.out.at_.keep hb)).mono (fun e w' ⟨h, hb⟩ => And.intro (h.resolve_left (fun h => HF.out.no h.1)).2 hb))
    have CK := Lib.hid (fun (W : World) (hb : Below wc.heap.size wc W) => defCheck_any x A' n' c' W (HF.out.at_.keep hb))
    rw [ckD_no HF.out.no] at CK
    have hdx : ¬ (d = x) := fun e => HF.out.no (e ▸ HOK.out)
    have HDX := Lib.hid hdx
    have E1 := Lib.hid (fun (W : World) (hb : Below wc.heap.size wc W) => (defEqual_any d x A A' n n' c c' W (HA.out W (BC.out.trans (hb.mono BC.out.size)) HS.out) (HF.out.at_.keep hb)).mono (R' := fun e w' => e = .returned (.bool false) ∧ Below W.heap.size W w') (fun e w' ⟨⟨q0, he, hq0⟩, hb⟩ => ⟨by
      rw [he]
      cases q0 with
      | false => rfl
      | true => exact absurd (hq0.1 rfl) HDX.out, hb⟩))
    have E2 := Lib.hid (fun (W : World) (hb : Below wc.heap.size wc W) => (defEqual_any x d A' A n' n c' c W (HF.out.at_.keep hb) (HA.out W (BC.out.trans (hb.mono BC.out.size)) HS.out)).mono (R' := fun e w' => e = .returned (.bool false) ∧ Below W.heap.size W w') (fun e w' ⟨⟨q0, he, hq0⟩, hb⟩ => ⟨by
      rw [he]
      cases q0 with
      | false => rfl
      | true => exact absurd (hq0.1 rfl).symm HDX.out, hb⟩))
    have CELL := Lib.hid (fun (W : World) (hb : Below wc.heap.size wc W) => And.intro (def_cells (WB.out.keep hb)) (def_cells (HF.out.cell.keep hb)))
    unfold dV at TX NT CK E1 E2
    obtain ⟨⟨y0, y1, y2, y3⟩, x0, x1, x2, x3⟩ := CELL.out wc (Below.refl _ _)
    clear hdx
    go_upto_region 37 with (go_at_call 23; refine TX.out.mono ?_; rintro e w5 ⟨rfl, hB⟩; have K5 := Lib.hid hB; clear hB)
    have NT := Lib.hid (NT.out w5 K5.out)
    clear y0 y1 y2 y3 x0 x1 x2 x3 TX
    obtain ⟨⟨y0, y1, y2, y3⟩, x0, x1, x2, x3⟩ := CELL.out w5 K5.out
    go_upto_region 38 with (go_at_call 15; refine NT.out.mono ?_; rintro e w6 ⟨rfl, hB⟩; have K6 := Lib.hid (K5.out.trans (hB.mono K5.out.size)); clear hB)
    have CK := Lib.hid (CK.out w6 K6.out)
    clear y0 y1 y2 y3 x0 x1 x2 x3 NT
    obtain ⟨⟨y0, y1, y2, y3⟩, x0, x1, x2, x3⟩ := CELL.out w6 K6.out
    go_wp2_with (first
      | (go_at_call 25; refine CK.out.mono ?_; rintro e w7 ⟨rfl, hB⟩; have K7 := Lib.hid (K6.out.trans (hB.mono K6.out.size)); have E1 := Lib.hid (E1.out w7 K7.out); obtain ⟨⟨y0, y1, y2, y3⟩, x0, x1, x2, x3⟩ := CELL.out w7 K7.out; clear hB CK)
      | (go_at_call 17; go_fit E1.out; rintro e w8 ⟨rfl, hB⟩; have K8 := Lib.hid (K7.out.trans (hB.mono K7.out.size)); have E2 := Lib.hid (E2.out w8 K8.out); obtain ⟨⟨y0, y1, y2, y3⟩, x0, x1, x2, x3⟩ := CELL.out w8 K8.out; clear hB E1)
      | (go_at_call 17; go_fit E2.out; rintro e w9 ⟨rfl, hB⟩; have K9 := Lib.hid (K8.out.trans (hB.mono K8.out.size)); have WF := Lib.hid (WK.out w9 (BC.out.trans (K9.out.mono BC.out.size))); clear hB E2)
      | (go_at_call 12; refine WF.out.mono ?_; rintro e w10 ⟨rfl, hB10⟩))
    go_ret
    exact ⟨rfl, (BC.out.trans (K9.out.mono BC.out.size)).trans (hB10.mono (BC.out.trans (K9.out.mono BC.out.size)).size)⟩
end Go.Proofs.YtgeljnjcpkmlmaaGreatDoor
