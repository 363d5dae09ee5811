/- RouteRestores returns true at every input. Condition: the lists lie ahead. -/
import Derived.Test.YtkkkppbcjmeapaaDoorRRstP
import Derived.Great.Walk
namespace Go.Proofs.YtkkkppbcjmeapaaDoor
open Go.RowKit Go.Shelf

theorem Cln.keep {B : Nat} {w w' : World} {t : TypeId} {v : Value} {n size : Nat} (h : Cln B w t v n size) (hb : Below w.heap.size w w') : Cln B w' t v n size := fun hn => by
  obtain ⟨g, c, cur, h1, h2, h3, h4⟩ := h hn
  exact ⟨g, c, cur, h1, h2, h3.below hb h3.lt, h4⟩
theorem jkeep {w W W' : World} {v0 v1 v2 : Value} {R : List (ByteArray × ByteArray)} {G E : List Int} (h : Hid (Below w.heap.size w W ∧ SlR W v0 R ∧ SlI W v1 G ∧ SlI W v2 E)) (hb : Below W.heap.size W W') : Below w.heap.size w W' ∧ SlR W' v0 R ∧ SlI W' v1 G ∧ SlI W' v2 E :=
  ⟨h.out.1.trans (hb.mono h.out.1.size), h.out.2.1.keep hb, h.out.2.2.1.keep hb, h.out.2.2.2.keep hb⟩
theorem whole_apart2 {w : World} {b b' : Nat} {t t' : TypeId} {cs cs' : Array Value} (h : Whole w b t cs) (h' : Whole w b' t' cs') (ht : t ≠ t') : b ≠ b' := by
  rintro rfl
  have e := (show w.heap[b]? = _ from h).symm.trans (show w.heap[b]? = _ from h')
  injection e with e
  injection e with _ e2 _
  exact ht e2
theorem RM.apart {w : World} {C b : Nat} {d : List Pt} {t : TypeId} {cs : Array Value} (h : RM w C d) (h' : Whole w b t cs) (ht : t ≠ 106) : b ≠ C := by
  obtain ⟨g, cap, h1, _⟩ := h
  exact whole_apart2 h' h1 ht
set_option maxRecDepth 100000 in
set_option maxHeartbeats 16000000 in
theorem routeRestores_any (a b c : Option Addr) (n m k c0 c1 c2 : Nat) (R : List (ByteArray × ByteArray)) (G E : List Int) (x y : ByteArray) (gg : Int) (q : Bool) (w : World) (h0 : SlR w (.slice a n c0) R) (h1 : SlI w (.slice b m c1) G) (h2 : SlI w (.slice c k c2) E) (hn : R.length = n) (hm : G.length = m) (hk : E.length = k)
    (hR : ∀ p ∈ R, p.1.size ≤ 9223372036854775807 ∧ p.2.size ≤ 9223372036854775807) (hx : x.size ≤ 9223372036854775807) (hy : y.size ≤ 9223372036854775807) :
    Calls Tryd.prog 10 #[.slice a n c0, .slice b m c1, .slice c k c2, .agg #[.string x, .string y, .int .i64 gg, .bool q]] w fun e w' => e = .returned (.bool true) ∧ Below w.heap.size w w' := by
  have B1 := Lib.hid ((Below.refl w.heap.size w).alloc (Nat.le_refl _) (.cells #[.string x, .string y, .int .i64 gg, .bool q] 68))
  have P1 := Lib.hid (Whole.new w 68 #[.string x, .string y, .int .i64 gg, .bool q])
  have H0 := Lib.hid h0
  have H1 := Lib.hid h1
  have H2 := Lib.hid h2
  have HN := Lib.hid (And.intro hn (And.intro hm hk))
  have HR := Lib.hid hR
  have HX := Lib.hid (And.intro hx hy)
  clear h0 h1 h2 hR hn hm hk hx hy
  go_enter Tryd.func10, Tryd.ntmps10
  go_upto_region 1 with fail
  generalize w.alloc (.cells #[.string x, .string y, .int .i64 gg, .bool q] 68) = w1 at B1 P1 ⊢
  generalize w.heap.size = P at P1 ⊢
  by_cases hn80 : 80 < n
  · as_aux_lemma =>
    have i1 : (80 : Int) < (n : Int) := by omega
    clear hn80
    go_wp2_with (go_at_call 21; refine (works_any _).mono ?_; rintro e w3 ⟨rfl, hb⟩; have HF := Lib.hid (B1.out.trans (hb.mono B1.out.size)); clear hb)
    go_ret
    exact ⟨rfl, HF.out⟩
  have i1 : ¬ ((80 : Int) < (n : Int)) := by omega
  by_cases hm100 : 100 < m
  · as_aux_lemma =>
    have i2 : (100 : Int) < (m : Int) := by omega
    clear hn80 hm100
    go_wp2_with (go_at_call 21; refine (works_any _).mono ?_; rintro e w3 ⟨rfl, hb⟩; have HF := Lib.hid (B1.out.trans (hb.mono B1.out.size)); clear hb)
    go_ret
    exact ⟨rfl, HF.out⟩
  have i2 : ¬ ((100 : Int) < (m : Int)) := by omega
  by_cases hk100 : 100 < k
  · as_aux_lemma =>
    have i3 : (100 : Int) < (k : Int) := by omega
    clear hn80 hm100 hk100
    go_wp2_with (go_at_call 21; refine (works_any _).mono ?_; rintro e w3 ⟨rfl, hb⟩; have HF := Lib.hid (B1.out.trans (hb.mono B1.out.size)); clear hb)
    go_ret
    exact ⟨rfl, HF.out⟩
  have i3 : ¬ ((100 : Int) < (k : Int)) := by omega
  have y0 := (P1.out.cell 0).trans (show _ = some (Value.string x) from rfl)
  have y1 := (P1.out.cell 1).trans (show _ = some (Value.string y) from rfl)
  have y2 := (P1.out.cell 2).trans (show _ = some (Value.int .i64 gg) from rfl)
  have y3 := (P1.out.cell 3).trans (show _ = some (Value.bool q) from rfl)
  have ba := (Below.refl w1.heap.size w1).alloc (Nat.le_refl _) (.cells #[.string x, .string y, .int .i64 gg, .bool q] 68)
  have NW := Whole.new w1 68 #[.string x, .string y, .int .i64 gg, .bool q]
  have FW := Lib.hid (few_any (some ⟨w1.heap.size, 0, none⟩) 1 1 [((x, y), gg, q)] (w1.alloc (.cells #[.string x, .string y, .int .i64 gg, .bool q] 68)) rfl (by decide) (fun i p hi => by
    match i with
    | 0 =>
      cases hi
      exact ⟨HX.out.1, HX.out.2, ⟨w1.heap.size, 0, none⟩, rfl, NW.cell 0, NW.cell 1, NW.cell 2, NW.cell 3⟩
    | i + 1 => simp at hi))
  have BB := Lib.hid (B1.out.trans (ba.mono B1.out.size))
  have P2 := Lib.hid (P1.out.below ba P1.out.lt)
  clear ba NW
  go_upto_if 41 with (go_at_call 32; refine FW.out.mono ?_; rintro e w3 ⟨⟨fb, rfl⟩, hb⟩; have B3 := Lib.hid (BB.out.trans (hb.mono BB.out.size)); have P3 := Lib.hid (P2.out.below hb P2.out.lt); clear hb FW)
  clear y0 y1 y2 y3 BB P2 B1 P1
  cases fb with
  | false => as_aux_lemma =>
    go_wp2_with (go_at_call 21; refine (works_any _).mono ?_; rintro e w30 ⟨rfl, hb⟩; have HF := Lib.hid (B3.out.trans (hb.mono B3.out.size)); clear hb)
    go_ret
    exact ⟨rfl, HF.out⟩
  | true =>
    have HN8 := Lib.hid (show n ≤ 80 ∧ m ≤ 100 ∧ k ≤ 100 from ⟨by omega, by omega, by omega⟩)
    clear hn80 hm100 hk100 i1 i2 i3
    have hn8 := HN8.out.1
    go_wp2_with fail
    go_loopw [9, 45] (fun z i wr => ∃ (j : Nat) (s : Int), j ≤ n ∧ i = .int .i64 j ∧ z = .int .i64 s ∧ Hid (Below w3.heap.size w3 wr)) (fun _ i _ => n - (intOf i).toNat)
    case atStart => exact ⟨0, _, Nat.zero_le _, rfl, rfl, Lib.hid (Below.refl _ _)⟩
    case round =>
      obtain ⟨j, s, hj, rfl, rfl, HB⟩ := hrel
      by_cases hlt : j < n
      · as_aux_lemma =>
        obtain ⟨p, hp⟩ : ∃ p, R[j]? = some p := ⟨_, List.getElem?_eq_getElem (by rw [HN.out.1]; exact hlt)⟩
        obtain ⟨g, o, rfl, x0, x1⟩ := ((H0.out.keep B3.out).keep HB.out).get hp
        have BA := Lib.hid (HB.out.trans (((Below.refl _ wr).alloc (Nat.le_refl _) (.cells #[.string p.1, .string p.2] 30)).mono HB.out.size))
        have NA := Whole.new wr 30 #[.string p.1, .string p.2]
        have p0 := (NA.cell 0).trans (show _ = some (Value.string p.1) from rfl)
        have p1 := (NA.cell 1).trans (show _ = some (Value.string p.2) from rfl)
        obtain ⟨hz1, hz2⟩ := HR.out p (List.mem_of_getElem? hp)
        have hj0 : (0 : Int) ≤ (j : Int) := by omega
        have hjn : (j : Int) < (n : Int) := by omega
        have hwj : IntKind.i64.wrap ((j : Int) + 1) = (j : Int) + 1 := IntWalk.i64_in _ (by omega)
        clear hp NA
        go_wp2_with fail
        go_roundw
        case rel => exact ⟨j + 1, _, by omega, by go_num, rfl, BA⟩
        case measure => simp [intOf]; omega
      obtain rfl : j = n := by omega
      have hjn : ¬ ((j : Int) < (j : Int)) := by omega
      have BW := Lib.hid (B3.out.trans (HB.out.mono B3.out.size))
      have PW := Lib.hid (P3.out.below HB.out P3.out.lt)
      by_cases hs : 10000 < s
      · as_aux_lemma =>
        go_wp2_with (go_at_call 21; refine (works_any _).mono ?_; rintro e w30 ⟨rfl, hb⟩; have HF := Lib.hid (BW.out.trans (hb.mono BW.out.size)); clear hb)
        go_ret
        exact ⟨rfl, HF.out⟩
      clear B3 P3 HB hlt
      have CR := Lib.hid (cloneR_any _ R wr (H0.out.keep BW.out) (by rw [HN.out.1]; omega))
      go_upto_region 12 with (first
        | (go_at_call 37; refine CR.out.mono ?_; rintro e w4 ⟨v4, rfl, hs4, hc4, hb⟩; have I4 := Lib.hid (And.intro (BW.out.trans (hb.mono BW.out.size)) (And.intro (PW.out.below hb PW.out.lt) (And.intro hs4 (And.intro hc4 hb)))); have C5 := Lib.hid (cloneI_any _ G w4 (H1.out.keep I4.out.1) (by rw [HN.out.2.1]; have := HN8.out; omega)); clear hs4 hc4 hb CR)
        | (go_at_call 38; refine C5.out.mono ?_; rintro e w5 ⟨v5, rfl, hs5, hc5, hb⟩; have I5 := Lib.hid (And.intro (I4.out.1.trans (hb.mono I4.out.1.size)) (And.intro (I4.out.2.1.below hb I4.out.2.1.lt) (And.intro (I4.out.2.2.1.keep hb) (And.intro hs5 (And.intro hc5 hb))))); have C6 := Lib.hid (cloneI_any _ E w5 (H2.out.keep I5.out.1) (by rw [HN.out.2.2]; have := HN8.out; omega)); clear hs5 hc5 hb C5)
        | (go_at_call 38; refine C6.out.mono ?_; rintro e w6 ⟨v6, rfl, hs6, hc6, hb⟩; have I6 := Lib.hid (And.intro (I5.out.1.trans (hb.mono I5.out.1.size)) (And.intro (I5.out.2.1.below hb I5.out.2.1.lt) (And.intro (I5.out.2.2.1.keep hb) (And.intro (I5.out.2.2.2.1.keep hb) (And.intro hs6 (And.intro hc6 hb)))))); clear hs6 hc6 hb C6))
      obtain ⟨a4, d4, hv4, _⟩ := I6.out.2.2.1
      obtain ⟨a5, d5, hv5, _⟩ := I6.out.2.2.2.1
      obtain ⟨a6, d6, hv6, _⟩ := I6.out.2.2.2.2.1
      rw [HN.out.1] at hv4
      rw [HN.out.2.1] at hv5
      rw [HN.out.2.2] at hv6
      subst hv4 hv5 hv6
      have K4 : Hid (Cln wr.heap.size w6 30 (.slice a4 j d4) R.length 2 ∧ Cln w4.heap.size w5 3 (.slice a5 m d5) G.length 1 ∧ Cln w5.heap.size w6 3 (.slice a6 k d6) E.length 1 ∧ (w4.heap.size ≤ w5.heap.size ∧ wr.heap.size ≤ w4.heap.size) ∧ Below w5.heap.size w5 w6) := Lib.hid ⟨(I4.out.2.2.2.1.keep I5.out.2.2.2.2.2).keep I6.out.2.2.2.2.2.2, I5.out.2.2.2.2.1, I6.out.2.2.2.2.2.1, ⟨I5.out.2.2.2.2.2.size, I4.out.2.2.2.2.size⟩, I6.out.2.2.2.2.2.2⟩
      have J6 : Hid (Below w.heap.size w w6 ∧ SlR w6 (.slice a4 j d4) R ∧ SlI w6 (.slice a5 m d5) G ∧ SlI w6 (.slice a6 k d6) E) := Lib.hid ⟨I6.out.1, I6.out.2.2.1, I6.out.2.2.2.1, I6.out.2.2.2.2.1⟩
      have PX := Lib.hid I6.out.2.1
      have HW6 := Lib.hid I6.out.1.size
      clear I4 I5 I6 hs
      by_cases heq : m = j ∧ k = j
      · obtain ⟨rfl, rfl⟩ := heq
        obtain ⟨d, hd⟩ : ∃ d, d = zipP R G E := ⟨_, rfl⟩
        obtain ⟨z1, z2, z3, z4⟩ := zipP_says R G E (by rw [HN.out.1, HN.out.2.1]) (by rw [HN.out.1, HN.out.2.2])
        rw [← hd] at z1 z2 z3 z4
        have hdl := z1.trans HN.out.1
        have hsm : SmallP d := ⟨by rw [hdl]; omega, fun p hp => HR.out (p.f, p.t) (by rw [← z2]; exact List.mem_map.2 ⟨p, hp, rfl⟩)⟩
        have RS := restore_fresh d a4 a5 a6 _ d4 d5 d6 w6 hdl (by rw [z2]; exact J6.out.2.1) (by rw [z3]; exact J6.out.2.2.1) (by rw [z4]; exact J6.out.2.2.2) hsm
        have RR := fun (W : World) (hb : Below w.heap.size w W) => rrestore_any d a b c _ c0 c1 c2 W hdl (by rw [z2]; exact H0.out.keep hb) (by rw [z3]; exact H1.out.keep hb) (by rw [z4]; exact H2.out.keep hb) hsm
        have HDL := Lib.hid hdl
        clear hd z1 z2 z3 z4 hdl hsm
        by_cases hok : RstOK d
        · have RS := Lib.hid (RS.mono (R' := fun e w' => ∃ B v, e = .returned (.tuple #[.pointer (some ⟨B, 0, none⟩), .int .i64 0]) ∧ w6.heap.size ≤ B ∧ Boxed w' B 74 v ∧ w'.ownsRow w6.heap.size 89 4 v d.length (flatP d) ∧ Below w6.heap.size w6 w') (fun e w' ⟨h, hb⟩ => by
            rcases h with ⟨_, B, v, h1, h2, h3, h4⟩ | ⟨h, _⟩
            · exact ⟨B, v, h1, h2, h3, h4, hb⟩
            · exact absurd hok h))
          have RR := Lib.hid (fun (W : World) (hb : Below w.heap.size w W) => (RR W hb).mono (R' := fun e w' => ∃ C, e = .returned (.tuple #[.pointer (some ⟨C, 0, none⟩), .int .i64 0]) ∧ W.heap.size ≤ C ∧ RMF W w' C d ∧ Below W.heap.size W w') (fun e w' ⟨h, hb⟩ => by
            rcases h with ⟨_, C, h1, h2, h3⟩ | ⟨h, _⟩
            · exact ⟨C, h1, h2, h3, hb⟩
            · exact absurd hok h))
          have HG := Lib.hid (Good.rst.1 hok)
          have HD1 := Lib.hid hok.1
          clear hok
          obtain ⟨g4, e4, cur4, hv4, hB4, hw4, hs4⟩ := K4.out.1 (by have := HD1.out; have := HDL.out; have := HN.out; omega)
          obtain ⟨g5, e5, cur5, hv5, hB5, hw55, hs5⟩ := K4.out.2.1 (by have := HD1.out; have := HDL.out; have := HN.out; omega)
          have hlt55 := hw55.lt
          have hw5 := hw55.below K4.out.2.2.2.2 hlt55
          clear hw55
          obtain ⟨g6, e6, cur6, hv6, hB6, hw6, hs6⟩ := K4.out.2.2.1 (by have := HD1.out; have := HDL.out; have := HN.out; omega)
          injection hv4 with hv4 hq4 hd4
          injection hv5 with hv5 hq5 hd5
          injection hv6 with hv6 hq6 hd6
          clear hq4 hq5 hq6
          subst hv4 hv5 hv6 hd4 hd5 hd6
          have W6 := Lib.hid (And.intro hw4 (And.intro hw5 (And.intro hw6 (And.intro hs4 (And.intro hs5 hs6)))))
          have GB := Lib.hid (And.intro hB4 (And.intro hB5 (And.intro hB6 hlt55)))
          clear hw4 hw5 hw6 hs4 hs5 hs6 hB4 hB5 hB6 hlt55
          go_upto_if 109 with (first
          | (go_at_call 30; refine RS.out.mono ?_; rintro e w7 ⟨B, v, rfl, hB, hBx, hOw, hb⟩; have J7 := Lib.hid (And.intro (jkeep J6 hb) hb); have M7 := Lib.hid (And.intro hB (And.intro hBx hOw)); clear hB hBx hOw hb RS J6)
          | (go_at_call 39; refine (RR.out _ J7.out.1.1).mono ?_; rintro e w8 ⟨C, rfl, hC, hM, hb⟩; have J8 := Lib.hid (And.intro (jkeep (Lib.hid J7.out.1) hb) (J7.out.2.trans (hb.mono J7.out.2.size))); have T8 : Hid (TwoC w6.heap.size w8 B C d) := Lib.hid (by
              obtain ⟨g, cap, q1, q2, q3, q4⟩ := hM
              exact ⟨⟨v, boxed_keep M7.out.2.1 hb, M7.out.2.2.kept (below_grown hb) (Classical.em _)⟩, ⟨g, cap, q1, q2, q3, by have := J7.out.2.size; omega⟩, M7.out.1, Nat.le_trans J7.out.2.size hC, by have := M7.out.2.1.lt; omega⟩); clear hC hM hb RR J7 M7)
          | (go_at_call 26; refine (equalR_same (J8.out.1.2.1) (H0.out.keep J8.out.1.1) (by rw [HN.out.1]; omega)).mono ?_; rintro e w9 ⟨rfl, hb⟩; have J9 := Lib.hid (And.intro (jkeep (Lib.hid J8.out.1) hb) (And.intro (J8.out.2.trans (hb.mono J8.out.2.size)) (T8.out.keep hb))); clear hb J8 T8)
          | (go_at_call 24; refine (equalI_same (J9.out.1.2.2.1) (H1.out.keep J9.out.1.1) (by rw [HN.out.2.1]; have := HN8.out; omega)).mono ?_; rintro e w10 ⟨rfl, hb⟩; have J10 := Lib.hid (And.intro (jkeep (Lib.hid J9.out.1) hb) (And.intro (J9.out.2.1.trans (hb.mono J9.out.2.1.size)) (J9.out.2.2.keep hb))); clear hb J9)
          | (go_at_call 24; refine (equalI_same (J10.out.1.2.2.2) (H2.out.keep J10.out.1.1) (by rw [HN.out.2.2]; have := HN8.out; omega)).mono ?_; rintro e w11 ⟨rfl, hb⟩; have J11 := Lib.hid (And.intro (jkeep (Lib.hid J10.out.1) hb) (And.intro (J10.out.2.1.trans (hb.mono J10.out.2.1.size)) (J10.out.2.2.keep hb))); clear hb J10))
          have hk0 : 0 < k := by have := HD1.out; have := HDL.out; omega
          have b6 := J11.out.2.1
          have l4 := W6.out.1.lt
          have l5 := W6.out.2.1.lt
          have l6 := W6.out.2.2.1.lt
          have n45 : g5 ≠ g4 := whole_apart2 W6.out.2.1 W6.out.1 (by decide)
          have n46 : g6 ≠ g4 := whole_apart2 W6.out.2.2.1 W6.out.1 (by decide)
          have n56 : g6 ≠ g5 := by have := GB.out; omega
          obtain ⟨L4, r4⟩ := run_clear_rows w11 45 30 0 (.agg #[.string ⟨#[]⟩, .string ⟨#[]⟩]) 2 Tryd.underlying45 Tryd.zeroValue30 rfl (by simp [Value.cells, Value.oneCell']) g4 k d4 cur4 hk0 (W6.out.1.below b6 l4) (by have := W6.out.2.2.2.1; have := HN.out; omega)
          have G4 := grown_puts L4 0 w11 (World.grownBy.refl w11 (some g4))
          have F4 := Lib.hid G4
          obtain ⟨L5, r5⟩ := run_clear_rows (w11.setCells g4 0 L4) 47 3 0 (.int .i64 0) 1 Tryd.underlying47 Tryd.zeroValue3 rfl (by simp [Value.cells, Value.oneCell']) g5 k d5 cur5 hk0 ((W6.out.2.1.below b6 l5).other n45 G4) (by have := W6.out.2.2.2.2.1; have := HN.out; omega)
          have G5 := grown_puts L5 0 (w11.setCells g4 0 L4) (World.grownBy.refl _ (some g5))
          obtain ⟨L6, r6⟩ := run_clear_rows ((w11.setCells g4 0 L4).setCells g5 0 L5) 47 3 0 (.int .i64 0) 1 Tryd.underlying47 Tryd.zeroValue3 rfl (by simp [Value.cells, Value.oneCell']) g6 k d6 cur6 hk0 (((W6.out.2.2.1.below b6 l6).other n46 G4).other n56 G5) (by have := W6.out.2.2.2.2.2; have := HN.out; omega)
          have G6 := grown_puts L6 0 ((w11.setCells g4 0 L4).setCells g5 0 L5) (World.grownBy.refl _ (some g6))
          have T14 := Lib.hid (((J11.out.2.2.grown G4 (fun g0 e => by cases e; exact l4)).grown G5 (fun g0 e => by cases e; exact l5)).grown G6 (fun g0 e => by cases e; exact l6))
          have gb := GB.out
          have kb := K4.out.2.2.2.1
          have pl := PW.out.lt
          have bw := BW.out.size
          have B14 := Lib.hid (below_puts (show w.heap.size ≤ g6 by omega) L6 0 _ (below_puts (show w.heap.size ≤ g5 by omega) L5 0 _ (below_puts (show w.heap.size ≤ g4 by omega) L4 0 _ J11.out.1.1)))
          have P14 := Lib.hid ((((PX.out.below b6 PX.out.lt).other (show P ≠ g4 by omega) G4).other (show P ≠ g5 by omega) G5).other (show P ≠ g6 by omega) G6)
          clear b6 l4 l5 l6 n45 n46 n56 F4 G4 G5 G6 gb kb pl bw
          go_upto_region 21 with fail
          clear r4 r5 r6
          generalize (((w11.setCells g4 0 L4).setCells g5 0 L5).setCells g6 0 L6) = w14 at T14 B14 P14 ⊢
          have D14 := Lib.hid (T14.out.duo B14.out HW6.out HG.out)
          clear T14 B14
          have y0 := (P14.out.cell 0).trans (show _ = some (Value.string x) from rfl)
          have y1 := (P14.out.cell 1).trans (show _ = some (Value.string y) from rfl)
          have y2 := (P14.out.cell 2).trans (show _ = some (Value.int .i64 gg) from rfl)
          go_wp2_with fail
          clear y0 y1 y2
          refine (shows_any D14.out x x y gg HX.out.1 HX.out.1 HX.out.2).mono ?_
          rintro e w15 ⟨rfl, hb15⟩
          have P15 := Lib.hid (P14.out.below hb15 P14.out.lt)
          have D15 := Lib.hid (D14.out.keep hb15)
          have y0 := (P15.out.cell 0).trans (show _ = some (Value.string x) from rfl)
          have y1 := (P15.out.cell 1).trans (show _ = some (Value.string y) from rfl)
          have y2 := (P15.out.cell 2).trans (show _ = some (Value.int .i64 gg) from rfl)
          clear hb15 D14 P14
          go_wp2_with fail
          clear y0 y1 y2
          refine (duo_mv1 D15.out x y gg HX.out.1 HX.out.2).mono ?_
          rintro e w16 ⟨rfl, hD16, hg16⟩
          have P16 := Lib.hid (P15.out.other (type_apart D15.out.s.m (by decide) P15.out) hg16)
          have D16 := Lib.hid hD16
          have y0 := (P16.out.cell 0).trans (show _ = some (Value.string x) from rfl)
          have y1 := (P16.out.cell 1).trans (show _ = some (Value.string y) from rfl)
          have y2 := (P16.out.cell 2).trans (show _ = some (Value.int .i64 gg) from rfl)
          clear hD16 hg16 D15 P15
          go_wp2_with fail
          clear y0 y1 y2
          refine (duo_mv2 x y gg D16.out HX.out.1 HX.out.2).mono ?_
          rintro e w17 ⟨rfl, hD17, hg17⟩
          have P17 := Lib.hid (P16.out.other (D16.out.r.apart P16.out (by decide)) hg17)
          have D17 := Lib.hid hD17
          have y0 := (P17.out.cell 0).trans (show _ = some (Value.string x) from rfl)
          have y1 := (P17.out.cell 1).trans (show _ = some (Value.string y) from rfl)
          have y2 := (P17.out.cell 2).trans (show _ = some (Value.int .i64 gg) from rfl)
          clear hD17 hg17 D16 P16
          generalize (moveV d x y gg).1 = v1
          generalize (moveV d x y gg).2.1 = v2
          generalize (moveV d x y gg).2.2 = d2 at D17
          go_wp2_with fail
          clear y0 y1 y2
          refine (shows_any D17.out y x y gg HX.out.2 HX.out.1 HX.out.2).mono ?_
          rintro e w18 ⟨rfl, hb18⟩
          have D18 := Lib.hid (D17.out.keep hb18)
          clear hb18 D17 P17
          go_wp2_with fail
          refine (works_st D18.out.s).mono ?_
          rintro e w19 ⟨rfl, hb19⟩
          have B19 := Lib.hid hb19
          clear hb19 D18
          go_wp2_with fail
          go_ret
          exact ⟨rfl, B19.out⟩
        · as_aux_lemma =>
          have RS := Lib.hid (RS.mono (R' := fun e w' => e = .returned (.tuple #[.pointer none, .int .i64 2]) ∧ Below w6.heap.size w6 w') (fun e w' ⟨h, hb⟩ => by
            rcases h with ⟨h, _⟩ | ⟨_, h⟩
            · exact absurd h hok
            · exact ⟨h, hb⟩))
          have RR := Lib.hid (fun (W : World) (hb : Below w.heap.size w W) => (RR W hb).mono (R' := fun e w' => e = .returned (.tuple #[.pointer none, .int .i64 2]) ∧ Below W.heap.size W w') (fun e w' ⟨h, hb⟩ => by
            rcases h with ⟨h, _⟩ | ⟨_, h⟩
            · exact absurd h hok
            · exact ⟨h, hb⟩))
          clear hok
          go_wp2_with (first
          | (go_at_call 30; refine RS.out.mono ?_; rintro e w7 ⟨rfl, hb⟩; have J7 := Lib.hid (jkeep J6 hb); clear hb RS J6)
          | (go_at_call 39; refine (RR.out _ J7.out.1).mono ?_; rintro e w8 ⟨rfl, hb⟩; have J8 := Lib.hid (jkeep J7 hb); clear hb RR J7)
          | (go_at_call 26; refine (equalR_same (J8.out.2.1) (H0.out.keep J8.out.1) (by rw [HN.out.1]; omega)).mono ?_; rintro e w9 ⟨rfl, hb⟩; have J9 := Lib.hid (jkeep J8 hb); clear hb J8)
          | (go_at_call 24; refine (equalI_same (J9.out.2.2.1) (H1.out.keep J9.out.1) (by rw [HN.out.2.1]; have := HN8.out; omega)).mono ?_; rintro e w10 ⟨rfl, hb⟩; have J10 := Lib.hid (jkeep J9 hb); clear hb J9)
          | (go_at_call 24; refine (equalI_same (J10.out.2.2.2) (H2.out.keep J10.out.1) (by rw [HN.out.2.2]; have := HN8.out; omega)).mono ?_; rintro e w11 ⟨rfl, hb⟩; have J11 := Lib.hid (jkeep J10 hb); clear hb J10)
          | (go_at_call 21; refine (works_any _).mono ?_; rintro e w30 ⟨rfl, hb⟩; have HF := Lib.hid (J11.out.1.trans (hb.mono J11.out.1.size)); clear hb))
          go_ret
          exact ⟨rfl, HF.out⟩
      · as_aux_lemma =>
        have RS := Lib.hid (restore_len a4 a5 a6 j m k d4 d5 d6 w6 heq (by have := HN8.out; omega))
        have RR := Lib.hid (rrestore_len a b c j m k c0 c1 c2 w6 heq (by have := HN8.out; omega))
        clear heq
        go_wp2_with (first
        | (go_at_call 30; refine RS.out.mono ?_; rintro e w7 ⟨rfl, hw7⟩; rw [← hw7]; clear hw7 RS)
        | (go_at_call 39; refine RR.out.mono ?_; rintro e w8 ⟨rfl, hw8⟩; rw [← hw8]; clear hw8 RR)
        | (go_at_call 26; refine (equalR_same (J6.out.2.1) (H0.out.keep J6.out.1) (by rw [HN.out.1]; omega)).mono ?_; rintro e w9 ⟨rfl, hb⟩; have J9 := Lib.hid (jkeep J6 hb); clear hb J6)
        | (go_at_call 24; refine (equalI_same (J9.out.2.2.1) (H1.out.keep J9.out.1) (by rw [HN.out.2.1]; have := HN8.out; omega)).mono ?_; rintro e w10 ⟨rfl, hb⟩; have J10 := Lib.hid (jkeep J9 hb); clear hb J9)
        | (go_at_call 24; refine (equalI_same (J10.out.2.2.2) (H2.out.keep J10.out.1) (by rw [HN.out.2.2]; have := HN8.out; omega)).mono ?_; rintro e w11 ⟨rfl, hb⟩; have J11 := Lib.hid (jkeep J10 hb); clear hb J10)
        | (go_at_call 21; refine (works_any _).mono ?_; rintro e w30 ⟨rfl, hb⟩; have HF := Lib.hid (J11.out.1.trans (hb.mono J11.out.1.size)); clear hb))
        go_ret
        exact ⟨rfl, HF.out⟩
end Go.Proofs.YtkkkppbcjmeapaaDoor
