/- Maps that are none: what all calls on them answer; the law on them. Condition: sizes of the arguments. -/
import Derived.Test.YtkkkppbcjmeapaaDoorPtWk
namespace Go.Proofs.YtkkkppbcjmeapaaDoor
open Go.RowKit

/-- No map: a nil pointer, or a map without parts. -/
def NoMap (w : World) (p : Value) : Prop := p = .pointer none ∨ ∃ B, p = .pointer (some ⟨B, 0, none⟩) ∧ MapAt w B []
theorem NoMap.keep {w w' : World} {p : Value} (h : NoMap w p) (hb : Below w.heap.size w w') : NoMap w' p := by
  rcases h with h | ⟨B, h1, h2⟩
  · exact Or.inl h
  · exact Or.inr ⟨B, h1, h2.keep hb⟩
theorem smallP_nil : SmallP [] := ⟨by decide, fun p hp => by cases hp⟩
theorem len_own {w : World} {base : Nat} {e : TypeId} {size : Nat} {v : Value} {n : Nat} {xs : List Value} (h : w.ownsRow base e size v n xs) : ∃ a c, v = .slice a n c := by
  rcases h.2 with ⟨rfl, rfl⟩ | ⟨g, cap, cur, rfl, _⟩
  · exact ⟨none, 0, rfl⟩
  · exact ⟨_, cap, rfl⟩
theorem group_no (p : Value) (key : ByteArray) (w : World) (h : NoMap w p) (hk : key.size ≤ 9223372036854775807) :
    Calls Tryd.prog 23 #[p, .string key] w fun e w' => e = .returned (.tuple #[.int .i64 0, .int .i64 1]) ∧ Below w.heap.size w w' := by
  rcases h with rfl | ⟨B, rfl, h⟩
  · exact group_nil key w
  · exact group_any B [] key w h smallP_nil hk (fun h => absurd rfl h)
theorem epoch_no (p : Value) (key : ByteArray) (w : World) (h : NoMap w p) (hk : key.size ≤ 9223372036854775807) :
    Calls Tryd.prog 27 #[p, .string key] w fun e w' => e = .returned (.tuple #[.int .i64 0, .int .i64 1]) ∧ Below w.heap.size w w' := by
  rcases h with rfl | ⟨B, rfl, h⟩
  · exact epoch_nil key w
  · exact epoch_any B [] key w h smallP_nil hk (fun h => absurd rfl h)
theorem move_no' (p : Value) (x y : ByteArray) (g : Int) (w : World) (h : NoMap w p) (hx : x.size ≤ 9223372036854775807) (hy : y.size ≤ 9223372036854775807) :
    Calls Tryd.prog 15 #[p, .agg #[.string x, .string y], .int .i64 g] w fun e w' => e = .returned (.tuple #[.int .i64 0, .int .i64 1]) ∧ Below w.heap.size w w' := by
  rcases h with rfl | ⟨B, rfl, h⟩
  · exact move_nil x y g w
  · have hv : (ownerV [] x y).2.2 = 1 := rfl
    exact move_no B [] x y g w h smallP_nil hx hy 1 (Or.inl ⟨by rw [hv]; decide, hv.symm⟩)
theorem owner_no (p : Value) (x y : ByteArray) (w : World) (h : NoMap w p) (hx : x.size ≤ 9223372036854775807) (hy : y.size ≤ 9223372036854775807) :
    Calls Tryd.prog 16 #[p, .agg #[.string x, .string y]] w fun e w' => e = .returned (.tuple #[.int .i64 0, .bool false, .int .i64 1]) ∧ Below w.heap.size w w' := by
  rcases h with rfl | ⟨B, rfl, h⟩
  · exact owner_nil x y w
  · exact owner_any B [] x y w h smallP_nil hx hy
theorem ranges_no (p : Value) (w : World) (h : NoMap w p) :
    Calls Tryd.prog 19 #[p] w fun e w' => (∃ a c, e = .returned (.slice a 0 c)) ∧ Below w.heap.size w w' := by
  rcases h with rfl | ⟨B, rfl, h⟩
  · exact (ranges_nil w).mono fun e w' ⟨h1, h2⟩ => ⟨⟨none, 0, h1⟩, by rw [h2]; exact Below.refl _ _⟩
  · refine (ranges_any B [] w h (by decide)).mono ?_
    rintro e w' ⟨v, rfl, ho, hb⟩
    obtain ⟨a, c, rfl⟩ := len_own ho
    exact ⟨⟨a, c, rfl⟩, hb⟩
theorem groups_no (p : Value) (w : World) (h : NoMap w p) :
    Calls Tryd.prog 20 #[p] w fun e w' => (∃ a c, e = .returned (.slice a 0 c)) ∧ Below w.heap.size w w' := by
  rcases h with rfl | ⟨B, rfl, h⟩
  · exact (groups_nil w).mono fun e w' ⟨h1, h2⟩ => ⟨⟨none, 0, h1⟩, by rw [h2]; exact Below.refl _ _⟩
  · refine (groups_any B [] w h (by decide)).mono ?_
    rintro e w' ⟨v, rfl, ho, hb⟩
    obtain ⟨a, c, rfl⟩ := len_own ho
    exact ⟨⟨a, c, rfl⟩, hb⟩
theorem epochs_no (p : Value) (w : World) (h : NoMap w p) :
    Calls Tryd.prog 31 #[p] w fun e w' => (∃ a c, e = .returned (.slice a 0 c)) ∧ Below w.heap.size w w' := by
  rcases h with rfl | ⟨B, rfl, h⟩
  · exact (epochs_nil w).mono fun e w' ⟨h1, h2⟩ => ⟨⟨none, 0, h1⟩, by rw [h2]; exact Below.refl _ _⟩
  · refine (epochs_any B [] w h (by decide)).mono ?_
    rintro e w' ⟨v, rfl, ho, hb⟩
    obtain ⟨a, c, rfl⟩ := len_own ho
    exact ⟨⟨a, c, rfl⟩, hb⟩
theorem of_no (p : Value) (g : Int) (w : World) (h : NoMap w p) :
    Calls Tryd.prog 29 #[p, .int .i64 g] w fun e w' => (∃ a c, e = .returned (.slice a 0 c)) ∧ Below w.heap.size w w' := by
  rcases h with rfl | ⟨B, rfl, h⟩
  · exact (of_nil g w).mono fun e w' ⟨h1, h2⟩ => ⟨⟨none, 0, h1⟩, by rw [h2]; exact Below.refl _ _⟩
  · refine (of_any B [] g w h (by decide)).mono ?_
    rintro e w' ⟨v, rfl, ho, hb⟩
    obtain ⟨a, c, rfl⟩ := len_own ho
    exact ⟨⟨a, c, rfl⟩, hb⟩
theorem copy_no (p : Value) (w : World) (h : NoMap w p) :
    Calls Tryd.prog 25 #[p] w fun e w' => e = .returned (.pointer none) ∧ Below w.heap.size w w' := by
  rcases h with rfl | ⟨B, rfl, h⟩
  · exact (copy_nil w).mono fun e w' ⟨h1, h2⟩ => ⟨h1, by rw [h2]; exact Below.refl _ _⟩
  · refine (copy_any B [] w h (by decide)).mono ?_
    rintro e w' ⟨⟨q, rfl, hq⟩, hb⟩
    rcases hq with ⟨_, rfl⟩ | ⟨h, _⟩
    · exact ⟨rfl, hb⟩
    · exact absurd rfl h
set_option maxRecDepth 100000 in
set_option maxHeartbeats 4000000 in
theorem routeNil_any (key f t : ByteArray) (g : Int) (w : World) (hk' : key.size ≤ 9223372036854775807) (hf' : f.size ≤ 9223372036854775807) (ht' : t.size ≤ 9223372036854775807) :
    Calls Tryd.prog 9 #[.string key, .agg #[.string f, .string t], .int .i64 g] w fun e w' => e = .returned (.bool true) ∧ Below w.heap.size w w' := by
  have b1 := (Below.refl w.heap.size w).alloc (Nat.le_refl _) (.cells #[.string f, .string t] 30)
  have RX := Whole.new w 30 #[.string f, .string t]
  go_enter Tryd.func9, Tryd.ntmps9
  go_wp2_with fail
  · refine (works_any _).mono ?_
    rintro e w1 ⟨rfl, hb⟩
    go_wp2_with fail
    go_ret
    exact ⟨rfl, ((Below.refl w.heap.size w).alloc (Nat.le_refl _) _).trans (hb.mono (by simp))⟩
  · skip
    have b3 := (b1.alloc b1.size (.cells #[.slice none 0 0] 74)).alloc (by simp; omega) (.cells #[.pointer none, .pointer (some ⟨w.heap.size + 1, 0, none⟩)] 25)
    have RX2 := (RX.alloc (.cells #[.slice none 0 0] 74)).alloc (.cells #[.pointer none, .pointer (some ⟨w.heap.size + 1, 0, none⟩)] 25)
    have MB : MapAt (((w.alloc (.cells #[.string f, .string t] 30)).alloc (.cells #[.slice none 0 0] 74)).alloc (.cells #[.pointer none, .pointer (some ⟨w.heap.size + 1, 0, none⟩)] 25)) (w.heap.size + 1) [] :=
      ⟨.slice none 0 0, by have := (Boxed.new (w.alloc (.cells #[.string f, .string t] 30)) 74 (.slice none 0 0)).alloc (.cells #[.pointer none, .pointer (some ⟨w.heap.size + 1, 0, none⟩)] 25); rw [World.size_alloc] at this; exact this, Or.inl ⟨rfl, rfl⟩⟩
    have RS := Whole.new ((w.alloc (.cells #[.string f, .string t] 30)).alloc (.cells #[.slice none 0 0] 74)) 25 #[.pointer none, .pointer (some ⟨w.heap.size + 1, 0, none⟩)]
    simp only [World.size_alloc] at RS
    generalize (((w.alloc (.cells #[.string f, .string t] 30)).alloc (.cells #[.slice none 0 0] 74)).alloc (.cells #[.pointer none, .pointer (some ⟨w.heap.size + 1, 0, none⟩)] 25)) = Wc at b3 RX2 MB RS ⊢
    have B3 := Lib.hid b3
    have HRX := Lib.hid RX2
    have HRS := Lib.hid RS
    have HMB := Lib.hid MB
    clear b1 b3 RX RX2 MB RS
    go_loopw [36] (fun i wr => Below Wc.heap.size Wc wr ∧ ∃ k : Nat, k ≤ 2 ∧ i = .int .i64 k) (fun i _ => 2 - (intOf i).toNat)
    case atStart => exact ⟨Below.refl _ _, 0, by decide, rfl⟩
    case round =>
      rename_i wr
      obtain ⟨hbw, k, hk2, rfl⟩ := hrel
      by_cases hlt : k < 2
      · obtain ⟨p, hp, hn⟩ : ∃ p, wr.cell? ⟨w.heap.size + 1 + 1, k, none⟩ = some p ∧ NoMap wr p := by
          have RS' := HRS.out.below hbw HRS.out.lt
          match k, hlt with
          | 0, _ => exact ⟨_, RS'.cell 0, Or.inl rfl⟩
          | 1, _ => exact ⟨_, RS'.cell 1, Or.inr ⟨_, rfl, HMB.out.keep hbw⟩⟩
        have x0 := (HRX.out.below hbw HRX.out.lt).cell 0
        have x1 := (HRX.out.below hbw HRX.out.lt).cell 1
        simp only [List.getElem?_toArray, List.getElem?_cons_succ, List.getElem?_cons_zero] at x0 x1
        have BW := Lib.hid hbw
        have HN := Lib.hid hn
        clear hbw hn
        have hki : (k : Int) < 2 := by omega
        have B100 := BW
        have N100 := HN
        have y100 := x0
        have z100 := x1
        clear BW HN x0 x1
        go_wp2_with fail
        refine (group_no p key _ N100.out hk').mono ?_
        rintro e w101 ⟨rfl, hb⟩
        have B101 := Lib.hid (B100.out.trans (hb.mono B100.out.size))
        have N101 := Lib.hid (N100.out.keep hb)
        have y101 := (hb.cell (lt_of_cellR y100)).trans y100
        have z101 := (hb.cell (lt_of_cellR z100)).trans z100
        clear hb y100 z100
        clear B100 N100
        go_wp2_with fail
        refine (epoch_no p key _ N101.out hk').mono ?_
        rintro e w102 ⟨rfl, hb⟩
        have B102 := Lib.hid (B101.out.trans (hb.mono B101.out.size))
        have N102 := Lib.hid (N101.out.keep hb)
        have y102 := (hb.cell (lt_of_cellR y101)).trans y101
        have z102 := (hb.cell (lt_of_cellR z101)).trans z101
        clear hb y101 z101
        clear B101 N101
        go_wp2_with fail
        refine (move_no' p f t g _ N102.out hf' ht').mono ?_
        rintro e w103 ⟨rfl, hb⟩
        have B103 := Lib.hid (B102.out.trans (hb.mono B102.out.size))
        have N103 := Lib.hid (N102.out.keep hb)
        have y103 := (hb.cell (lt_of_cellR y102)).trans y102
        have z103 := (hb.cell (lt_of_cellR z102)).trans z102
        clear hb y102 z102
        clear B102 N102
        go_wp2_with fail
        refine (owner_no p f t _ N103.out hf' ht').mono ?_
        rintro e w104 ⟨rfl, hb⟩
        have B104 := Lib.hid (B103.out.trans (hb.mono B103.out.size))
        have N104 := Lib.hid (N103.out.keep hb)
        have y104 := (hb.cell (lt_of_cellR y103)).trans y103
        have z104 := (hb.cell (lt_of_cellR z103)).trans z103
        clear hb y103 z103
        clear B103 N103
        go_wp2_with fail
        refine (ranges_no p _ N104.out).mono ?_
        rintro e w105 ⟨⟨a1, c1, rfl⟩, hb⟩
        have B105 := Lib.hid (B104.out.trans (hb.mono B104.out.size))
        have N105 := Lib.hid (N104.out.keep hb)
        clear hb
        clear B104 N104
        go_wp2_with fail
        refine (groups_no p _ N105.out).mono ?_
        rintro e w106 ⟨⟨a2, c2, rfl⟩, hb⟩
        have B106 := Lib.hid (B105.out.trans (hb.mono B105.out.size))
        have N106 := Lib.hid (N105.out.keep hb)
        clear hb
        clear B105 N105
        go_wp2_with fail
        refine (epochs_no p _ N106.out).mono ?_
        rintro e w107 ⟨⟨a3, c3, rfl⟩, hb⟩
        have B107 := Lib.hid (B106.out.trans (hb.mono B106.out.size))
        have N107 := Lib.hid (N106.out.keep hb)
        clear hb
        clear B106 N106
        go_wp2_with fail
        refine (of_no p g _ N107.out).mono ?_
        rintro e w108 ⟨⟨a4, c4, rfl⟩, hb⟩
        have B108 := Lib.hid (B107.out.trans (hb.mono B107.out.size))
        have N108 := Lib.hid (N107.out.keep hb)
        clear hb
        clear B107 N107
        go_wp2_with fail
        refine (copy_no p _ N108.out).mono ?_
        rintro e w109 ⟨rfl, hb⟩
        have B109 := Lib.hid (B108.out.trans (hb.mono B108.out.size))
        have N109 := Lib.hid (N108.out.keep hb)
        clear hb
        clear B108 N108
        go_wp2_with fail
        go_roundw
        case rel => exact ⟨B109.out, k + 1, by omega, by go_num⟩
        case measure => simp [intOf]; omega
      · obtain rfl : k = 2 := by omega
        have BW := Lib.hid (B3.out.trans (hbw.mono B3.out.size))
        clear hbw
        go_wp2_with fail
        refine (works_any _).mono ?_
        rintro e w1 ⟨rfl, hb⟩
        go_wp2_with fail
        go_ret
        exact ⟨rfl, BW.out.trans (hb.mono BW.out.size)⟩
end Go.Proofs.YtkkkppbcjmeapaaDoor
