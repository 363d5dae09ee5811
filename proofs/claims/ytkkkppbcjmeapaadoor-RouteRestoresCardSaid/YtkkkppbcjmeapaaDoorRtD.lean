/- Merged by program: RfShow, RfNew, RfCopy, RfDuo. -/
import Derived.Test.YtkkkppbcjmeapaaDoorMgRf
import Derived.Test.YtkkkppbcjmeapaaDoorPtGho
namespace Go.Proofs.YtkkkppbcjmeapaaDoor
section
open Go.RowKit

/-- A map and the reference's, of which the first may have moved already. -/
structure Duo (w W : World) (B C : Nat) (d d1 : List Pt) : Prop where
  s : St w W B d1
  r : RM W C d
  h : w.heap.size ≤ C
  ne : C ≠ B
  g : Good d
  g1 : Good d1
theorem Duo.keep {w W W' : World} {B C : Nat} {d d1 : List Pt} (h : Duo w W B C d d1) (hb : Below W.heap.size W W') : Duo w W' B C d d1 := ⟨h.s.keep hb, h.r.keep hb, h.h, h.ne, h.g, h.g1⟩
theorem rranges_st {W : World} {C : Nat} {d : List Pt} (h : RM W C d) {n : Nat} (hn : d.length = n) (hd : n ≤ 900) :
    Calls Tryd.prog 58 #[.pointer (some ⟨C, 0, none⟩)] W fun e W' => ∃ a c, e = .returned (.slice a n c) ∧ SlR W' (.slice a n c) (rgs d) ∧ Below W.heap.size W W' := by
  subst hn
  refine (rranges_any C d W h hd).mono ?_
  rintro e W' ⟨v, rfl, ho, hb⟩
  obtain ⟨a, c, rfl⟩ := len_own' ho
  exact ⟨a, c, rfl, slR_own ho, hb⟩
theorem rgroups_st {W : World} {C : Nat} {d : List Pt} (h : RM W C d) {n : Nat} (hn : d.length = n) (hd : n ≤ 900) :
    Calls Tryd.prog 59 #[.pointer (some ⟨C, 0, none⟩)] W fun e W' => ∃ a c, e = .returned (.slice a n c) ∧ SlI W' (.slice a n c) (grs d) ∧ Below W.heap.size W W' := by
  subst hn
  refine (rgroups_any C d W h hd).mono ?_
  rintro e W' ⟨v, rfl, ho, hb⟩
  rw [flatG_map] at ho
  obtain ⟨a, c, rfl⟩ := len_own' ho
  have : (grs d).length = d.length := by simp [grs]
  rw [← this] at ho
  have h1 := slI_own ho
  rw [this] at h1
  exact ⟨a, c, rfl, h1, hb⟩
theorem repochs_st {W : World} {C : Nat} {d : List Pt} (h : RM W C d) {n : Nat} (hn : d.length = n) (hd : n ≤ 900) :
    Calls Tryd.prog 60 #[.pointer (some ⟨C, 0, none⟩)] W fun e W' => ∃ a c, e = .returned (.slice a n c) ∧ SlI W' (.slice a n c) (eps d) ∧ Below W.heap.size W W' := by
  subst hn
  refine (repochs_any C d W h hd).mono ?_
  rintro e W' ⟨v, rfl, ho, hb⟩
  rw [flatE_map] at ho
  obtain ⟨a, c, rfl⟩ := len_own' ho
  have : (eps d).length = d.length := by simp [eps]
  rw [← this] at ho
  have h1 := slI_own ho
  rw [this] at h1
  exact ⟨a, c, rfl, h1, hb⟩
theorem rof_st {W : World} {C : Nat} {d : List Pt} (h : RM W C d) (g : Int) (hd : d.length ≤ 900) :
    Calls Tryd.prog 61 #[.pointer (some ⟨C, 0, none⟩), .int .i64 g] W fun e W' => ∃ a c, e = .returned (.slice a (ofL g d).length c) ∧ SlR W' (.slice a (ofL g d).length c) (rgs (ofL g d)) ∧ Below W.heap.size W W' := by
  refine (rof_any C d g W h hd).mono ?_
  rintro e W' ⟨v, rfl, ho, hb⟩
  obtain ⟨a, c, rfl⟩ := len_own' ho
  exact ⟨a, c, rfl, slR_own ho, hb⟩
theorem rfl_beqB (b : Bool) : (b == b) = true := beq_self_eq_true b
set_option maxRecDepth 100000 in
set_option maxHeartbeats 8000000 in
theorem shows_any {w W : World} {B C : Nat} {d : List Pt} (D : Duo w W B C d d) (key x y : ByteArray) (g : Int) (hk : key.size ≤ 9223372036854775807) (hx : x.size ≤ 9223372036854775807) (hy : y.size ≤ 9223372036854775807) :
    Calls Tryd.prog 36 #[.pointer (some ⟨B, 0, none⟩), .pointer (some ⟨C, 0, none⟩), .string key, .agg #[.string x, .string y], .int .i64 g] W fun e W' => e = .returned (.bool true) ∧ Below W.heap.size W W' := by
  have al := (Below.refl W.heap.size W).alloc (Nat.le_refl _) (.cells #[.string x, .string y] 30)
  have D0 := Lib.hid (D.keep al)
  have B0 := Lib.hid al
  have R0 := Lib.hid (Whole.new W 30 #[.string x, .string y])
  have HG := Lib.hid D.g
  have HF := Lib.hid (fun (h : isName key.data.toList = true) => D.g.find key h)
  have HL := Lib.hid (show d.length ≤ 900 by have := D.g.l; omega)
  have HGR := Lib.hid (show (rgs d).length ≤ 1000000 ∧ (grs d).length ≤ 1000000 ∧ (eps d).length ≤ 1000000 ∧ (rgs (ofL g d)).length ≤ 1000000 by
    have := D.g.l
    have h2 := ofL_len g d d.length
    rw [List.take_length] at h2
    simp only [rgs, grs, eps, List.length_map]
    omega)
  clear D al
  go_enter Tryd.func36, Tryd.ntmps36
  go_wp2_with fail
  generalize W.alloc (.cells #[.string x, .string y] 30) = W1 at D0 B0 R0 ⊢
  refine (group_any B d key _ D0.out.s.m HG.out.sm hk (fun _ h => HF.out h)).mono ?_
  rintro e W2 ⟨rfl, hb2⟩
  have D2 := Lib.hid (D0.out.keep hb2)
  have B2 := Lib.hid (B0.out.trans (hb2.mono B0.out.size))
  have R2 := Lib.hid (R0.out.below hb2 R0.out.lt)
  clear D0 B0 R0 hb2
  go_wp2_with fail
  refine (rgrp_any C d key _ D2.out.r HG.out.sm HG.out.ne hk HF.out).mono ?_
  rintro e W3 ⟨rfl, hb3⟩
  have D0 := Lib.hid (D2.out.keep hb3)
  have B0 := Lib.hid (B2.out.trans (hb3.mono B2.out.size))
  have R0 := Lib.hid (R2.out.below hb3 R2.out.lt)
  have r0 := (R0.out.cell 0).trans (show _ = some (Value.string x) from rfl)
  have r1 := (R0.out.cell 1).trans (show _ = some (Value.string y) from rfl)
  clear D2 B2 R2 hb3
  go_wp2_with fail
  clear r0 r1
  refine (epoch_any B d key _ D0.out.s.m HG.out.sm hk (fun _ h => HF.out h)).mono ?_
  rintro e W2 ⟨rfl, hb2⟩
  have D2 := Lib.hid (D0.out.keep hb2)
  have B2 := Lib.hid (B0.out.trans (hb2.mono B0.out.size))
  have R2 := Lib.hid (R0.out.below hb2 R0.out.lt)
  clear D0 B0 R0 hb2
  go_wp2_with fail
  refine (repc_any C d key _ D2.out.r HG.out.sm HG.out.ne hk HF.out).mono ?_
  rintro e W3 ⟨rfl, hb3⟩
  have D0 := Lib.hid (D2.out.keep hb3)
  have B0 := Lib.hid (B2.out.trans (hb3.mono B2.out.size))
  have R0 := Lib.hid (R2.out.below hb3 R2.out.lt)
  have r0 := (R0.out.cell 0).trans (show _ = some (Value.string x) from rfl)
  have r1 := (R0.out.cell 1).trans (show _ = some (Value.string y) from rfl)
  clear D2 B2 R2 hb3
  go_wp2_with fail
  clear r0 r1
  refine (owner_any B d x y _ D0.out.s.m HG.out.sm hx hy).mono ?_
  unfold ownerE
  rintro e W2 ⟨rfl, hb2⟩
  have D2 := Lib.hid (D0.out.keep hb2)
  have B2 := Lib.hid (B0.out.trans (hb2.mono B0.out.size))
  have R2 := Lib.hid (R0.out.below hb2 R0.out.lt)
  have r0 := (R2.out.cell 0).trans (show _ = some (Value.string x) from rfl)
  have r1 := (R2.out.cell 1).trans (show _ = some (Value.string y) from rfl)
  clear D0 B0 R0 hb2
  go_wp2_with fail
  clear r0 r1
  refine (rowner_any C d x y _ D2.out.r HG.out.sm HG.out.ne (fun p hp => (HG.out.b p hp).1.1) hx hy).mono ?_
  unfold ownerE
  rintro e W3 ⟨rfl, hb3⟩
  have D0 := Lib.hid (D2.out.keep hb3)
  have B0 := Lib.hid (B2.out.trans (hb3.mono B2.out.size))
  have qb := rfl_beqB (ownerV d x y).2.1
  clear D2 B2 R2 hb3
  go_wp2_with fail
  refine (ranges_st D0.out.s (n := d.length) rfl HL.out).mono ?_
  rintro e W2 ⟨a1, c1, rfl, hV1, _, hb2⟩
  have D2 := Lib.hid (D0.out.keep hb2)
  have B2 := Lib.hid (B0.out.trans (hb2.mono B0.out.size))
  have V1 := Lib.hid hV1
  clear hV1 hb2 D0 B0
  go_wp2_with fail
  refine (rranges_st D2.out.r (n := d.length) rfl HL.out).mono ?_
  rintro e W3 ⟨a2, c2, rfl, hV2, hb3⟩
  have D3 := Lib.hid (D2.out.keep hb3)
  have B3 := Lib.hid (B2.out.trans (hb3.mono B2.out.size))
  have V12 := Lib.hid (V1.out.keep hb3)
  have V2 := Lib.hid hV2
  clear hV2 hb3 D2 B2 V1
  go_wp2_with fail
  refine (equalR_same V12.out V2.out HGR.out.1).mono ?_
  rintro e W4 ⟨rfl, hb4⟩
  have D0 := Lib.hid (D3.out.keep hb4)
  have B0 := Lib.hid (B3.out.trans (hb4.mono B3.out.size))
  clear hb4 D3 B3 V12 V2
  go_wp2_with fail
  refine (groups_st D0.out.s (n := d.length) rfl HL.out).mono ?_
  rintro e W2 ⟨a1, c1, rfl, hV1, _, hb2⟩
  have D2 := Lib.hid (D0.out.keep hb2)
  have B2 := Lib.hid (B0.out.trans (hb2.mono B0.out.size))
  have V1 := Lib.hid hV1
  clear hV1 hb2 D0 B0
  go_wp2_with fail
  refine (rgroups_st D2.out.r (n := d.length) rfl HL.out).mono ?_
  rintro e W3 ⟨a2, c2, rfl, hV2, hb3⟩
  have D3 := Lib.hid (D2.out.keep hb3)
  have B3 := Lib.hid (B2.out.trans (hb3.mono B2.out.size))
  have V12 := Lib.hid (V1.out.keep hb3)
  have V2 := Lib.hid hV2
  clear hV2 hb3 D2 B2 V1
  go_wp2_with fail
  refine (equalI_same V12.out V2.out HGR.out.2.1).mono ?_
  rintro e W4 ⟨rfl, hb4⟩
  have D0 := Lib.hid (D3.out.keep hb4)
  have B0 := Lib.hid (B3.out.trans (hb4.mono B3.out.size))
  clear hb4 D3 B3 V12 V2
  go_wp2_with fail
  refine (epochs_st D0.out.s (n := d.length) rfl HL.out).mono ?_
  rintro e W2 ⟨a1, c1, rfl, hV1, _, hb2⟩
  have D2 := Lib.hid (D0.out.keep hb2)
  have B2 := Lib.hid (B0.out.trans (hb2.mono B0.out.size))
  have V1 := Lib.hid hV1
  clear hV1 hb2 D0 B0
  go_wp2_with fail
  refine (repochs_st D2.out.r (n := d.length) rfl HL.out).mono ?_
  rintro e W3 ⟨a2, c2, rfl, hV2, hb3⟩
  have D3 := Lib.hid (D2.out.keep hb3)
  have B3 := Lib.hid (B2.out.trans (hb3.mono B2.out.size))
  have V12 := Lib.hid (V1.out.keep hb3)
  have V2 := Lib.hid hV2
  clear hV2 hb3 D2 B2 V1
  go_wp2_with fail
  refine (equalI_same V12.out V2.out HGR.out.2.2.1).mono ?_
  rintro e W4 ⟨rfl, hb4⟩
  have D0 := Lib.hid (D3.out.keep hb4)
  have B0 := Lib.hid (B3.out.trans (hb4.mono B3.out.size))
  clear hb4 D3 B3 V12 V2
  go_wp2_with fail
  refine (of_st D0.out.s g HL.out).mono ?_
  rintro e W2 ⟨a1, c1, rfl, hV1, _, hb2⟩
  have D2 := Lib.hid (D0.out.keep hb2)
  have B2 := Lib.hid (B0.out.trans (hb2.mono B0.out.size))
  have V1 := Lib.hid hV1
  clear hV1 hb2 D0 B0
  go_wp2_with fail
  refine (rof_st D2.out.r g HL.out).mono ?_
  rintro e W3 ⟨a2, c2, rfl, hV2, hb3⟩
  have B3 := Lib.hid (B2.out.trans (hb3.mono B2.out.size))
  have V12 := Lib.hid (V1.out.keep hb3)
  have V2 := Lib.hid hV2
  clear hV2 hb3 D2 B2 V1
  go_wp2_with fail
  refine (equalR_same V12.out V2.out HGR.out.2.2.2).mono ?_
  rintro e W4 ⟨rfl, hb4⟩
  have B4 := Lib.hid (B3.out.trans (hb4.mono B3.out.size))
  clear hb4 B3 V12 V2
  go_wp2_with fail
  go_ret
  exact ⟨rfl, B4.out⟩
end
section
open Go.RowKit

set_option maxHeartbeats 1000000 in
theorem rnew_yes (n : Int) (hn : 1 ≤ n ∧ n < 8) (w : World) :
    Calls Tryd.prog 33 #[.int .i64 n] w fun e w' => ∃ C, e = .returned (.tuple #[.pointer (some ⟨C, 0, none⟩), .int .i64 0]) ∧ w.heap.size ≤ C ∧ RM w' C [⟨⟨#[]⟩, ⟨#[]⟩, n, 1⟩] ∧ Below w.heap.size w w' := by
  have G := Lib.hid (fun W => rgroup_any n W)
  rw [decide_eq_true hn] at G
  have P := Lib.hid (Whole.new w 103 #[.string ⟨#[]⟩, .string ⟨#[]⟩, .int .i64 n, .int .i64 1])
  have M := Lib.hid (Whole.new (w.alloc (.cells #[.string ⟨#[]⟩, .string ⟨#[]⟩, .int .i64 n, .int .i64 1] 103)) 106 #[.bool true, .slice (some ⟨w.heap.size, 0, none⟩) 1 1])
  have B := Lib.hid (((Below.refl w.heap.size w).alloc (Nat.le_refl _) (.cells #[.string ⟨#[]⟩, .string ⟨#[]⟩, .int .i64 n, .int .i64 1] 103)).alloc (by simp) (.cells #[.bool true, .slice (some ⟨w.heap.size, 0, none⟩) 1 1] 106))
  clear hn
  go_enter Tryd.func33, Tryd.ntmps33
  go_wp2_with (go_at_call 51; refine (G.out _).mono ?_; rintro e w1 ⟨rfl, rfl⟩)
  go_ret2
  refine ⟨w.heap.size + 1, rfl, by omega, ⟨w.heap.size, 1, ?_, fun i p hi => ?_, Nat.le_refl _⟩, B.out⟩
  · have := M.out; simpa using this
  · have P2 := P.out.alloc (.cells #[.bool true, .slice (some ⟨w.heap.size, 0, none⟩) 1 1] 106)
    match i with
    | 0 => cases hi; exact ⟨P2.cell 0, P2.cell 1, P2.cell 2, P2.cell 3⟩
    | i + 1 => cases hi
set_option maxHeartbeats 1000000 in
theorem rnew_no (n : Int) (hn : ¬ (1 ≤ n ∧ n < 8)) (w : World) :
    Calls Tryd.prog 33 #[.int .i64 n] w fun e w' => e = .returned (.tuple #[.pointer none, .int .i64 2]) ∧ w = w' := by
  have G := Lib.hid (fun W => rgroup_any n W)
  rw [decide_eq_false hn] at G
  clear hn
  go_enter Tryd.func33, Tryd.ntmps33
  go_wp2_with (go_at_call 51; refine (G.out _).mono ?_; rintro e w1 ⟨rfl, rfl⟩)
  go_ret2
  exact ⟨rfl, rfl⟩
/-- A slice that holds steps. -/
def SlS (w : World) (x : Option Addr) (l : List ((ByteArray × ByteArray) × Int × Bool)) : Prop :=
  ∀ (i : Nat) (p : (ByteArray × ByteArray) × Int × Bool), l[i]? = some p → p.1.1.size ≤ 9223372036854775807 ∧ p.1.2.size ≤ 9223372036854775807 ∧ ∃ a, x = some a ∧ w.cell? (a.add (i * 4)) = some (.string p.1.1) ∧ w.cell? ⟨(a.add (i * 4)).block, (a.add (i * 4)).off + 1, none⟩ = some (.string p.1.2) ∧
    w.cell? ⟨(a.add (i * 4)).block, (a.add (i * 4)).off + 2, none⟩ = some (.int .i64 p.2.1) ∧ w.cell? ⟨(a.add (i * 4)).block, (a.add (i * 4)).off + 3, none⟩ = some (.bool p.2.2)
theorem SlS.keep {w w' : World} {x : Option Addr} {l : List ((ByteArray × ByteArray) × Int × Bool)} (h : SlS w x l) (hb : Below w.heap.size w w') : SlS w' x l := fun i p hi => by
  obtain ⟨h1, h2, a, ha, c0, c1, c2, c3⟩ := h i p hi
  have k0 : (a.add (i * 4)).block < w.heap.size := lt_of_cellR c0
  have e : ∀ (q : Addr), q.block = (a.add (i * 4)).block → w'.cell? q = w.cell? q := fun q hq => World.cell?_of_block (hb.block q.block (by rw [hq]; exact k0))
  exact ⟨h1, h2, a, ha, (e _ rfl).trans c0, (e ⟨_, _, none⟩ rfl).trans c1, (e ⟨_, _, none⟩ rfl).trans c2, (e ⟨_, _, none⟩ rfl).trans c3⟩
def SomeB (e : Ending) : Prop := ∃ b, e = .returned (.bool b)
set_option maxRecDepth 100000 in
set_option maxHeartbeats 2000000 in
theorem few_any (x : Option Addr) (n c : Nat) (l : List ((ByteArray × ByteArray) × Int × Bool)) (w : World) (hl : l.length = n) (hn : n ≤ 9223372036854775807) (h : SlS w x l) :
    Calls Tryd.prog 32 #[.slice x n c] w fun e w' => SomeB e ∧ Below w.heap.size w w' := by
  have H := Lib.hid h
  have HL := Lib.hid hl
  clear h hl
  go_enter Tryd.func32, Tryd.ntmps32
  go_wp2_with fail
  go_loopw [3, 8] (fun z i wr => ∃ (k : Nat) (m : Int), k ≤ n ∧ i = .int .i64 k ∧ z = .int .i64 m ∧ Hid (Below w.heap.size w wr)) (fun _ i _ => n - (intOf i).toNat)
  case atStart => exact ⟨0, 0, Nat.zero_le _, rfl, rfl, Lib.hid (Below.refl _ _)⟩
  case round =>
    obtain ⟨k, m, hk, rfl, rfl, B⟩ := hrel
    by_cases hlt : k < n
    · obtain ⟨⟨⟨a, b⟩, g, q⟩, hp⟩ : ∃ p, l[k]? = some p := ⟨_, List.getElem?_eq_getElem (show k < l.length by rw [HL.out]; exact hlt)⟩
      obtain ⟨_, _, p, rfl, c0, c1, c2, c3⟩ := (H.out.keep B.out) k _ hp
      have hki : (k : Int) < n := by omega
      have B2 := Lib.hid (B.out.alloc B.out.size (.cells #[.string a, .string b, .int .i64 g, .bool q] 68))
      dsimp only at c0 c1 c2 c3
      clear hp
      go_wp2_with fail
      go_roundw
      case rel => exact ⟨k + 1, _, by omega, by go_num, rfl, B2⟩
      case measure => simp [intOf]; omega
    · obtain rfl : k = n := by omega
      clear H HL hlt
      by_cases h8 : k ≤ 80
      · have h80 : (k : Int) ≤ 80 := by omega
        go_wp2_with fail
        go_ret
        exact ⟨⟨_, rfl⟩, B.out⟩
      · have h80 : ¬ (k : Int) ≤ 80 := by omega
        have h81 : decide ((k : Int) ≤ 80) = false := decide_eq_false h80
        go_wp2_with fail
        go_ret
        exact ⟨⟨_, rfl⟩, B.out⟩
end
section
open Go.RowKit

theorem own_zero (w : World) : (w.alloc (.cells #[] 103)).ownsRow w.heap.size 103 4 (.slice (some ⟨w.heap.size, 0, none⟩) 0 0) 0 [] :=
  ⟨rfl, Or.inr ⟨w.heap.size, 0, #[], rfl, Nat.le_refl _, heap_alloc_new w _, Nat.le_refl _, Nat.zero_le _, rfl, rfl⟩⟩
set_option maxRecDepth 100000 in
set_option maxHeartbeats 2000000 in
theorem rcopy_any (C : Nat) (d : List Pt) (w : World) (h : RM w C d) (hd : d.length ≤ 900) (hne : d ≠ []) :
    Calls Tryd.prog 34 #[.pointer (some ⟨C, 0, none⟩)] w fun e w' => ∃ C', e = .returned (.pointer (some ⟨C', 0, none⟩)) ∧ w.heap.size ≤ C' ∧ RM w' C' d ∧ Below w.heap.size w w' := by
  have M := Lib.hid (valid_any C d w h)
  obtain ⟨g, cap, h1, hc, hcap⟩ := h
  have c0 := (h1.cell 1).trans (show _ = some (Value.slice (some ⟨g, 0, none⟩) d.length cap) from rfl)
  have c := cell_al (.cells #[] 103) c0
  have al := (Below.refl w.heap.size w).alloc (Nat.le_refl _) (.cells #[] 103)
  have hc1 := hc.keep al
  obtain ⟨v', w', hrun, hown, hgr, _⟩ := run_app_rp _ w.heap.size _ 0 [] (own_zero w) ⟨g, 0, none⟩ d.length cap (flatP d) (flatP_len d) (fun j u hj => by rw [add_off]; exact cells_flatP hc1 j u hj) (flatP_one d) (by omega) al.size
  obtain ⟨a, cap2, gl, rfl, ha, hcl, hcap2⟩ := rows_own (d := d) (by simpa using hown) (by simp)
  obtain ⟨ha', hgl⟩ := ha hne
  subst ha'
  have R := Lib.hid hrun
  have BW := Lib.hid (al.grown hgr al.size (fun q e => by cases e; exact Nat.le_refl _))
  have HCL := Lib.hid hcl
  have HCP := Lib.hid hcap2
  clear h1 hc hcap c0 hc1 hrun hown hgr al hcl hcap2 ha hgl
  go_enter Tryd.func34, Tryd.ntmps34
  go_wp2_with (first | (go_at_call 52; refine M.out.mono ?_; rintro e w1 ⟨rfl, rfl⟩) | (at_builtin; refine wpList_append_run rfl (.tmp 6) (.tmp 10) 104 rfl rfl rfl R.out ?_))
  go_ret
  exact ⟨w'.heap.size, rfl, BW.out.size, ⟨gl, cap2, Whole.new w' 106 #[.bool true, .slice (some ⟨gl, 0, none⟩) d.length cap2], HCL.out.keep ((Below.refl _ _).alloc (Nat.le_refl _) _), HCP.out⟩, BW.out.alloc BW.out.size _⟩
end
section
open Go.RowKit

section
variable {w W W' : World} {B C B' C' : Nat} {d d1 d' : List Pt}
theorem St.byRef {w W W' : World} {B C : Nat} {d d' : List Pt} (S : St w W B d) (T : RM W C d') (hC : w.heap.size ≤ C) (hne : B ≠ C) (hg : W.grownBy W' (some C)) : St w W' B d :=
  ⟨S.m.byRef T hne hg, S.b.grown hg S.b.size (fun q e => by cases e; exact hC), S.h⟩
/-- A pair that stays where another one moves. -/
theorem Duo.other1 (h : Duo w W B' C' d' d') (T : St w W B d) (h1 : B' ≠ B) (h2 : C' ≠ B) (hg : W.grownBy W' (some B)) : Duo w W' B' C' d' d' := by
  obtain ⟨v, hv, _⟩ := T.m
  exact ⟨h.s.other T h1 hg, h.r.byBox h.g.ne hv h2 hg, h.h, h.ne, h.g, h.g1⟩
theorem Duo.other2 (h : Duo w W B' C' d' d') (T : RM W C d) (hC : w.heap.size ≤ C) (h1 : B' ≠ C) (h2 : C' ≠ C) (hg : W.grownBy W' (some C)) : Duo w W' B' C' d' d' :=
  ⟨h.s.byRef T hC h1 hg, h.r.byRef h.g.ne T h2 hg, h.h, h.ne, h.g, h.g1⟩
end
theorem duo_mv1 {w W : World} {B C : Nat} {d : List Pt} (D : Duo w W B C d d) (x y : ByteArray) (g : Int) (hx : x.size ≤ 9223372036854775807) (hy : y.size ≤ 9223372036854775807) :
    Calls Tryd.prog 15 #[.pointer (some ⟨B, 0, none⟩), .agg #[.string x, .string y], .int .i64 g] W fun e W' => e = .returned (.tuple #[.int .i64 (moveV d x y g).1, .int .i64 (moveV d x y g).2.1]) ∧ Duo w W' B C d (moveV d x y g).2.2 ∧ W.grownBy W' (some B) := by
  obtain ⟨v, hv, _⟩ := D.s.m
  refine (move_st D.s x y g D.g.sm D.g.l (fun p hp => (D.g.b p hp).2.2) hx hy rfl).mono ?_
  rintro e W' ⟨h1, h2, h3⟩
  exact ⟨h1, ⟨h2, D.r.byBox D.g.ne hv D.ne h3, D.h, D.ne, D.g, D.g.move x y g⟩, h3⟩
theorem rmove_any {W : World} {C : Nat} {d : List Pt} (h : RM W C d) (G : Good d) (x y : ByteArray) (g : Int) (hx : x.size ≤ 9223372036854775807) (hy : y.size ≤ 9223372036854775807) :
    Calls Tryd.prog 35 #[.pointer (some ⟨C, 0, none⟩), .agg #[.string x, .string y], .int .i64 g] W fun e W' => e = .returned (.tuple #[.int .i64 (moveV d x y g).1, .int .i64 (moveV d x y g).2.1]) ∧ RM W' C (moveV d x y g).2.2 ∧ W.grownBy W' (some C) := by
  have no : ∀ er, ((okR x y = false ∧ er = 2) ∨ (okR x y = true ∧ ¬ (1 ≤ g ∧ g < 8) ∧ er = 2) ∨ (okR x y = true ∧ (1 ≤ g ∧ g < 8) ∧ ((ownerV d x y).2.1 = false ∨ (ownerV d x y).1 = g) ∧ er = 9)) → moveV d x y g = (0, er, d) →
      Calls Tryd.prog 35 #[.pointer (some ⟨C, 0, none⟩), .agg #[.string x, .string y], .int .i64 g] W fun e W' => e = .returned (.tuple #[.int .i64 (moveV d x y g).1, .int .i64 (moveV d x y g).2.1]) ∧ RM W' C (moveV d x y g).2.2 ∧ W.grownBy W' (some C) := fun er hc hv => by
    rw [hv]
    refine (rmove_no C d x y g er W h G hx hy hc).mono ?_
    rintro e W' ⟨h1, h2⟩
    exact ⟨h1, h.keep h2, below_row h2⟩
  cases hr : okR x y with
  | false =>
    refine no 2 (Or.inl ⟨hr, rfl⟩) ?_
    rw [ref_stay (Or.inl (by rw [owner_bad G.ne hr]; decide)), owner_bad G.ne hr]; rfl
  | true =>
    obtain ⟨o, b, hv⟩ := owner_zero G.ne hr
    by_cases hg : 1 ≤ g ∧ g < 8
    · by_cases hs : b = false ∨ o = g
      · refine no 9 (Or.inr (Or.inr ⟨hr, hg, by rw [hv]; exact hs, rfl⟩)) ?_
        rw [ref_stay (Or.inr (Or.inr (by rw [hv]; exact hs))), hv, if_neg (show ¬ ((0 : Int) ≠ 0) by decide), if_neg (by simp; omega)]
      · have hb : b = true := by
          cases b with
          | true => rfl
          | false => exact absurd (Or.inl rfl) hs
        subst hb
        exact rmove_yes C d x y g o W h G hx hy hr hg hv (fun e => hs (Or.inr e))
    · refine no 2 (Or.inr (Or.inl ⟨hr, hg, rfl⟩)) ?_
      rw [ref_stay (Or.inr (Or.inl hg)), hv, if_neg (show ¬ ((0 : Int) ≠ 0) by decide), if_pos hg]
theorem duo_mv2 {w W : World} {B C : Nat} {d : List Pt} (x y : ByteArray) (g : Int) (D : Duo w W B C d (moveV d x y g).2.2) (hx : x.size ≤ 9223372036854775807) (hy : y.size ≤ 9223372036854775807) :
    Calls Tryd.prog 35 #[.pointer (some ⟨C, 0, none⟩), .agg #[.string x, .string y], .int .i64 g] W fun e W' => e = .returned (.tuple #[.int .i64 (moveV d x y g).1, .int .i64 (moveV d x y g).2.1]) ∧ Duo w W' B C (moveV d x y g).2.2 (moveV d x y g).2.2 ∧ W.grownBy W' (some C) := by
  refine (rmove_any D.r D.g x y g hx hy).mono ?_
  rintro e W' ⟨h1, h2, h3⟩
  exact ⟨h1, ⟨D.s.byRef D.r D.h (Ne.symm D.ne) h3, h2, D.h, D.ne, D.g1, D.g1⟩, h3⟩
/-- The older pair, if there is one. -/
def Old (w W : World) (B C : Nat) (ov wv : Value) : Prop := (ov = .pointer none ∧ wv = .pointer none) ∨ ∃ B' C' d', ov = .pointer (some ⟨B', 0, none⟩) ∧ wv = .pointer (some ⟨C', 0, none⟩) ∧ Duo w W B' C' d' d' ∧ B' ≠ B ∧ C' ≠ B ∧ B' ≠ C ∧ C' ≠ C
section
variable {w W W' : World} {B C : Nat} {d d1 : List Pt} {ov wv : Value}
theorem Old.keep (h : Old w W B C ov wv) (hb : Below W.heap.size W W') : Old w W' B C ov wv := by
  rcases h with h | ⟨B', C', d', h1, h2, h3, h4⟩
  · exact Or.inl h
  · exact Or.inr ⟨B', C', d', h1, h2, h3.keep hb, h4⟩
theorem Old.mv1 (h : Old w W B C ov wv) (T : St w W B d) (hg : W.grownBy W' (some B)) : Old w W' B C ov wv := by
  rcases h with h | ⟨B', C', d', h1, h2, h3, h4, h5, h6, h7⟩
  · exact Or.inl h
  · exact Or.inr ⟨B', C', d', h1, h2, h3.other1 T h4 h5 hg, h4, h5, h6, h7⟩
theorem Old.mv2 (h : Old w W B C ov wv) (T : RM W C d) (hC : w.heap.size ≤ C) (hg : W.grownBy W' (some C)) : Old w W' B C ov wv := by
  rcases h with h | ⟨B', C', d', h1, h2, h3, h4, h5, h6, h7⟩
  · exact Or.inl h
  · exact Or.inr ⟨B', C', d', h1, h2, h3.other2 T hC h6 h7 hg, h4, h5, h6, h7⟩
end
end
end Go.Proofs.YtkkkppbcjmeapaaDoor
