/- The 64 names of the statements: what name writes; what a move by numbers is. No condition. -/
import Derived.Test.YtkkkppbcjmeapaaDoorPtWk
import Derived.Test.YtkkkppbcjmeapaaDoorRtB
import Derived.Lib.AtoiErrMem
namespace Go.Proofs.YtkkkppbcjmeapaaDoor
open Go.RowKit

set_option maxRecDepth 100000 in
set_option maxHeartbeats 4000000 in
theorem nm_any (n : Int) (w : World) (h0 : 0 ≤ n) (h1 : n ≤ 255) :
    Calls Tryd.prog 18 #[.int .u8 n] w fun e w' => e = .returned (.string (nmS n.toNat)) ∧ Below w.heap.size w w' := by
  have hcv : (convert 98 9 (.slice (some ⟨w.heap.size, 0, none⟩) 2 2)).run Tryd.prog (w.alloc (.cells #[.int .u8 (97 + n % 64 / 4), .int .u8 (48 + n % 4)] 5)) = .ok (.string (nmS n.toNat)) (w.alloc (.cells #[.int .u8 (97 + n % 64 / 4), .int .u8 (48 + n % 4)] 5)) :=
    run_convert_bytes_back (P := Tryd.prog) (w.alloc (.cells #[.int .u8 (97 + n % 64 / 4), .int .u8 (48 + n % 4)] 5)) 98 9 5 ⟨w.heap.size, 0, none⟩ 2 [UInt8.ofNat (97 + n.toNat % 64 / 4), UInt8.ofNat (48 + n.toNat % 4)] Tryd.underlying98 Tryd.underlying5 Tryd.underlying9
      (fun j hj => by
        match j, hj with
        | 0, _ => simp [Addr.add, go_sem]; omega
        | 1, _ => simp [Addr.add, go_sem]; omega
        | j + 2, hj => simp at hj; omega)
  generalize nmS n.toNat = t at hcv ⊢
  have hw1 : IntKind.u8.wrap (97 + n % 64 / 4) = 97 + n % 64 / 4 := IntWalk.u8_in _ (by omega)
  have hw2 : IntKind.u8.wrap (48 + n % 4) = 48 + n % 4 := IntWalk.u8_in _ (by omega)
  go_enter Tryd.func18, Tryd.ntmps18
  go_wp2
  go_ret
  exact ⟨rfl, (Below.refl _ _).alloc (Nat.le_refl _) _⟩

theorem span_mem (w : World) (a b c nq : Nat) : Hid (Whole ((((w.alloc (.cells #[.int .u8 (a : Int), .int .u8 (b : Int), .int .u8 (c : Int)] 24)).alloc (.cells #[.string ⟨#[]⟩, .string ⟨#[]⟩] 30)).drewN nq).alloc (.cells #[.string ⟨#[]⟩, .string ⟨#[]⟩] 30)) w.heap.size 24 #[.int .u8 (a : Int), .int .u8 (b : Int), .int .u8 (c : Int)]) ∧
    Hid (Whole ((((w.alloc (.cells #[.int .u8 (a : Int), .int .u8 (b : Int), .int .u8 (c : Int)] 24)).alloc (.cells #[.string ⟨#[]⟩, .string ⟨#[]⟩] 30)).drewN nq).alloc (.cells #[.string ⟨#[]⟩, .string ⟨#[]⟩] 30)) (w.heap.size + 1) 30 #[.string ⟨#[]⟩, .string ⟨#[]⟩]) ∧
    Hid (Whole ((((w.alloc (.cells #[.int .u8 (a : Int), .int .u8 (b : Int), .int .u8 (c : Int)] 24)).alloc (.cells #[.string ⟨#[]⟩, .string ⟨#[]⟩] 30)).drewN nq).alloc (.cells #[.string ⟨#[]⟩, .string ⟨#[]⟩] 30)) (w.heap.size + 1 + 1) 30 #[.string ⟨#[]⟩, .string ⟨#[]⟩]) ∧
    Hid (Below w.heap.size w ((((w.alloc (.cells #[.int .u8 (a : Int), .int .u8 (b : Int), .int .u8 (c : Int)] 24)).alloc (.cells #[.string ⟨#[]⟩, .string ⟨#[]⟩] 30)).drewN nq).alloc (.cells #[.string ⟨#[]⟩, .string ⟨#[]⟩] 30))) := by
  have h1 := (Whole.new w 24 #[.int .u8 (a : Int), .int .u8 (b : Int), .int .u8 (c : Int)]).alloc (.cells #[.string ⟨#[]⟩, .string ⟨#[]⟩] 30)
  have h2 := Whole.new (w.alloc (.cells #[.int .u8 (a : Int), .int .u8 (b : Int), .int .u8 (c : Int)] 24)) 30 #[.string ⟨#[]⟩, .string ⟨#[]⟩]
  have b1 := ((Below.refl w.heap.size w).alloc (Nat.le_refl _) (.cells #[.int .u8 (a : Int), .int .u8 (b : Int), .int .u8 (c : Int)] 24)).alloc (by simp) (.cells #[.string ⟨#[]⟩, .string ⟨#[]⟩] 30)
  rw [World.size_alloc] at h2
  have hsz : ((w.alloc (.cells #[.int .u8 (a : Int), .int .u8 (b : Int), .int .u8 (c : Int)] 24)).alloc (.cells #[.string ⟨#[]⟩, .string ⟨#[]⟩] 30)).heap.size = w.heap.size + 1 + 1 := by rw [World.size_alloc, World.size_alloc]
  generalize (w.alloc (.cells #[.int .u8 (a : Int), .int .u8 (b : Int), .int .u8 (c : Int)] 24)).alloc (.cells #[.string ⟨#[]⟩, .string ⟨#[]⟩] 30) = W0 at h1 h2 b1 hsz ⊢
  have i1 : Whole (W0.drewN nq) w.heap.size 24 #[.int .u8 (a : Int), .int .u8 (b : Int), .int .u8 (c : Int)] := h1
  have i2 : Whole (W0.drewN nq) (w.heap.size + 1) 30 #[.string ⟨#[]⟩, .string ⟨#[]⟩] := h2
  have i3 := b_drewN b1 nq
  have i4 : (W0.drewN nq).heap.size = w.heap.size + 1 + 1 := hsz
  generalize W0.drewN nq = W1 at i1 i2 i3 i4 ⊢
  have i5 := Whole.new W1 30 #[.string ⟨#[]⟩, .string ⟨#[]⟩]
  rw [i4] at i5
  exact ⟨Lib.hid (i1.alloc _), Lib.hid (i2.alloc _), Lib.hid i5, Lib.hid (i3.alloc i3.size _)⟩
set_option maxRecDepth 100000 in
set_option maxHeartbeats 4000000 in
theorem span_any (a b c : Nat) (w : World) (ha : a < 256) (hb : b < 256) (hc : c < 256) :
    Calls Tryd.prog 13 #[.agg #[.int .u8 (a : Int), .int .u8 (b : Int), .int .u8 (c : Int)]] w fun e w' => e = .returned (.tuple #[.agg #[.string (spF a b), .string (spT a b)], .int .i64 (spG c)]) ∧ Below w.heap.size w w' := by
  have mixed : Tryd.prog.follows Departure.mixedOrders = true := by kernel_rfl
  have N1 := Lib.hid (fun W => nm_any ((a : Int) % 64) W (by omega) (by omega))
  have N2 := Lib.hid (fun W => nm_any ((b : Int) % 64) W (by omega) (by omega))
  rw [show ((a : Int) % 64).toNat = a % 64 by omega] at N1
  rw [show ((b : Int) % 64).toNat = b % 64 by omega] at N2
  have hg1 : IntKind.i64.wrap ((c : Int) % 7) = (c : Int) % 7 := IntWalk.i64_in _ (by omega)
  have hg2 : IntKind.i64.wrap (1 + (c : Int) % 7) = 1 + (c : Int) % 7 := IntWalk.i64_in _ (by omega)
  by_cases hq : b % 64 = 0
  · by_cases hp : a % 64 = 0
    · skip
      have d1 : ((b : Int) % 64 != 0) = false := by rw [bne_eq_false_iff_eq]; omega
      have d3 : (((a : Int) % 64) != 0) = false := by rw [bne_eq_false_iff_eq]; omega
      have hsp : spanN a b = (a % 64, b % 64) := by unfold spanN; rw [if_neg (by omega)]
      have HF : Hid (spF a b = ⟨#[]⟩) := Lib.hid (by unfold spF; rw [hsp]; exact if_pos (by show (a % 64 = 0); omega))
      have HT : Hid (spT a b = ⟨#[]⟩) := Lib.hid (by unfold spT; rw [hsp]; exact if_pos (by show (b % 64 = 0 ∨ a % 64 = b % 64); omega))
      clear hsp
      go_enter Tryd.func13, Tryd.ntmps13
      go_wp2_with fail
      go_quiet (fail)
      go_wp2_with fail
      obtain ⟨RX, RR, R6, BB⟩ := span_mem w a b c nq
      generalize (((w.alloc (.cells #[.int .u8 (a : Int), .int .u8 (b : Int), .int .u8 (c : Int)] 24)).alloc (.cells #[.string ⟨#[]⟩, .string ⟨#[]⟩] 30)).drewN nq).alloc (.cells #[.string ⟨#[]⟩, .string ⟨#[]⟩] 30) = W1 at RX RR R6 BB ⊢
      have x2 := (RX.out.cell 2).trans (show _ = some (Value.int .u8 (c : Int)) from rfl)
      have r0 := (RR.out.cell 0).trans (show _ = some (Value.string ⟨#[]⟩) from rfl)
      have r1 := (RR.out.cell 1).trans (show _ = some (Value.string ⟨#[]⟩) from rfl)
      have f0 := RR.out.fr 0
      have f1 := RR.out.fr 1
      have u0 := (R6.out.cell 0).trans (show _ = some (Value.string (⟨#[]⟩)) from rfl)
      have u1 := (R6.out.cell 1).trans (show _ = some (Value.string (⟨#[]⟩)) from rfl)
      go_region
      have RR2 := (RR.out.put 0 (.string (⟨#[]⟩))).put 1 (.string (⟨#[]⟩))
      have v0 := (RR2.cell 0).trans (show _ = some (Value.string (⟨#[]⟩)) from rfl)
      have v1 := (RR2.cell 1).trans (show _ = some (Value.string (⟨#[]⟩)) from rfl)
      have B2 := (((BB.out.setCell (p := ⟨w.heap.size + 1, 0, none⟩) (by show w.heap.size ≤ w.heap.size + 1; omega) (.string (⟨#[]⟩))).setCell (p := ⟨w.heap.size + 1, 1, none⟩) (by show w.heap.size ≤ w.heap.size + 1; omega) (.string (⟨#[]⟩)))).drew
      have hG : spG c = 1 + (c : Int) % 7 := by unfold spG; omega
      go_wp2_with fail
      refine bodyPost_ret (v := .tuple #[.agg #[.string (⟨#[]⟩), .string (⟨#[]⟩)], .int .i64 (1 + (c : Int) % 7)]) (by simp [results, Tryd.results13, go_sem, v0, v1]) rfl ⟨?_, B2⟩
      rw [HF.out, HT.out, hG]
    · skip
      have d1 : ((b : Int) % 64 != 0) = false := by rw [bne_eq_false_iff_eq]; omega
      have d3 : (((a : Int) % 64) != 0) = true := by rw [bne_iff_ne]; omega
      have hsp : spanN a b = (a % 64, b % 64) := by unfold spanN; rw [if_neg (by omega)]
      have HF : Hid (spF a b = nmS (a % 64)) := Lib.hid (by unfold spF; rw [hsp]; exact if_neg (by show ¬ (a % 64 = 0); omega))
      have HT : Hid (spT a b = ⟨#[]⟩) := Lib.hid (by unfold spT; rw [hsp]; exact if_pos (by show (b % 64 = 0 ∨ a % 64 = b % 64); omega))
      clear hsp
      go_enter Tryd.func13, Tryd.ntmps13
      go_wp2_with fail
      go_quiet (fail)
      go_wp2_with fail
      obtain ⟨RX, RR, R6, BB⟩ := span_mem w a b c nq
      generalize (((w.alloc (.cells #[.int .u8 (a : Int), .int .u8 (b : Int), .int .u8 (c : Int)] 24)).alloc (.cells #[.string ⟨#[]⟩, .string ⟨#[]⟩] 30)).drewN nq).alloc (.cells #[.string ⟨#[]⟩, .string ⟨#[]⟩] 30) = W1 at RX RR R6 BB ⊢
      refine (N1.out _).mono ?_
      rintro e w2 ⟨rfl, hb⟩
      replace RX := Lib.hid (RX.out.below hb RX.out.lt)
      replace RR := Lib.hid (RR.out.below hb RR.out.lt)
      replace R6 := Lib.hid (R6.out.below hb R6.out.lt)
      replace BB := Lib.hid (BB.out.trans (hb.mono BB.out.size))
      have s1 := R6.out.cell 0
      have t1 := R6.out.fr 0
      replace s1 := s1.trans (show _ = some (Value.string ⟨#[]⟩) from rfl)
      replace R6 := Lib.hid (R6.out.put 0 (.string (nmS (a % 64))))
      replace RX := Lib.hid (RX.out.far (p := ⟨w.heap.size + 1 + 1, 0, none⟩) (by show w.heap.size ≠ w.heap.size + 1 + 1; omega) (.string (nmS (a % 64))))
      replace RR := Lib.hid (RR.out.far (p := ⟨w.heap.size + 1 + 1, 0, none⟩) (by show w.heap.size + 1 ≠ w.heap.size + 1 + 1; omega) (.string (nmS (a % 64))))
      replace BB := Lib.hid (BB.out.setCell (p := ⟨w.heap.size + 1 + 1, 0, none⟩) (by show w.heap.size ≤ w.heap.size + 1 + 1; omega) (.string (nmS (a % 64))))
      clear hb
      go_wp2_with fail
      have x2 := (RX.out.cell 2).trans (show _ = some (Value.int .u8 (c : Int)) from rfl)
      have r0 := (RR.out.cell 0).trans (show _ = some (Value.string ⟨#[]⟩) from rfl)
      have r1 := (RR.out.cell 1).trans (show _ = some (Value.string ⟨#[]⟩) from rfl)
      have f0 := RR.out.fr 0
      have f1 := RR.out.fr 1
      have u0 := (R6.out.cell 0).trans (show _ = some (Value.string (nmS (a % 64))) from rfl)
      have u1 := (R6.out.cell 1).trans (show _ = some (Value.string (⟨#[]⟩)) from rfl)
      go_region
      have RR2 := (RR.out.put 0 (.string (nmS (a % 64)))).put 1 (.string (⟨#[]⟩))
      have v0 := (RR2.cell 0).trans (show _ = some (Value.string (nmS (a % 64))) from rfl)
      have v1 := (RR2.cell 1).trans (show _ = some (Value.string (⟨#[]⟩)) from rfl)
      have B2 := (((BB.out.setCell (p := ⟨w.heap.size + 1, 0, none⟩) (by show w.heap.size ≤ w.heap.size + 1; omega) (.string (nmS (a % 64)))).setCell (p := ⟨w.heap.size + 1, 1, none⟩) (by show w.heap.size ≤ w.heap.size + 1; omega) (.string (⟨#[]⟩)))).drew
      have hG : spG c = 1 + (c : Int) % 7 := by unfold spG; omega
      go_wp2_with fail
      refine bodyPost_ret (v := .tuple #[.agg #[.string (nmS (a % 64)), .string (⟨#[]⟩)], .int .i64 (1 + (c : Int) % 7)]) (by simp [results, Tryd.results13, go_sem, v0, v1]) rfl ⟨?_, B2⟩
      rw [HF.out, HT.out, hG]
  · by_cases hlt : b % 64 < a % 64
    · skip
      have d1 : ((b : Int) % 64 != 0) = true := by rw [bne_iff_ne]; omega
      have d2 : ((b : Int) % 64) < (a : Int) % 64 := by omega
      have d3 : (((b : Int) % 64) != 0) = true := by rw [bne_iff_ne]; omega
      have d5 : (((a : Int) % 64) != 0) = true := by rw [bne_iff_ne]; omega
      have d4 : (((b : Int) % 64) != ((a : Int) % 64)) = true := by rw [bne_iff_ne]; omega
      have hsp : spanN a b = (b % 64, a % 64) := by unfold spanN; rw [if_pos ⟨by omega, by omega⟩]
      have HF : Hid (spF a b = nmS (b % 64)) := Lib.hid (by unfold spF; rw [hsp]; exact if_neg (by show ¬ (b % 64 = 0); omega))
      have HT : Hid (spT a b = nmS (a % 64)) := Lib.hid (by unfold spT; rw [hsp]; exact if_neg (by show ¬ (a % 64 = 0 ∨ b % 64 = a % 64); omega))
      clear hsp
      go_enter Tryd.func13, Tryd.ntmps13
      go_wp2_with fail
      go_quiet (fail)
      go_wp2_with fail
      obtain ⟨RX, RR, R6, BB⟩ := span_mem w a b c nq
      generalize (((w.alloc (.cells #[.int .u8 (a : Int), .int .u8 (b : Int), .int .u8 (c : Int)] 24)).alloc (.cells #[.string ⟨#[]⟩, .string ⟨#[]⟩] 30)).drewN nq).alloc (.cells #[.string ⟨#[]⟩, .string ⟨#[]⟩] 30) = W1 at RX RR R6 BB ⊢
      refine (N2.out _).mono ?_
      rintro e w2 ⟨rfl, hb⟩
      replace RX := Lib.hid (RX.out.below hb RX.out.lt)
      replace RR := Lib.hid (RR.out.below hb RR.out.lt)
      replace R6 := Lib.hid (R6.out.below hb R6.out.lt)
      replace BB := Lib.hid (BB.out.trans (hb.mono BB.out.size))
      have s1 := R6.out.cell 0
      have t1 := R6.out.fr 0
      replace s1 := s1.trans (show _ = some (Value.string ⟨#[]⟩) from rfl)
      replace R6 := Lib.hid (R6.out.put 0 (.string (nmS (b % 64))))
      replace RX := Lib.hid (RX.out.far (p := ⟨w.heap.size + 1 + 1, 0, none⟩) (by show w.heap.size ≠ w.heap.size + 1 + 1; omega) (.string (nmS (b % 64))))
      replace RR := Lib.hid (RR.out.far (p := ⟨w.heap.size + 1 + 1, 0, none⟩) (by show w.heap.size + 1 ≠ w.heap.size + 1 + 1; omega) (.string (nmS (b % 64))))
      replace BB := Lib.hid (BB.out.setCell (p := ⟨w.heap.size + 1 + 1, 0, none⟩) (by show w.heap.size ≤ w.heap.size + 1 + 1; omega) (.string (nmS (b % 64))))
      clear hb
      go_wp2_with fail
      refine (N1.out _).mono ?_
      rintro e w3 ⟨rfl, hb⟩
      replace RX := Lib.hid (RX.out.below hb RX.out.lt)
      replace RR := Lib.hid (RR.out.below hb RR.out.lt)
      replace R6 := Lib.hid (R6.out.below hb R6.out.lt)
      replace BB := Lib.hid (BB.out.trans (hb.mono BB.out.size))
      have s2 := R6.out.cell 1
      have t2 := R6.out.fr 1
      replace s2 := s2.trans (show _ = some (Value.string ⟨#[]⟩) from rfl)
      replace R6 := Lib.hid (R6.out.put 1 (.string (nmS (a % 64))))
      replace RX := Lib.hid (RX.out.far (p := ⟨w.heap.size + 1 + 1, 1, none⟩) (by show w.heap.size ≠ w.heap.size + 1 + 1; omega) (.string (nmS (a % 64))))
      replace RR := Lib.hid (RR.out.far (p := ⟨w.heap.size + 1 + 1, 1, none⟩) (by show w.heap.size + 1 ≠ w.heap.size + 1 + 1; omega) (.string (nmS (a % 64))))
      replace BB := Lib.hid (BB.out.setCell (p := ⟨w.heap.size + 1 + 1, 1, none⟩) (by show w.heap.size ≤ w.heap.size + 1 + 1; omega) (.string (nmS (a % 64))))
      clear hb
      go_wp2_with fail
      have x2 := (RX.out.cell 2).trans (show _ = some (Value.int .u8 (c : Int)) from rfl)
      have r0 := (RR.out.cell 0).trans (show _ = some (Value.string ⟨#[]⟩) from rfl)
      have r1 := (RR.out.cell 1).trans (show _ = some (Value.string ⟨#[]⟩) from rfl)
      have f0 := RR.out.fr 0
      have f1 := RR.out.fr 1
      have u0 := (R6.out.cell 0).trans (show _ = some (Value.string (nmS (b % 64))) from rfl)
      have u1 := (R6.out.cell 1).trans (show _ = some (Value.string (nmS (a % 64))) from rfl)
      go_region
      have RR2 := (RR.out.put 0 (.string (nmS (b % 64)))).put 1 (.string (nmS (a % 64)))
      have v0 := (RR2.cell 0).trans (show _ = some (Value.string (nmS (b % 64))) from rfl)
      have v1 := (RR2.cell 1).trans (show _ = some (Value.string (nmS (a % 64))) from rfl)
      have B2 := (((BB.out.setCell (p := ⟨w.heap.size + 1, 0, none⟩) (by show w.heap.size ≤ w.heap.size + 1; omega) (.string (nmS (b % 64)))).setCell (p := ⟨w.heap.size + 1, 1, none⟩) (by show w.heap.size ≤ w.heap.size + 1; omega) (.string (nmS (a % 64))))).drew
      have hG : spG c = 1 + (c : Int) % 7 := by unfold spG; omega
      go_wp2_with fail
      refine bodyPost_ret (v := .tuple #[.agg #[.string (nmS (b % 64)), .string (nmS (a % 64))], .int .i64 (1 + (c : Int) % 7)]) (by simp [results, Tryd.results13, go_sem, v0, v1]) rfl ⟨?_, B2⟩
      rw [HF.out, HT.out, hG]
    · by_cases hp : a % 64 = 0
      · skip
        have d1 : ((b : Int) % 64 != 0) = true := by rw [bne_iff_ne]; omega
        have d2 : ((a : Int) % 64) ≤ (b : Int) % 64 := by omega
        have d3 : (((a : Int) % 64) != 0) = false := by rw [bne_eq_false_iff_eq]; omega
        have d4 : (((a : Int) % 64) != ((b : Int) % 64)) = true := by rw [bne_iff_ne]; omega
        have hsp : spanN a b = (a % 64, b % 64) := by unfold spanN; rw [if_neg (by omega)]
        have HF : Hid (spF a b = ⟨#[]⟩) := Lib.hid (by unfold spF; rw [hsp]; exact if_pos (by show (a % 64 = 0); omega))
        have HT : Hid (spT a b = nmS (b % 64)) := Lib.hid (by unfold spT; rw [hsp]; exact if_neg (by show ¬ (b % 64 = 0 ∨ a % 64 = b % 64); omega))
        clear hsp
        go_enter Tryd.func13, Tryd.ntmps13
        go_wp2_with fail
        go_quiet (fail)
        go_wp2_with fail
        obtain ⟨RX, RR, R6, BB⟩ := span_mem w a b c nq
        generalize (((w.alloc (.cells #[.int .u8 (a : Int), .int .u8 (b : Int), .int .u8 (c : Int)] 24)).alloc (.cells #[.string ⟨#[]⟩, .string ⟨#[]⟩] 30)).drewN nq).alloc (.cells #[.string ⟨#[]⟩, .string ⟨#[]⟩] 30) = W1 at RX RR R6 BB ⊢
        refine (N2.out _).mono ?_
        rintro e w2 ⟨rfl, hb⟩
        replace RX := Lib.hid (RX.out.below hb RX.out.lt)
        replace RR := Lib.hid (RR.out.below hb RR.out.lt)
        replace R6 := Lib.hid (R6.out.below hb R6.out.lt)
        replace BB := Lib.hid (BB.out.trans (hb.mono BB.out.size))
        have s1 := R6.out.cell 1
        have t1 := R6.out.fr 1
        replace s1 := s1.trans (show _ = some (Value.string ⟨#[]⟩) from rfl)
        replace R6 := Lib.hid (R6.out.put 1 (.string (nmS (b % 64))))
        replace RX := Lib.hid (RX.out.far (p := ⟨w.heap.size + 1 + 1, 1, none⟩) (by show w.heap.size ≠ w.heap.size + 1 + 1; omega) (.string (nmS (b % 64))))
        replace RR := Lib.hid (RR.out.far (p := ⟨w.heap.size + 1 + 1, 1, none⟩) (by show w.heap.size + 1 ≠ w.heap.size + 1 + 1; omega) (.string (nmS (b % 64))))
        replace BB := Lib.hid (BB.out.setCell (p := ⟨w.heap.size + 1 + 1, 1, none⟩) (by show w.heap.size ≤ w.heap.size + 1 + 1; omega) (.string (nmS (b % 64))))
        clear hb
        go_wp2_with fail
        have x2 := (RX.out.cell 2).trans (show _ = some (Value.int .u8 (c : Int)) from rfl)
        have r0 := (RR.out.cell 0).trans (show _ = some (Value.string ⟨#[]⟩) from rfl)
        have r1 := (RR.out.cell 1).trans (show _ = some (Value.string ⟨#[]⟩) from rfl)
        have f0 := RR.out.fr 0
        have f1 := RR.out.fr 1
        have u0 := (R6.out.cell 0).trans (show _ = some (Value.string (⟨#[]⟩)) from rfl)
        have u1 := (R6.out.cell 1).trans (show _ = some (Value.string (nmS (b % 64))) from rfl)
        go_region
        have RR2 := (RR.out.put 0 (.string (⟨#[]⟩))).put 1 (.string (nmS (b % 64)))
        have v0 := (RR2.cell 0).trans (show _ = some (Value.string (⟨#[]⟩)) from rfl)
        have v1 := (RR2.cell 1).trans (show _ = some (Value.string (nmS (b % 64))) from rfl)
        have B2 := (((BB.out.setCell (p := ⟨w.heap.size + 1, 0, none⟩) (by show w.heap.size ≤ w.heap.size + 1; omega) (.string (⟨#[]⟩))).setCell (p := ⟨w.heap.size + 1, 1, none⟩) (by show w.heap.size ≤ w.heap.size + 1; omega) (.string (nmS (b % 64))))).drew
        have hG : spG c = 1 + (c : Int) % 7 := by unfold spG; omega
        go_wp2_with fail
        refine bodyPost_ret (v := .tuple #[.agg #[.string (⟨#[]⟩), .string (nmS (b % 64))], .int .i64 (1 + (c : Int) % 7)]) (by simp [results, Tryd.results13, go_sem, v0, v1]) rfl ⟨?_, B2⟩
        rw [HF.out, HT.out, hG]
      · by_cases he : a % 64 = b % 64
        · skip
          have d1 : ((b : Int) % 64 != 0) = true := by rw [bne_iff_ne]; omega
          have d2 : ((a : Int) % 64) ≤ (b : Int) % 64 := by omega
          have d3 : (((a : Int) % 64) != 0) = true := by rw [bne_iff_ne]; omega
          have d4 : (((a : Int) % 64) != ((b : Int) % 64)) = false := by rw [bne_eq_false_iff_eq]; omega
          have hsp : spanN a b = (a % 64, b % 64) := by unfold spanN; rw [if_neg (by omega)]
          have HF : Hid (spF a b = nmS (a % 64)) := Lib.hid (by unfold spF; rw [hsp]; exact if_neg (by show ¬ (a % 64 = 0); omega))
          have HT : Hid (spT a b = ⟨#[]⟩) := Lib.hid (by unfold spT; rw [hsp]; exact if_pos (by show (b % 64 = 0 ∨ a % 64 = b % 64); omega))
          clear hsp
          clear he
          go_enter Tryd.func13, Tryd.ntmps13
          go_wp2_with fail
          go_quiet (fail)
          go_wp2_with fail
          obtain ⟨RX, RR, R6, BB⟩ := span_mem w a b c nq
          generalize (((w.alloc (.cells #[.int .u8 (a : Int), .int .u8 (b : Int), .int .u8 (c : Int)] 24)).alloc (.cells #[.string ⟨#[]⟩, .string ⟨#[]⟩] 30)).drewN nq).alloc (.cells #[.string ⟨#[]⟩, .string ⟨#[]⟩] 30) = W1 at RX RR R6 BB ⊢
          refine (N1.out _).mono ?_
          rintro e w2 ⟨rfl, hb⟩
          replace RX := Lib.hid (RX.out.below hb RX.out.lt)
          replace RR := Lib.hid (RR.out.below hb RR.out.lt)
          replace R6 := Lib.hid (R6.out.below hb R6.out.lt)
          replace BB := Lib.hid (BB.out.trans (hb.mono BB.out.size))
          have s1 := R6.out.cell 0
          have t1 := R6.out.fr 0
          replace s1 := s1.trans (show _ = some (Value.string ⟨#[]⟩) from rfl)
          replace R6 := Lib.hid (R6.out.put 0 (.string (nmS (a % 64))))
          replace RX := Lib.hid (RX.out.far (p := ⟨w.heap.size + 1 + 1, 0, none⟩) (by show w.heap.size ≠ w.heap.size + 1 + 1; omega) (.string (nmS (a % 64))))
          replace RR := Lib.hid (RR.out.far (p := ⟨w.heap.size + 1 + 1, 0, none⟩) (by show w.heap.size + 1 ≠ w.heap.size + 1 + 1; omega) (.string (nmS (a % 64))))
          replace BB := Lib.hid (BB.out.setCell (p := ⟨w.heap.size + 1 + 1, 0, none⟩) (by show w.heap.size ≤ w.heap.size + 1 + 1; omega) (.string (nmS (a % 64))))
          clear hb
          go_wp2_with fail
          have x2 := (RX.out.cell 2).trans (show _ = some (Value.int .u8 (c : Int)) from rfl)
          have r0 := (RR.out.cell 0).trans (show _ = some (Value.string ⟨#[]⟩) from rfl)
          have r1 := (RR.out.cell 1).trans (show _ = some (Value.string ⟨#[]⟩) from rfl)
          have f0 := RR.out.fr 0
          have f1 := RR.out.fr 1
          have u0 := (R6.out.cell 0).trans (show _ = some (Value.string (nmS (a % 64))) from rfl)
          have u1 := (R6.out.cell 1).trans (show _ = some (Value.string (⟨#[]⟩)) from rfl)
          go_region
          have RR2 := (RR.out.put 0 (.string (nmS (a % 64)))).put 1 (.string (⟨#[]⟩))
          have v0 := (RR2.cell 0).trans (show _ = some (Value.string (nmS (a % 64))) from rfl)
          have v1 := (RR2.cell 1).trans (show _ = some (Value.string (⟨#[]⟩)) from rfl)
          have B2 := (((BB.out.setCell (p := ⟨w.heap.size + 1, 0, none⟩) (by show w.heap.size ≤ w.heap.size + 1; omega) (.string (nmS (a % 64)))).setCell (p := ⟨w.heap.size + 1, 1, none⟩) (by show w.heap.size ≤ w.heap.size + 1; omega) (.string (⟨#[]⟩)))).drew
          have hG : spG c = 1 + (c : Int) % 7 := by unfold spG; omega
          go_wp2_with fail
          refine bodyPost_ret (v := .tuple #[.agg #[.string (nmS (a % 64)), .string (⟨#[]⟩)], .int .i64 (1 + (c : Int) % 7)]) (by simp [results, Tryd.results13, go_sem, v0, v1]) rfl ⟨?_, B2⟩
          rw [HF.out, HT.out, hG]
        · skip
          have d1 : ((b : Int) % 64 != 0) = true := by rw [bne_iff_ne]; omega
          have d2 : ((a : Int) % 64) ≤ (b : Int) % 64 := by omega
          have d3 : (((a : Int) % 64) != 0) = true := by rw [bne_iff_ne]; omega
          have d4 : (((a : Int) % 64) != ((b : Int) % 64)) = true := by rw [bne_iff_ne]; omega
          have hsp : spanN a b = (a % 64, b % 64) := by unfold spanN; rw [if_neg (by omega)]
          have HF : Hid (spF a b = nmS (a % 64)) := Lib.hid (by unfold spF; rw [hsp]; exact if_neg (by show ¬ (a % 64 = 0); omega))
          have HT : Hid (spT a b = nmS (b % 64)) := Lib.hid (by unfold spT; rw [hsp]; exact if_neg (by show ¬ (b % 64 = 0 ∨ a % 64 = b % 64); omega))
          clear hsp
          go_enter Tryd.func13, Tryd.ntmps13
          go_wp2_with fail
          go_quiet (fail)
          go_wp2_with fail
          obtain ⟨RX, RR, R6, BB⟩ := span_mem w a b c nq
          generalize (((w.alloc (.cells #[.int .u8 (a : Int), .int .u8 (b : Int), .int .u8 (c : Int)] 24)).alloc (.cells #[.string ⟨#[]⟩, .string ⟨#[]⟩] 30)).drewN nq).alloc (.cells #[.string ⟨#[]⟩, .string ⟨#[]⟩] 30) = W1 at RX RR R6 BB ⊢
          refine (N1.out _).mono ?_
          rintro e w2 ⟨rfl, hb⟩
          replace RX := Lib.hid (RX.out.below hb RX.out.lt)
          replace RR := Lib.hid (RR.out.below hb RR.out.lt)
          replace R6 := Lib.hid (R6.out.below hb R6.out.lt)
          replace BB := Lib.hid (BB.out.trans (hb.mono BB.out.size))
          have s1 := R6.out.cell 0
          have t1 := R6.out.fr 0
          replace s1 := s1.trans (show _ = some (Value.string ⟨#[]⟩) from rfl)
          replace R6 := Lib.hid (R6.out.put 0 (.string (nmS (a % 64))))
          replace RX := Lib.hid (RX.out.far (p := ⟨w.heap.size + 1 + 1, 0, none⟩) (by show w.heap.size ≠ w.heap.size + 1 + 1; omega) (.string (nmS (a % 64))))
          replace RR := Lib.hid (RR.out.far (p := ⟨w.heap.size + 1 + 1, 0, none⟩) (by show w.heap.size + 1 ≠ w.heap.size + 1 + 1; omega) (.string (nmS (a % 64))))
          replace BB := Lib.hid (BB.out.setCell (p := ⟨w.heap.size + 1 + 1, 0, none⟩) (by show w.heap.size ≤ w.heap.size + 1 + 1; omega) (.string (nmS (a % 64))))
          clear hb
          go_wp2_with fail
          refine (N2.out _).mono ?_
          rintro e w3 ⟨rfl, hb⟩
          replace RX := Lib.hid (RX.out.below hb RX.out.lt)
          replace RR := Lib.hid (RR.out.below hb RR.out.lt)
          replace R6 := Lib.hid (R6.out.below hb R6.out.lt)
          replace BB := Lib.hid (BB.out.trans (hb.mono BB.out.size))
          have s2 := R6.out.cell 1
          have t2 := R6.out.fr 1
          replace s2 := s2.trans (show _ = some (Value.string ⟨#[]⟩) from rfl)
          replace R6 := Lib.hid (R6.out.put 1 (.string (nmS (b % 64))))
          replace RX := Lib.hid (RX.out.far (p := ⟨w.heap.size + 1 + 1, 1, none⟩) (by show w.heap.size ≠ w.heap.size + 1 + 1; omega) (.string (nmS (b % 64))))
          replace RR := Lib.hid (RR.out.far (p := ⟨w.heap.size + 1 + 1, 1, none⟩) (by show w.heap.size + 1 ≠ w.heap.size + 1 + 1; omega) (.string (nmS (b % 64))))
          replace BB := Lib.hid (BB.out.setCell (p := ⟨w.heap.size + 1 + 1, 1, none⟩) (by show w.heap.size ≤ w.heap.size + 1 + 1; omega) (.string (nmS (b % 64))))
          clear hb
          go_wp2_with fail
          have x2 := (RX.out.cell 2).trans (show _ = some (Value.int .u8 (c : Int)) from rfl)
          have r0 := (RR.out.cell 0).trans (show _ = some (Value.string ⟨#[]⟩) from rfl)
          have r1 := (RR.out.cell 1).trans (show _ = some (Value.string ⟨#[]⟩) from rfl)
          have f0 := RR.out.fr 0
          have f1 := RR.out.fr 1
          have u0 := (R6.out.cell 0).trans (show _ = some (Value.string (nmS (a % 64))) from rfl)
          have u1 := (R6.out.cell 1).trans (show _ = some (Value.string (nmS (b % 64))) from rfl)
          go_region
          have RR2 := (RR.out.put 0 (.string (nmS (a % 64)))).put 1 (.string (nmS (b % 64)))
          have v0 := (RR2.cell 0).trans (show _ = some (Value.string (nmS (a % 64))) from rfl)
          have v1 := (RR2.cell 1).trans (show _ = some (Value.string (nmS (b % 64))) from rfl)
          have B2 := (((BB.out.setCell (p := ⟨w.heap.size + 1, 0, none⟩) (by show w.heap.size ≤ w.heap.size + 1; omega) (.string (nmS (a % 64)))).setCell (p := ⟨w.heap.size + 1, 1, none⟩) (by show w.heap.size ≤ w.heap.size + 1; omega) (.string (nmS (b % 64))))).drew
          have hG : spG c = 1 + (c : Int) % 7 := by unfold spG; omega
          go_wp2_with fail
          refine bodyPost_ret (v := .tuple #[.agg #[.string (nmS (a % 64)), .string (nmS (b % 64))], .int .i64 (1 + (c : Int) % 7)]) (by simp [results, Tryd.results13, go_sem, v0, v1]) rfl ⟨?_, B2⟩
          rw [HF.out, HT.out, hG]
end Go.Proofs.YtkkkppbcjmeapaaDoor
