/- The reference's Digits writes a number from 0 on in decimal digits; memory that lay stays. Condition: the number is from 0 to 9,223,372,036,854,775,807. -/
import Derived.Test.YtmbnhbocablgeaaDoorText
import Derived.Laws.IdiomStrings
namespace Go.Proofs.YtmbnhbocablgeaaDoor
open Go.RowKit

theorem dgs_two {n : Int} (h : 10 ≤ n) : dgs n = dgs (n / 10) ++ dgs (n % 10) := by
  unfold dgs
  rw [Lib.decDigits, dif_neg (by omega), Lib.decDigits_one (i := (n % 10).toNat) (by omega)]
  rw [show (n / 10).toNat = n.toNat / 10 by omega, show (n % 10).toNat = n.toNat % 10 by omega]

set_option maxRecDepth 100000 in
set_option maxHeartbeats 800000 in
theorem digits_one (n : Int) (w : World) (h0 : 0 ≤ n) (h1 : n < 10) :
    Calls Tryd.prog 40 #[.int .i64 n] w fun e w' => e = .returned (.string ⟨(dgs n).toArray⟩) ∧ Below w.heap.size w w' := by
  have HF := Lib.hid (dgs_one h0 (show n ≤ 9 by omega))
  have hcv : (convert 61 9 (.slice (some ⟨w.heap.size, 0, none⟩) 1 1)).run Tryd.prog (w.alloc (.cells #[.int .u8 (48 + n)] 5)) = .ok (.string ⟨(dgs n).toArray⟩) (w.alloc (.cells #[.int .u8 (48 + n)] 5)) := by
    rw [HF.out]
    exact run_convert_bytes_back (P := Tryd.prog) (w.alloc (.cells #[.int .u8 (48 + n)] 5)) 61 9 5 ⟨w.heap.size, 0, none⟩ 1 [UInt8.ofNat (48 + n.toNat)] Tryd.underlying61 Tryd.underlying5 Tryd.underlying9
      (fun j hj => by
        obtain rfl : j = 0 := by simpa using hj
        simp [Addr.add, go_sem]; omega)
  generalize dgs n = t at hcv ⊢
  have hw : IntKind.u8.wrap (48 + n) = 48 + n := IntWalk.u8_in _ (by omega)
  go_enter Tryd.func40, Tryd.ntmps40
  go_wp2
  go_ret
  exact ⟨rfl, by go_grown⟩

set_option maxRecDepth 100000 in
set_option maxHeartbeats 800000 in
theorem digits_any : ∀ (k : Nat) (n : Int) (w : World), 0 ≤ n → n ≤ k → n ≤ 99999 →
    Calls Tryd.prog 40 #[.int .i64 n] w fun e w' => e = .returned (.string ⟨(dgs n).toArray⟩) ∧ Below w.heap.size w w'
  | 0, n, w, h0, h1, _ => digits_one n w h0 (by omega)
  | k + 1, n, w, h0, h1, h3 => by
    by_cases h2 : n < 10
    · exact digits_one n w h0 h2
    · have ih1 := fun w => digits_any k (n / 10) w (by omega) (by omega) (by omega)
      have ih2 := fun w => digits_one (n % 10) w (by omega) (by omega)
      have l1 := dgs_len (a := n / 10) (by omega)
      have l2 := dgs_len (a := n % 10) (by omega)
      have HF := Lib.hid (dgs_two (n := n) (by omega))
      obtain ⟨t1, e1, n1, s1⟩ := add_str (dgs (n / 10)) ⟨(dgs (n % 10)).toArray⟩ (by rw [Lib.size_mk]; omega)
      clear n1 l1 l2 h1
      have H1 := Lib.hid ih1
      have H2 := Lib.hid ih2
      clear ih1 ih2
      go_enter Tryd.func40, Tryd.ntmps40
      go_wp2_with fail
      refine (H1.out _).mono ?_
      rintro e w1 ⟨rfl, hb1⟩
      go_wp2_with fail
      refine (H2.out _).mono ?_
      rintro e w2 ⟨rfl, hb2⟩
      go_wp2_with fail
      go_ret
      exact ⟨by rw [HF.out, e1.out]; rfl, hb1.trans (hb2.mono hb1.size)⟩
end Go.Proofs.YtmbnhbocablgeaaDoor
