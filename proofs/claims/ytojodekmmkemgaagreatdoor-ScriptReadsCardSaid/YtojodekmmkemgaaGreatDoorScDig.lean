/- The reference's decimal digits. Condition: the number is from 0 to 9,223,372,036,854,775,807. -/
import Derived.Test.YtojodekmmkemgaaGreatDoorDfS
import Derived.Laws.IdiomStrings
import Derived.WalkSmall
namespace Go.Proofs.YtojodekmmkemgaaGreatDoor
open Go.RowKit Go.Shelf

theorem dgs_two {n : Int} (h : 10 ≤ n) : dgs n = dgs (n / 10) ++ dgs (n % 10) := by
  unfold dgs
  rw [Lib.decDigits, dif_neg (by omega), Lib.decDigits_one (i := (n % 10).toNat) (by omega)]
  rw [show (n / 10).toNat = n.toNat / 10 by omega, show (n % 10).toNat = n.toNat % 10 by omega]
set_option maxRecDepth 100000 in
set_option maxHeartbeats 800000 in
theorem digits_one (n : Int) (w : World) (h0 : 0 ≤ n) (h1 : n < 10) :
    Calls Tryz.prog 59 #[.int .i64 n] w fun e w' => e = .returned (.string ⟨(dgs n).toArray⟩) ∧ Below w.heap.size w w' := by
  have HF := Lib.hid (dgs_one h0 (show n ≤ 9 by omega))
  have hcv : (convert 23 9 (.slice (some ⟨w.heap.size, 0, none⟩) 1 1)).run Tryz.prog (w.alloc (.cells #[.int .u8 (48 + n)] 5)) = .ok (.string ⟨(dgs n).toArray⟩) (w.alloc (.cells #[.int .u8 (48 + n)] 5)) := by
    rw [HF.out]
    exact run_convert_bytes_back (P := Tryz.prog) (w.alloc (.cells #[.int .u8 (48 + n)] 5)) 23 9 5 ⟨w.heap.size, 0, none⟩ 1 [UInt8.ofNat (48 + n.toNat)] Tryz.underlying23 Tryz.underlying5 Tryz.underlying9
      (fun j hj => by
        obtain rfl : j = 0 := by simpa using hj
        simp [Addr.add, go_sem]; omega)
  generalize dgs n = t at hcv ⊢
  have hw : IntKind.u8.wrap (48 + n) = 48 + n := IntWalk.u8_in _ (by omega)
  go_enter Tryz.func59, Tryz.ntmps59
  go_wp2
  go_ret
  exact ⟨rfl, by go_grown⟩
set_option maxRecDepth 100000 in
set_option maxHeartbeats 1600000 in
theorem digitsB_any : ∀ (k : Nat) (n : Int) (w : World), 0 ≤ n → n ≤ k → n ≤ 9223372036854775807 →
    Calls Tryz.prog 59 #[.int .i64 n] w fun e w' => e = .returned (.string ⟨(dgs n).toArray⟩) ∧ Below w.heap.size w w'
  | 0, n, w, h0, h1, _ => digits_one n w h0 (by omega)
  | k + 1, n, w, h0, h1, h3 => by
    by_cases h2 : n < 10
    · exact digits_one n w h0 h2
    · have ih1 := fun w => digitsB_any k (n / 10) w (by omega) (by omega) (by omega)
      have ih2 := fun w => digits_one (n % 10) w (by omega) (by omega)
      have l1 := dgs_le (a := n / 10) (by omega)
      have l2 := dgs_le (a := n % 10) (by omega)
      have HF := Lib.hid (dgs_two (n := n) (by omega))
      obtain ⟨t1, e1, n1, s1⟩ := add_ba ⟨(dgs (n / 10)).toArray⟩ ⟨(dgs (n % 10)).toArray⟩ (by rw [Lib.size_mk, Lib.size_mk]; omega)
      have HE : Hid (t1 = ⟨(dgs n).toArray⟩) := Lib.hid (by rw [← ba_eta t1, e1.out, HF.out])
      clear n1 l1 l2 h1 e1
      have H1 := Lib.hid ih1
      have H2 := Lib.hid ih2
      clear ih1 ih2
      go_enter Tryz.func59, Tryz.ntmps59
      go_wp2_with fail
      refine (H1.out _).mono ?_
      rintro e w1 ⟨rfl, hb1⟩
      go_wp2_with fail
      refine (H2.out _).mono ?_
      rintro e w2 ⟨rfl, hb2⟩
      go_wp2_with fail
      go_ret
      exact ⟨by rw [HE.out]; rfl, hb1.trans (hb2.mono hb1.size)⟩
theorem digitsC_any (n : Int) (w : World) (h0 : 0 ≤ n) (h1 : n ≤ 9223372036854775807) :
    Calls Tryz.prog 59 #[.int .i64 n] w fun e w' => e = .returned (.string ⟨(dgs n).toArray⟩) ∧ Below w.heap.size w w' :=
  digitsB_any n.toNat n w h0 (by omega) h1
end Go.Proofs.YtojodekmmkemgaaGreatDoor
