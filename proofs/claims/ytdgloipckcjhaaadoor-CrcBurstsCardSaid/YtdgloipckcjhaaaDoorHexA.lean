/- What crc.Hex and the reference's Hex return. Conditions: the listed tables, where they are read. -/
import Derived.Test.YtdgloipckcjhaaaDoorHexU
import Derived.Laws.Concat
import Derived.Lib.Repeat
namespace Go.Proofs.YtdgloipckcjhaaaDoor
open Go.RowKit

set_option maxHeartbeats 400000 in
theorem fmtI_any (u : Nat) (w : World) (hu : u < 4294967296) (h : w.cell? ⟨8, 15, none⟩ = some (.int .u8 4)) (hg : 8 < w.heap.size) :
    Calls Tryd.prog 48 #[.int .u64 (u : Int), .int .i64 16] w fun e w' => e = .returned (.string ⟨(Hx.fmt u).toArray⟩) ∧ Below w.heap.size w w' := by
  have H := Lib.hid (fbits_any u w hu h hg)
  clear h
  go_enter Tryd.func48, Tryd.ntmps48
  go_wp2_with (go_at_call 68; refine H.out.mono ?_; rintro e w' ⟨rfl, hb⟩)
  go_ret
  exact ⟨rfl, hb⟩
set_option maxHeartbeats 400000 in
theorem fmtU_any (u : Nat) (w : World) (hu : u < 4294967296) (h : w.cell? ⟨8, 15, none⟩ = some (.int .u8 4)) (hg : 8 < w.heap.size) :
    Calls Tryd.prog 35 #[.int .u64 (u : Int), .int .i64 16] w fun e w' => e = .returned (.string ⟨(Hx.fmt u).toArray⟩) ∧ Below w.heap.size w w' := by
  have H := Lib.hid (fmtI_any u w hu h hg)
  clear h
  go_enter Tryd.func35, Tryd.ntmps35
  go_wp2_with (go_at_call 48; refine H.out.mono ?_; rintro e w' ⟨rfl, hb⟩)
  go_ret
  exact ⟨rfl, hb⟩

/-- The text of a checksum. -/
def hexS (u : Nat) : ByteArray := ⟨(Hx.hexK 8 u).toArray⟩
theorem repeat_zero (n : Nat) : Lib.repeatL [48] n = List.replicate n 48 := by
  induction n with
  | zero => rfl
  | succ n ih => show [48] ++ Lib.repeatL [48] n = _; rw [ih]; rfl
theorem u64_in {u : Nat} (h : u < 4294967296) : IntKind.u64.wrap (u : Int) = u := by
  rw [IntKind.wrap_u64]; omega

set_option maxHeartbeats 400000 in
theorem hex_any (u : Nat) (w : World) (hu : u < 4294967296) (h : w.cell? ⟨8, 15, none⟩ = some (.int .u8 4)) (hg : 8 < w.heap.size) :
    Calls Tryd.prog 18 #[.int .u32 (u : Int)] w fun e w' => e = .returned (.string (hexS u)) ∧ Below w.heap.size w w' := by
  obtain ⟨S, hS⟩ : ∃ S : ByteArray, S = ⟨(Hx.fmt u).toArray⟩ := ⟨_, rfl⟩
  obtain ⟨hl, hpad⟩ := Hx.fmt_pad 7 u (by omega)
  have hsz : S.size = (Hx.fmt u).length := by rw [hS, Lib.size_mk]
  have hsz8 : S.size ≤ 8 := by omega
  have hF := fmtU_any u w hu h hg
  rw [← hS] at hF
  have HF := Lib.hid hF
  obtain ⟨R, hR⟩ : ∃ R : ByteArray, R = ⟨(Lib.repeatL [48] (8 - S.size)).toArray⟩ := ⟨_, rfl⟩
  have hRep : ∀ W : World, Calls Tryd.prog 36 #[.string ⟨#[48]⟩, .int .i64 (8 - (S.size : Int))] W fun e w' => e = .returned (.string R) ∧ Below W.heap.size W w' := fun W => by
    have := Tryd.strings_Repeat ⟨#[48]⟩ (8 - S.size) W (by omega) (by show 1 * _ ≤ _; omega)
    rw [show ((8 - S.size : Nat) : Int) = 8 - (S.size : Int) by omega] at this
    rw [hR]
    exact this
  have HR := Lib.hid hRep
  have hfin : R ++ S = hexS u := by
    rw [hR, hS, ByteArray.mk_append_mk, repeat_zero, Lib.size_mk]
    unfold hexS
    rw [← hpad]
  have hrs : R.size ≤ 8 := by
    rw [hR, Lib.size_mk, repeat_zero, List.length_replicate]; omega
  have HFIN := Lib.hid hfin
  clear hF hRep hR hS hpad h hsz hl hfin
  go_enter Tryd.func18, Tryd.ntmps18
  go_wp2_with (first
    | (go_at_call 35; refine HF.out.mono ?_; rintro e w1 ⟨rfl, hb1⟩)
    | (go_at_call 36; refine (HR.out _).mono ?_; rintro e w2 ⟨rfl, hb2⟩))
  go_ret
  exact ⟨by rw [← HFIN.out]; rfl, hb1.trans (hb2.mono hb1.size)⟩

theorem slice_dig {n : Nat} (h : n < 16) (W : World) : (Instr.slice 9 (.string ⟨#[48, 49, 50, 51, 52, 53, 54, 55, 56, 57, 97, 98, 99, 100, 101, 102]⟩) (some (.int .u32 (n : Int))) (some (.int .u32 ((n : Int) + 1))) none).run Tryd.prog W = .ok (.string ⟨#[Hx.dig n]⟩) W := by
  refine (run_slice_string W 9 _ .u32 .u32 (n : Int) ((n : Int) + 1) Tryd.underlying9 (by omega) (by omega) (by show (n : Int) + 1 ≤ 16; omega)).trans ?_
  congr 2
  have : n = 0 ∨ n = 1 ∨ n = 2 ∨ n = 3 ∨ n = 4 ∨ n = 5 ∨ n = 6 ∨ n = 7 ∨ n = 8 ∨ n = 9 ∨ n = 10 ∨ n = 11 ∨ n = 12 ∨ n = 13 ∨ n = 14 ∨ n = 15 := by omega
  rcases this with rfl | rfl | rfl | rfl | rfl | rfl | rfl | rfl | rfl | rfl | rfl | rfl | rfl | rfl | rfl | rfl <;> rfl

set_option maxHeartbeats 1000000 in
theorem refHex_any (u : Nat) (w : World) (hu : u < 4294967296) :
    Calls Tryd.prog 19 #[.int .u32 (u : Int)] w fun e w' => e = .returned (.string (hexS u)) ∧ w = w' := by
  go_enter Tryd.func19, Tryd.ntmps19
  go_wp2
  go_loop [0, 3, 4] (fun uu o i => ∃ (k v : Nat) (s : ByteArray), k ≤ 8 ∧ i = .int .i64 k ∧ uu = .int .u32 v ∧ v < 4294967296 ∧ o = .string s ∧ s.size ≤ 8 ∧ Hid (v = u / 16 ^ k) ∧ Hid (s = ⟨(Hx.hexK k u).toArray⟩)) (fun _ _ i => 8 - (intOf i).toNat)
  case atStart => exact ⟨0, u, ⟨#[]⟩, Nat.zero_le _, rfl, rfl, hu, rfl, by decide, Lib.hid (by simp), Lib.hid rfl⟩
  case round =>
    obtain ⟨k, v, s, hk, rfl, rfl, hv, rfl, hs8, HV, HS⟩ := hrel
    by_cases hlt : k < 8
    · have hsl := slice_dig (n := v % 16) (by omega)
      rw [show ((v % 16 : Nat) : Int) = (v : Int) % 16 from rfl] at hsl
      have HV2 : Hid (v / 16 = u / 16 ^ (k + 1)) := Lib.hid (by rw [HV.out, Nat.div_div_eq_div_mul, ← Nat.pow_succ])
      have hsz : (⟨#[Hx.dig (v % 16)]⟩ : ByteArray).size = 1 := rfl
      obtain ⟨D, hD⟩ : ∃ D : ByteArray, D = ⟨#[Hx.dig (v % 16)]⟩ := ⟨_, rfl⟩
      rw [← hD] at hsl hsz
      have hD1 : D.size ≤ 1 := by omega
      have HS2 : Hid (D ++ s = ⟨(Hx.hexK (k + 1) u).toArray⟩) := Lib.hid (by
        rw [hD, HS.out, Hx.hexK_cons, ← HV.out]
        exact ByteArray.mk_append_mk [Hx.dig (v % 16)] _)
      have hs9 : (D ++ s).size ≤ 8 := by
        rw [HS2.out, Lib.size_mk, Hx.hexK_length]; omega
      have HD := Lib.hid hD
      have H9 := Lib.hid hs9
      clear hD hsz hs9
      go_wp2
      go_round
      case rel => exact ⟨k + 1, v / 16, D ++ s, by omega, by go_num, by go_num, by omega, rfl, H9.out, HV2, HS2⟩
      case measure => simp [intOf]; omega
    · obtain rfl : k = 8 := by omega
      go_wp2
      go_ret
      exact ⟨by unfold hexS; rw [← HS.out]; rfl, rfl⟩
end Go.Proofs.YtdgloipckcjhaaaDoor
