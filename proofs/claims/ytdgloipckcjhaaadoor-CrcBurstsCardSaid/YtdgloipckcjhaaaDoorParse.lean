/- What crc.Parse and the reference's Parse of checksums return. Condition: the text is no longer than an int can say. -/
import Derived.Test.YtdgloipckcjhaaaDoorParseU
import Derived.Test.YtdgloipckcjhaaaDoorPlName
namespace Go.Proofs.YtdgloipckcjhaaaDoor
open Go.RowKit

/-- What Parse answers. -/
def isSum (l : List UInt8) : Bool := decide (l.length = 8) && l.all Hx.isHex
def parseV (l : List UInt8) : Value := if isSum l then .tuple #[.int .u32 (Hx.unhex l : Nat), .int .i64 0] else .tuple #[.int .u32 0, .int .i64 10]
def hexdigs : List UInt8 := [48, 49, 50, 51, 52, 53, 54, 55, 56, 57, 97, 98, 99, 100, 101, 102]
theorem hexdigs_contains (c : UInt8) : hexdigs.contains c = Hx.isHex c := by
  have h := u8_all (fun c => hexdigs.contains c == Hx.isHex c) (by decide +kernel) c
  simpa using h
theorem trim_hex (l : List UInt8) : (Lib.trimS l hexdigs).isEmpty = l.all Hx.isHex := by
  rw [trimS_empty]
  congr 1
  funext c
  exact hexdigs_contains c
theorem trimH_laid (s : ByteArray) (w : World) (hs : s.size ≤ 9223372036854775807) :
    Calls Tryd.prog 33 #[.string s, .string ⟨#[48, 49, 50, 51, 52, 53, 54, 55, 56, 57, 97, 98, 99, 100, 101, 102]⟩] w
      fun e w' => e = .returned (.string ⟨(Lib.trimS s.data.toList hexdigs).toArray⟩) ∧ Below w.heap.size w w' :=
  Any.strings_Trim_laid Tryd.lays160 (by kernel_rfl) s _ w hs (by decide) (ascii_of_all (by decide))
theorem sum_yes {l : List UInt8} (h1 : l.length = 8) (h2 : l.all Hx.isHex = true) : parseV l = .tuple #[.int .u32 (Hx.unhex l : Nat), .int .i64 0] := by
  unfold parseV isSum
  rw [decide_eq_true h1, h2]
  rfl
theorem sum_no1 {l : List UInt8} (h1 : ¬ l.length = 8) : parseV l = .tuple #[.int .u32 0, .int .i64 10] := by
  unfold parseV isSum
  rw [decide_eq_false h1]
  rfl
theorem sum_no2 {l : List UInt8} (h2 : l.all Hx.isHex = false) : parseV l = .tuple #[.int .u32 0, .int .i64 10] := by
  unfold parseV isSum
  rw [h2, Bool.and_false]
  rfl

set_option maxHeartbeats 400000 in
theorem parse_any (s : ByteArray) (w : World) (hs : s.size ≤ 9223372036854775807) :
    Calls Tryd.prog 16 #[.string s] w fun e w' => e = .returned (parseV s.data.toList) ∧ Below w.heap.size w w' := by
  have hl : s.data.toList.length = s.size := by rw [← Lib.size_eq]
  by_cases h8 : s.size = 8
  · have hT := trimH_laid s w hs
    cases hx : s.data.toList.all Hx.isHex with
    | true =>
      rw [sum_yes (by omega) hx]
      have he : (Lib.trimS s.data.toList hexdigs).isEmpty = true := by rw [trim_hex]; exact hx
      have he' : Lib.trimS s.data.toList hexdigs = [] := List.isEmpty_iff.1 he
      rw [he'] at hT
      have HT := Lib.hid hT
      have HP := Lib.hid (fun W => parseU_any s W h8 hx)
      have hlt := (Hx.hexK_unhex _ hx).2
      rw [hl, h8] at hlt
      have hlt' : Hx.unhex s.data.toList < 4294967296 := hlt
      generalize Hx.unhex s.data.toList = u at HP hlt' ⊢
      have hw : IntKind.u32.wrap (u : Int) = u := by rw [IntKind.wrap_u32']; omega
      have b8 : ((s.size : Int) != 8) = false := by rw [h8]; rfl
      clear he he' hx hl hT hlt h8
      go_enter Tryd.func16, Tryd.ntmps16
      go_wp2_with (first
        | (go_at_call 33; refine HT.out.mono ?_; rintro e w1 ⟨rfl, hb1⟩)
        | (go_at_call 34; refine (HP.out _).mono ?_; rintro e w2 ⟨rfl, hb2⟩))
      go_ret2
      exact ⟨rfl, hb1.trans (hb2.mono hb1.size)⟩
    | false =>
      rw [sum_no2 hx]
      have he : (Lib.trimS s.data.toList hexdigs).isEmpty = false := by rw [trim_hex]; exact hx
      have HT := Lib.hid hT
      have b8 : ((s.size : Int) != 8) = false := by rw [h8]; rfl
      generalize Lib.trimS s.data.toList hexdigs = t at HT he
      clear hx hl hT h8
      go_enter Tryd.func16, Tryd.ntmps16
      go_wp2_with (first
        | (go_at_call 33; refine HT.out.mono ?_; rintro e w1 ⟨rfl, hb1⟩))
      go_ret2
      exact ⟨rfl, hb1⟩
  · rw [sum_no1 (by omega)]
    have b8 : ((s.size : Int) != 8) = true := by simp only [bne_iff_ne]; omega
    clear h8 hl
    go_enter Tryd.func16, Tryd.ntmps16
    go_wp2
    go_ret2
    exact ⟨rfl, Below.refl _ _⟩
end Go.Proofs.YtdgloipckcjhaaaDoor
