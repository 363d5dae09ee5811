/- Arguments of one cell opened: numbers with their bounds, strings with their length's. No condition. -/
import Derived.Test.YtmbnhbocablgeaaDoorFrame
namespace Go.Proofs.YtmbnhbocablgeaaDoor
open Go.ChangeShapes Go.WideShapes Go.ChangeAt Go.RowKit

theorem open_has {P : Program} {W : World} {r : Reach} {b : Nat} {t : TypeId} {v : Value} {k : IntKind} (ht : P.underlying t = some (.int k)) (h : Value.okWide P W r b t v) : ∃ n : Int, v = .int k n ∧ IntKind.min k ≤ n ∧ n ≤ IntKind.max k := by
  simp only [Value.okWide, Cell.okWide, ht] at h
  have hv : ∃ n : Int, v = .int k n ∧ IntKind.has k n := by cases v <;> simp_all [Cell.ok]
  obtain ⟨n, rfl, h1⟩ := hv
  exact ⟨n, rfl, h1⟩
theorem open_u32 {P : Program} {W : World} {r : Reach} {b : Nat} {t : TypeId} {v : Value} (ht : P.underlying t = some (.int .u32)) (h : Value.okWide P W r b t v) : ∃ n : Int, v = .int .u32 n ∧ 0 ≤ n ∧ n ≤ 4294967295 := by
  obtain ⟨n, h0, h1, h2⟩ := open_has ht h
  rw [show IntKind.u32.min = 0 by decide] at h1
  rw [show IntKind.u32.max = 4294967295 by decide] at h2
  exact ⟨n, h0, h1, h2⟩
theorem open_u16 {P : Program} {W : World} {r : Reach} {b : Nat} {t : TypeId} {v : Value} (ht : P.underlying t = some (.int .u16)) (h : Value.okWide P W r b t v) : ∃ n : Int, v = .int .u16 n ∧ 0 ≤ n ∧ n ≤ 65535 := by
  obtain ⟨n, h0, h1, h2⟩ := open_has ht h
  rw [show IntKind.u16.min = 0 by decide] at h1
  rw [show IntKind.u16.max = 65535 by decide] at h2
  exact ⟨n, h0, h1, h2⟩
theorem open_u8 {P : Program} {W : World} {r : Reach} {b : Nat} {t : TypeId} {v : Value} (ht : P.underlying t = some (.int .u8)) (h : Value.okWide P W r b t v) : ∃ n : Int, v = .int .u8 n ∧ 0 ≤ n ∧ n ≤ 255 := by
  obtain ⟨n, h0, h1, h2⟩ := open_has ht h
  rw [show IntKind.u8.min = 0 by decide] at h1
  rw [show IntKind.u8.max = 255 by decide] at h2
  exact ⟨n, h0, h1, h2⟩
theorem open_i64 {P : Program} {W : World} {r : Reach} {b : Nat} {t : TypeId} {v : Value} (ht : P.underlying t = some (.int .i64)) (h : Value.okWide P W r b t v) : ∃ n : Int, v = .int .i64 n ∧ -9223372036854775808 ≤ n ∧ n ≤ 9223372036854775807 := by
  obtain ⟨n, h0, h1, h2⟩ := open_has ht h
  rw [show IntKind.i64.min = -9223372036854775808 by decide] at h1
  rw [show IntKind.i64.max = 9223372036854775807 by decide] at h2
  exact ⟨n, h0, h1, h2⟩
theorem open_str {P : Program} {W : World} {r : Reach} {b : Nat} {t : TypeId} {v : Value} (ht : P.underlying t = some .string) (h : Value.okWide P W r b t v) : ∃ s : ByteArray, v = .string s ∧ s.size ≤ 9223372036854775807 := by
  simp only [Value.okWide, Cell.okWide, ht] at h
  have hv : ∃ s : ByteArray, v = .string s ∧ (s.size : Int) ≤ IntKind.i64.max := by cases v <;> simp_all [Cell.ok]
  obtain ⟨s, rfl, h1⟩ := hv
  rw [show IntKind.i64.max = 9223372036854775807 by decide] at h1
  exact ⟨s, rfl, by omega⟩
end Go.Proofs.YtmbnhbocablgeaaDoor
