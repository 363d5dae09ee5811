/- Whether two commands are equal, by the reference. Condition: sizes as a machine's integers can say. -/
import Derived.Test.YtgjnmfmbheejoaaGreatDoorCmEq
import Derived.Test.YtgjnmfmbheejoaaGreatDoorDfG
namespace Go.Proofs.YtgjnmfmbheejoaaGreatDoor
open Go.RowKit Go.Shelf

theorem effEq_t (a0 b0 : Int) (a1 b1 : Int) (a2 b2 : Int) (h : a0 = b0 ∧ a1 = b1 ∧ a2 = b2) (W : World) : (binOp .eql 26 (.agg #[.int .i64 a0, .int .i64 a1, .int .i64 a2]) (.agg #[.int .i64 b0, .int .i64 b1, .int .i64 b2])).run Tryz.prog W = .ok (.bool true) W := by
  obtain ⟨rfl, rfl, rfl⟩ := h
  go_simp
theorem effEq_f (a0 b0 : Int) (a1 b1 : Int) (a2 b2 : Int) (h : ¬ (a0 = b0 ∧ a1 = b1 ∧ a2 = b2)) (W : World) : (binOp .eql 26 (.agg #[.int .i64 a0, .int .i64 a1, .int .i64 a2]) (.agg #[.int .i64 b0, .int .i64 b1, .int .i64 b2])).run Tryz.prog W = .ok (.bool false) W := by
  by_cases h0 : a0 = b0
  case neg =>
    clear h
    go_simp
  subst h0
  by_cases h1 : a1 = b1
  case neg =>
    clear h
    go_simp
  subst h1
  by_cases h2 : a2 = b2
  case neg =>
    clear h
    go_simp
  subst h2
  exact absurd ⟨rfl, rfl, rfl⟩ h
theorem rngEq_t (a0 b0 : ByteArray) (a1 b1 : ByteArray) (h : a0 = b0 ∧ a1 = b1) (W : World) : (binOp .eql 28 (.agg #[.string a0, .string a1]) (.agg #[.string b0, .string b1])).run Tryz.prog W = .ok (.bool true) W := by
  obtain ⟨rfl, rfl⟩ := h
  go_simp
theorem rngEq_f (a0 b0 : ByteArray) (a1 b1 : ByteArray) (h : ¬ (a0 = b0 ∧ a1 = b1)) (W : World) : (binOp .eql 28 (.agg #[.string a0, .string a1]) (.agg #[.string b0, .string b1])).run Tryz.prog W = .ok (.bool false) W := by
  by_cases h0 : a0 = b0
  case neg =>
    have e : (a0.toList == b0.toList) = false := key_ne.2 h0
    clear h
    go_simp
  subst h0
  by_cases h1 : a1 = b1
  case neg =>
    have e : (a1.toList == b1.toList) = false := key_ne.2 h1
    clear h
    go_simp
  subst h1
  exact absurd ⟨rfl, rfl⟩ h
theorem itEq_t (a0 b0 : Int) (a1 b1 : Int) (a2 b2 : Int) (a3 b3 : Int) (a4 b4 : Bool) (a5 b5 : Int) (h : a0 = b0 ∧ a1 = b1 ∧ a2 = b2 ∧ a3 = b3 ∧ a4 = b4 ∧ a5 = b5) (W : World) : (binOp .eql 33 (.agg #[.int .i64 a0, .int .i64 a1, .int .i64 a2, .int .i64 a3, .bool a4, .int .i64 a5]) (.agg #[.int .i64 b0, .int .i64 b1, .int .i64 b2, .int .i64 b3, .bool b4, .int .i64 b5])).run Tryz.prog W = .ok (.bool true) W := by
  obtain ⟨rfl, rfl, rfl, rfl, rfl, rfl⟩ := h
  go_simp
theorem itEq_f (a0 b0 : Int) (a1 b1 : Int) (a2 b2 : Int) (a3 b3 : Int) (a4 b4 : Bool) (a5 b5 : Int) (h : ¬ (a0 = b0 ∧ a1 = b1 ∧ a2 = b2 ∧ a3 = b3 ∧ a4 = b4 ∧ a5 = b5)) (W : World) : (binOp .eql 33 (.agg #[.int .i64 a0, .int .i64 a1, .int .i64 a2, .int .i64 a3, .bool a4, .int .i64 a5]) (.agg #[.int .i64 b0, .int .i64 b1, .int .i64 b2, .int .i64 b3, .bool b4, .int .i64 b5])).run Tryz.prog W = .ok (.bool false) W := by
  by_cases h0 : a0 = b0
  case neg =>
    clear h
    go_simp
  subst h0
  by_cases h1 : a1 = b1
  case neg =>
    clear h
    go_simp
  subst h1
  by_cases h2 : a2 = b2
  case neg =>
    clear h
    go_simp
  subst h2
  by_cases h3 : a3 = b3
  case neg =>
    clear h
    go_simp
  subst h3
  by_cases h4 : a4 = b4
  case neg =>
    clear h
    go_simp
  subst h4
  by_cases h5 : a5 = b5
  case neg =>
    clear h
    go_simp
  subst h5
  exact absurd ⟨rfl, rfl, rfl, rfl, rfl, rfl⟩ h
end Go.Proofs.YtgjnmfmbheejoaaGreatDoor
