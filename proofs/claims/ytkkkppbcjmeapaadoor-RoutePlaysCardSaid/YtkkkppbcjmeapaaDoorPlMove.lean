/- What Move answers and lays, in plain terms. No condition. -/
import Derived.Test.YtkkkppbcjmeapaaDoorPtOwner
namespace Go.Proofs.YtkkkppbcjmeapaaDoor
open Go.RowKit

/-- What stays of a part. -/
def pieces (x y : ByteArray) (q : Nat × Pt) : List Pt := (outL q.2.f q.2.t x y).map fun p => ⟨p.1, p.2, q.2.g, q.2.e⟩
def leftL (x y : ByteArray) (xs : List (Nat × Pt)) : List Pt := xs.flatMap (pieces x y)
def fstL (xs : List (Nat × Pt)) : Int := match xs with | [] => -1 | q :: _ => (q.1 : Int)
def lstL (xs : List (Nat × Pt)) : Int := match xs.getLast? with | none => -1 | some q => (q.1 : Int)
def epL (xs : List (Nat × Pt)) : Int := xs.foldl (fun m q => max m q.2.e) 0
theorem outL_len (a b c d : ByteArray) : (outL a b c d).length ≤ 2 := by
  unfold outL
  split <;> split <;> simp
theorem pieces_len (x y : ByteArray) (q : Nat × Pt) : (pieces x y q).length ≤ 2 := by unfold pieces; rw [List.length_map]; exact outL_len ..
theorem leftL_snoc (x y : ByteArray) (xs : List (Nat × Pt)) (q : Nat × Pt) : leftL x y (xs ++ [q]) = leftL x y xs ++ pieces x y q := by simp [leftL]
theorem leftL_len (x y : ByteArray) : ∀ xs : List (Nat × Pt), (leftL x y xs).length ≤ 2 * xs.length
  | [] => by simp [leftL]
  | q :: xs => by
    have h1 := leftL_len x y xs
    have h2 := pieces_len x y q
    have : leftL x y (q :: xs) = pieces x y q ++ leftL x y xs := rfl
    rw [this, List.length_append, List.length_cons]
    omega
theorem fstL_snoc (xs : List (Nat × Pt)) (q : Nat × Pt) : fstL (xs ++ [q]) = if fstL xs < 0 then (q.1 : Int) else fstL xs := by
  cases xs with
  | nil => simp [fstL]
  | cons p xs => simp [fstL]; omega
theorem lstL_snoc (xs : List (Nat × Pt)) (q : Nat × Pt) : lstL (xs ++ [q]) = (q.1 : Int) := by simp [lstL]
theorem epL_snoc (xs : List (Nat × Pt)) (q : Nat × Pt) : epL (xs ++ [q]) = max (epL xs) q.2.e := by simp [epL]
theorem run_maxI {P : Program} (ts : Array TypeId) (t : TypeId) (a b : Int) (w : World) : (Builtin.max_ ts t #[.int .i64 a, .int .i64 b]).run P w = .ok (.int .i64 (max a b)) w := by
  unfold Builtin.max_
  simp only [List.foldlM, Builtin.max2]
  simp [Sem.run_pure, Int.max_def]
  split <;> split <;> omega
theorem run_minI {P : Program} (ts : Array TypeId) (t : TypeId) (a b : Int) (w : World) : (Builtin.min_ ts t #[.int .i64 a, .int .i64 b]).run P w = .ok (.int .i64 (min a b)) w := by
  unfold Builtin.min_
  simp only [List.foldlM, Builtin.min2]
  simp [Sem.run_pure, Int.min_def]
  split <;> split <;> omega
/-- The parts behind a move of [x, y) to group g. -/
def atL (x : ByteArray) (left : List Pt) : Nat := match left with | [] => 0 | p :: _ => if p.t = x ∧ x.toList ≠ [] then 1 else 0
def newL (d : List Pt) (x y : ByteArray) (g : Int) : List Pt :=
  let xs := tl d x y d.length
  let left := leftL x y xs
  let a := atL x left
  d.take (fstL xs).toNat ++ left.take a ++ [⟨x, y, g, min (epL xs + 1) 2147483648⟩] ++ left.drop a ++ d.drop ((lstL xs).toNat + 1)
/-- What Move answers: the epoch, the error, and the parts that the map then has. -/
def moveV (d : List Pt) (x y : ByteArray) (g : Int) : Int × Int × List Pt :=
  if (ownerV d x y).2.2 ≠ 0 then (0, (ownerV d x y).2.2, d)
  else if ¬ (1 ≤ g ∧ g < 8) then (0, 2, d)
  else if (ownerV d x y).2.1 = false ∨ (ownerV d x y).1 = g then (0, 9, d)
  else if 64 < (newL d x y g).length then (0, 4, d)
  else (min (epL (tl d x y d.length) + 1) 2147483648, 0, newL d x y g)
theorem owner_pos {d : List Pt} {x y : ByteArray} (h : (ownerV d x y).2.1 = true) : tl d x y d.length ≠ [] := by
  intro e
  unfold ownerV at h
  rw [e] at h
  split at h
  · cases h
  · split at h
    · cases h
    · simp [ownL] at h
end Go.Proofs.YtkkkppbcjmeapaaDoor
