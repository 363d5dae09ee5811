/- Moves of small maps, run by the kernel: the examples of the chapter. No condition. -/
import Derived.Test.YtkkkppbcjmeapaaDoorPlMove
import Derived.Test.YtkkkppbcjmeapaaDoorPlRng2
namespace Go.Proofs.YtkkkppbcjmeapaaDoor
/- the same by the bytes' lists: what the kernel can run -/
theorem tlE (x : ByteArray) : x.toList = x.data.toList := ByteArray.toList_eq ..
def okS' (x : ByteArray) : Bool := x.data.toList == ([] : List UInt8) || isName x.data.toList
def okR' (f t : ByteArray) : Bool := okS' f && (okS' t && (t.data.toList == ([] : List UInt8) || Op.bytesLess f.data.toList t.data.toList))
def endLt' (x y : ByteArray) : Bool := !(x.data.toList == y.data.toList) && (!(x.data.toList == ([] : List UInt8)) && (y.data.toList == ([] : List UInt8) || Op.bytesLess x.data.toList y.data.toList))
def hasR' (f t k : ByteArray) : Bool := okR' f t && (isName k.data.toList && (!Op.bytesLess k.data.toList f.data.toList && endLt' k t))
def maxS' (x y : ByteArray) : ByteArray := if !Op.bytesLess x.data.toList y.data.toList then x else y
def minE' (x y : ByteArray) : ByteArray := if endLt' y x then y else x
def outL' (af at' bf bt : ByteArray) : List (ByteArray × ByteArray) :=
  (if Op.bytesLess af.data.toList bf.data.toList then [(af, minE' bf at')] else []) ++ (if endLt' bt at' then [(maxS' af bt, at')] else [])
def tch' (x y : ByteArray) (p : Pt) : Bool := (okR' p.f p.t && okR' x y) && okR' (maxS' p.f x) (minE' p.t y)
def tl' (d : List Pt) (x y : ByteArray) : Nat → List (Nat × Pt)
  | 0 => []
  | k + 1 => tl' d x y k ++ (match d[k]? with | some p => if tch' x y p then [(k, p)] else [] | none => [])
def pieces' (x y : ByteArray) (q : Nat × Pt) : List Pt := (outL' q.2.f q.2.t x y).map fun p => ⟨p.1, p.2, q.2.g, q.2.e⟩
def atL' (x : ByteArray) (left : List Pt) : Nat := match left with | [] => 0 | p :: _ => if p.t.data.toList = x.data.toList ∧ x.data.toList ≠ [] then 1 else 0
def newL' (d : List Pt) (x y : ByteArray) (g : Int) : List Pt :=
  let xs := tl' d x y d.length
  let left := xs.flatMap (pieces' x y)
  let a := atL' x left
  d.take (fstL xs).toNat ++ left.take a ++ [⟨x, y, g, min (epL xs + 1) 2147483648⟩] ++ left.drop a ++ d.drop ((lstL xs).toNat + 1)
def ownerV' (d : List Pt) (x y : ByteArray) : Int × Bool × Int :=
  if d = [] then (0, false, 1) else if okR' x y = false then (0, false, 2) else match ownL (tl' d x y d.length) 0 with | none => (0, false, 0) | some o => (o, decide (0 < o), 0)
def moveV' (d : List Pt) (x y : ByteArray) (g : Int) : Int × Int × List Pt :=
  if (ownerV' d x y).2.2 ≠ 0 then (0, (ownerV' d x y).2.2, d)
  else if ¬ (1 ≤ g ∧ g < 8) then (0, 2, d)
  else if (ownerV' d x y).2.1 = false ∨ (ownerV' d x y).1 = g then (0, 9, d)
  else if 64 < (newL' d x y g).length then (0, 4, d)
  else (min (epL (tl' d x y d.length) + 1) 2147483648, 0, newL' d x y g)
def findV' (d : List Pt) (key : ByteArray) : Pt × Int :=
  if d = [] then (⟨⟨#[]⟩, ⟨#[]⟩, 0, 0⟩, 1) else if isName key.data.toList then ((d.find? (fun p => hasR' p.f p.t key)).getD ⟨⟨#[]⟩, ⟨#[]⟩, 0, 0⟩, 0) else (⟨⟨#[]⟩, ⟨#[]⟩, 0, 0⟩, 2)
theorem okS_run (x : ByteArray) : okS x = okS' x := by simp only [okS, okS', tlE]
theorem okR_run (x y : ByteArray) : okR x y = okR' x y := by simp only [okR, okR', okS_run, tlE]
theorem endLt_run (x y : ByteArray) : endLt x y = endLt' x y := by simp only [endLt, endLt', tlE]
theorem hasR_run (x y k : ByteArray) : hasR x y k = hasR' x y k := by simp only [hasR, hasR', okR_run, endLt_run, tlE]
theorem maxS_run (x y : ByteArray) : maxS x y = maxS' x y := by simp only [maxS, maxS', tlE]
theorem minE_run (x y : ByteArray) : minE x y = minE' x y := by simp only [minE, minE', endLt_run]
theorem outL_run (a b c d : ByteArray) : outL a b c d = outL' a b c d := by simp only [outL, outL', endLt_run, maxS_run, minE_run, tlE]
theorem tch_run (x y : ByteArray) (p : Pt) : tch x y p = tch' x y p := by simp only [tch, tch', okR_run, maxS_run, minE_run]
theorem tl_run (d : List Pt) (x y : ByteArray) : ∀ k, tl d x y k = tl' d x y k
  | 0 => rfl
  | k + 1 => by
    rw [tl, tl', tl_run d x y k]
    cases d[k]? with
    | none => rfl
    | some p => simp only [tch_run]
theorem atL_run (x : ByteArray) (l : List Pt) : atL x l = atL' x l := by
  cases l with
  | nil => rfl
  | cons p l =>
    have : (p.t = x) = (p.t.data.toList = x.data.toList) := propext ⟨fun h => by rw [h], fun h => ba_eq (by rw [tlE, tlE, h])⟩
    simp only [atL, atL', this, tlE]
theorem pieces_run (x y : ByteArray) : pieces x y = pieces' x y := by funext q; simp only [pieces, pieces', outL_run]
theorem newL_run (d : List Pt) (x y : ByteArray) (g : Int) : newL d x y g = newL' d x y g := by
  simp only [newL, newL', tl_run, leftL, pieces_run, atL_run]
theorem ownerV_run (d : List Pt) (x y : ByteArray) : ownerV d x y = ownerV' d x y := by
  unfold ownerV ownerV'
  rw [tl_run, okR_run]
  cases ownL (tl' d x y d.length) 0 <;> rfl
theorem moveV_run (d : List Pt) (x y : ByteArray) (g : Int) : moveV d x y g = moveV' d x y g := by
  simp only [moveV, moveV', ownerV_run, newL_run, tl_run]
theorem findV_run (d : List Pt) (k : ByteArray) : findV d k = findV' d k := by
  simp only [findV, findV', hasR_run]
def dW0 : List Pt := [⟨⟨#[]⟩, ⟨#[]⟩, 1, 1⟩]
def dW1 : List Pt := [⟨⟨#[]⟩, ⟨#[99]⟩, 1, 1⟩, ⟨⟨#[99]⟩, ⟨#[109]⟩, 2, 2⟩, ⟨⟨#[109]⟩, ⟨#[]⟩, 1, 1⟩]
def dW2 : List Pt := [⟨⟨#[]⟩, ⟨#[99]⟩, 1, 1⟩, ⟨⟨#[99]⟩, ⟨#[100]⟩, 2, 2⟩, ⟨⟨#[100]⟩, ⟨#[102]⟩, 1, 3⟩, ⟨⟨#[102]⟩, ⟨#[109]⟩, 2, 2⟩, ⟨⟨#[109]⟩, ⟨#[]⟩, 1, 1⟩]
theorem mv1 : moveV dW0 ⟨#[99]⟩ ⟨#[109]⟩ 2 = (2, 0, dW1) := by rw [moveV_run]; rfl
theorem mv2 : moveV dW1 ⟨#[97]⟩ ⟨#[100]⟩ 3 = (0, 9, dW1) := by rw [moveV_run]; rfl
theorem mv3 : moveV dW1 ⟨#[100]⟩ ⟨#[102]⟩ 1 = (3, 0, dW2) := by rw [moveV_run]; rfl
theorem fv1 : findV dW1 ⟨#[100]⟩ = (⟨⟨#[99]⟩, ⟨#[109]⟩, 2, 2⟩, 0) := by rw [findV_run]; rfl
theorem fv2 : findV dW1 ⟨#[109]⟩ = (⟨⟨#[109]⟩, ⟨#[]⟩, 1, 1⟩, 0) := by rw [findV_run]; rfl
end Go.Proofs.YtkkkppbcjmeapaaDoor
