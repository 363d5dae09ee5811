/- Plain words: the texts of effects and items as lists of bytes, and their lengths. No condition. -/
import Derived.Test.YtgeljnjcpkmlmaaGreatDoorPlIdent
import Derived.Lib.ItoaNum
namespace Go.Proofs.YtgeljnjcpkmlmaaGreatDoor

/-- The letter of a phase. -/
def phL (c : Int) : UInt8 := if c = 1 then 102 else if c = 2 then 117 else 114
/-- A number from 0 on in decimal digits. -/
def dgs (a : Int) : List UInt8 := Lib.decDigits a.toNat
def effText (a b c : Int) : List UInt8 := dgs a ++ ([47] ++ (dgs b ++ ([47] ++ [phL c])))
def wayL (i : Bool) : List UInt8 := if i then [47, 105, 110] else [47, 111, 117, 116]
def itemText (a b c m : Int) (i : Bool) (g : Int) : List UInt8 := (if m = 0 then effText a b c else [109] ++ (dgs m ++ wayL i)) ++ ([64] ++ dgs g)

theorem dgs_len {a : Int} (h : a ≤ 99999) : (dgs a).length ≤ 5 := by
  unfold dgs
  rw [Lib.decDigits_length]
  have key : ∀ n : Nat, n < 100000 → Lib.nDigits n ≤ 5 := by
    intro n hn
    by_cases h0 : n < 10
    · rw [Lib.nDigits_small h0]; omega
    rw [Lib.nDigits_big h0]
    by_cases h1 : n / 10 < 10
    · rw [Lib.nDigits_small h1]; omega
    rw [Lib.nDigits_big h1]
    by_cases h2 : n / 10 / 10 < 10
    · rw [Lib.nDigits_small h2]; omega
    rw [Lib.nDigits_big h2]
    by_cases h3 : n / 10 / 10 / 10 < 10
    · rw [Lib.nDigits_small h3]; omega
    rw [Lib.nDigits_big h3, Lib.nDigits_small (by omega)]; omega
  exact key _ (by omega)
theorem dgs_one {a : Int} (h0 : 0 ≤ a) (h : a ≤ 9) : dgs a = [UInt8.ofNat (48 + a.toNat)] := Lib.decDigits_one (by omega)
end Go.Proofs.YtgeljnjcpkmlmaaGreatDoor
