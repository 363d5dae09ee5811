/- What crc.eight and the reference's step and take return. Condition: the listed table, where it is read. -/
import Derived.Test.YtdgloipckcjhaaaDoorPlCrc
import Derived.Test.YtdgloipckcjhaaaDoorProg
import Derived.WalkKit
import Derived.Laws.BitsAllLaws
import Derived.Lib.LaidTab
import Derived.Lib.Hide
import Derived.Handy
namespace Go.Proofs.YtdgloipckcjhaaaDoor
open Go.RowKit

/-- The listed table in a world: its cells, and that it lies there. -/
def foursTab : List Int := [0, 498536548, 997073096, 651767980, 1994146192, 1802195444, 1303535960, 1342533948, 3988292384, 4027552580, 3604390888, 3412177804, 2607071920, 2262029012, 2685067896, 3183342108]
structure Crcs (W : World) : Prop where
  four : ∀ i, i < 16 → W.cell? ⟨0, i, none⟩ = some (.int .u32 (Crc.fours.getD i 0 : Nat))
  lt : 0 < W.heap.size

theorem fours_lt : ∀ i, i < 16 → Crc.fours.getD i 0 < 4294967296 := by decide
/-- Half a round of eight: four steps by the table, in the walk's spelling. -/
theorem four_eq (r : Nat) (hr : r < 4294967296) : bits .xor .u32 ((r : Int) / 16) ((Crc.fours.getD (r % 16) 0 : Nat) : Int) = ((Crc.stepn 4 r : Nat) : Int) := by
  rw [← Crc.four_steps, show ((r : Int) / 16) = ((r / 16 : Nat) : Int) from rfl]
  exact u32_xor_nat _ _ (by omega) (fours_lt _ (by omega))
theorem mask_eq (r : Nat) (hr : r < 4294967296) : bits .and .u32 (r : Int) 15 = ((r % 16 : Nat) : Int) := by
  rw [show (15 : Int) = ((15 : Nat) : Int) from rfl, u32_and_nat r 15 hr (by decide), nat_mask4]

set_option maxHeartbeats 400000 in
theorem eight_any (r : Nat) (w : World) (hr : r < 4294967296) (h : Crcs w) :
    Calls Tryd.prog 37 #[.int .u32 (r : Int)] w fun e w' => e = .returned (.int .u32 (Crc.stepn 8 r : Nat)) ∧ w = w' := by
  have hs := Crc.stepn_lt 4 hr
  have c1 := h.four (r % 16) (by omega)
  have c2 := h.four (Crc.stepn 4 r % 16) (by omega)
  have e1 := four_eq r hr
  have e2 := four_eq _ hs
  have m1 := mask_eq r hr
  have m2 := mask_eq _ hs
  have hfin : Crc.stepn 4 (Crc.stepn 4 r) = Crc.stepn 8 r := (Crc.stepn_add 4 4 r).symm
  have HF := Lib.hid hfin
  clear h hfin
  generalize Crc.stepn 4 r = s at *
  generalize Crc.fours.getD (r % 16) 0 = x1 at *
  generalize Crc.fours.getD (s % 16) 0 = x2 at *
  go_enter Tryd.func37, Tryd.ntmps37
  go_wp2
  go_ret
  exact ⟨by rw [← HF.out]; rfl, rfl⟩
end Go.Proofs.YtdgloipckcjhaaaDoor
