/- Names that numbers make; the table of kinds. Conditions: as each theorem says. -/
import Derived.Test.YtgjnmfmbheejoaaGreatDoorCmBy
import Derived.Test.YtgjnmfmbheejoaaGreatDoorCmA
namespace Go.Proofs.YtgjnmfmbheejoaaGreatDoor
open Go.RowKit Go.Shelf

theorem repeatL_byte (x : UInt8) : ∀ z : Nat, Lib.repeatL [x] z = List.replicate z x
  | 0 => rfl
  | z + 1 => by rw [Lib.repeatL, repeatL_byte x z]; rfl
set_option maxRecDepth 100000 in
set_option maxHeartbeats 1000000 in
theorem made_name (n : Nat) (_hn : n ≤ 255) (w : World) :
    Calls Tryz.prog 38 #[.int .u8 (n : Int)] w fun e w' => e = .returned (.string (nmBA n)) ∧ Below w.heap.size w w' := by
  obtain ⟨r, hr⟩ : ∃ r : Nat, (n : Int) % 26 = (r : Int) := ⟨n % 26, by omega⟩
  obtain ⟨z, hz⟩ : ∃ z : Nat, (n : Int) % 16 = (z : Int) := ⟨n % 16, by omega⟩
  have hr2 : r < 26 := by omega
  have hz2 : z < 16 := by omega
  have hw1 : IntKind.u8.wrap (97 + (r : Int)) = 97 + (r : Int) := by rw [IntKind.wrap_u8]; omega
  have hw2 : IntKind.i64.wrap (1 + (z : Int)) = 1 + (z : Int) := IntWalk.i64_in _ (by omega)
  have hwn : IntKind.i64.wrap (n : Int) = (n : Int) := IntWalk.i64_in _ (by omega)
  have htm : (n : Int).tmod 16 = (z : Int) := by rw [Int.tmod_eq_emod_of_nonneg (by omega)]; exact hz
  have hc := conv_bytes (slB_lit w [(97 + r).toUInt8] 1 rfl #[.int .u8 (97 + (r : Int))] (by show _ = #[Value.int .u8 (((97 + r).toUInt8).toNat : Int)]; rw [u8_lt (by omega)]; rfl)) 1
  have hy : nmBA n = ⟨(Lib.repeatL (⟨[(97 + r).toUInt8].toArray⟩ : ByteArray).data.toList (1 + z)).toArray⟩ := by
    show (⟨(nameL n).toArray⟩ : ByteArray) = _
    unfold nameL
    rw [show n % 16 = z by omega, show n % 26 = r by omega]
    show _ = (⟨(Lib.repeatL [(97 + r).toUInt8] (1 + z)).toArray⟩ : ByteArray)
    rw [repeatL_byte]
  have RPa := Tryz.strings_Repeat ⟨[(97 + r).toUInt8].toArray⟩ (1 + z)
  rw [← hy] at RPa
  have e1 : ((1 + z : Nat) : Int) = 1 + (z : Int) := by omega
  rw [e1] at RPa
  have RP := Lib.hid (fun (V : World) => RPa V (by omega) (by show 1 * (1 + z) ≤ _; omega))
  clear RPa
  generalize (⟨[(97 + r).toUInt8].toArray⟩ : ByteArray) = s at hc RP
  have B1 := Lib.hid ((Below.refl w.heap.size w).alloc (Nat.le_refl _) (.cells #[.int .u8 (97 + (r : Int))] 5))
  generalize nmBA n = d at RP ⊢
  clear hy hr2 hz2 hz e1 _hn
  go_enter Tryz.func38, Tryz.ntmps38
  have RQ := Lib.hid (RP.out (w.alloc (.cells #[.int .u8 (97 + (r : Int))] 5)))
  go_wp2_with (go_at_call 39; go_loud (go_fit RQ.out); rintro e w2 ⟨rfl, hb⟩; have BZ := Lib.hid (B1.out.trans (hb.mono B1.out.size)); clear hb)
  go_ret
  exact ⟨rfl, BZ.out⟩
/-- The table of kinds lies in memory. -/
def KndE (w : World) : Prop := ∃ b o c, w.cell? ⟨0, 0, none⟩ = some (.slice (some ⟨b, o, none⟩) 10 c) ∧ ∀ i : Nat, i < 10 → w.cell? ⟨b, o + i, none⟩ = some (.int .i64 ((kindsL[i]?).getD 0))
theorem KndE.keep {w w' : World} (h : KndE w) (hb : Below w.heap.size w w') : KndE w' := by
  obtain ⟨b, o, c, h1, h2⟩ := h
  exact ⟨b, o, c, bcell h1 hb, fun i hi => bcell (h2 i hi) hb⟩
/-- The cells of the numbers. -/
def nA (x : Nv) : Array Value := #[.int .u8 (x.kind : Int), .int .u8 (x.step : Int), .int .u8 (x.key : Int), .int .u8 (x.to : Int), .int .u16 (x.saga : Int), .int .u16 (x.data : Int), .int .u32 (x.call : Int), .int .i64 x.delta]
structure NvZ (x : Nv) : Prop where
  kind : x.kind ≤ 255
  step : x.step ≤ 255
  key : x.key ≤ 255
  tto : x.to ≤ 255
  saga : x.saga ≤ 65535
  data : x.data ≤ 65535
  call : x.call ≤ 4294967295
  delta : In64 x.delta
end Go.Proofs.YtgjnmfmbheejoaaGreatDoor
