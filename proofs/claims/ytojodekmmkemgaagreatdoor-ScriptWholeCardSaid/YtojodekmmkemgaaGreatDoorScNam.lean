/- Names that numbers make. Condition: as each theorem says. -/
import Derived.Test.YtojodekmmkemgaaGreatDoorScPrA
import Derived.Test.YtojodekmmkemgaaGreatDoorScWk
import Derived.Shelf.Bytes.SlEqualAll
import Derived.Outline
namespace Go.Proofs.YtojodekmmkemgaaGreatDoor
open Go.RowKit Go.Shelf

/-- A slice of bytes, with its address. -/
theorem slB_at {w : World} {A : Option Addr} {n : Nat} {l : List UInt8} (h : SlB w A n l) (hn : 0 < n) : ∃ g o, A = some ⟨g, o, none⟩ ∧ ∀ (i : Nat) c, l[i]? = some c → w.cell? ⟨g, o + i, none⟩ = some (u8V c) := by
  obtain ⟨g, o, rfl, _⟩ := h.2 0 _ (List.getElem?_eq_getElem (show 0 < l.length by have := h.1; omega))
  exact ⟨g, o, rfl, fun i c hi => by obtain ⟨g', o', e, hc⟩ := h.2 i c hi; cases e; exact hc⟩
set_option maxRecDepth 100000 in
theorem conv_bytes {w : World} {A : Option Addr} {n : Nat} {l : List UInt8} (h : SlB w A n l) (c : Nat) : (convert 23 9 (.slice A n c)).run Tryz.prog w = .ok (.string ⟨l.toArray⟩) w := by
  have hB : Lib.BytesIn w A n (l.map fun c => (c.toNat : Int)) := fun hn => by
    obtain ⟨g, o, rfl, hc⟩ := slB_at h hn
    refine ⟨g, o, rfl, fun i hi => ?_⟩
    have hx := List.getElem?_eq_getElem (show i < l.length by have := h.1; omega)
    rw [hc i _ hx, List.getD_eq_getElem?_getD, List.getElem?_map, hx]
    rfl
  have := hB.convert (P := Tryz.prog) (by rw [List.length_map]; exact h.1) c 23 5 9 Tryz.underlying23 Tryz.underlying5 Tryz.underlying9
  rw [this]
  congr 2
  unfold strOfNums
  congr 2
  rw [List.map_map]
  conv => rhs; rw [← List.map_id l]
  exact List.map_congr_left fun x _ => by simp

set_option maxRecDepth 100000 in
theorem slB_lit (w : World) (l : List UInt8) (n : Nat) (hn : l.length = n) (cs : Array Value) (hc : cs = (bV l).toArray) : SlB (w.alloc (.cells cs 5)) (some ⟨w.heap.size, 0, none⟩) n l := by
  refine ⟨hn, fun i c hi => ⟨w.heap.size, 0, rfl, ?_⟩⟩
  rw [(Whole.new w 5 cs).cell, hc, Nat.zero_add]
  rw [List.getElem?_toArray]
  unfold bV
  rw [List.getElem?_map, hi]
  rfl
theorem repeatL_byte (x : UInt8) : ∀ z : Nat, Lib.repeatL [x] z = List.replicate z x
  | 0 => rfl
  | z + 1 => by rw [Lib.repeatL, repeatL_byte x z]; rfl
set_option maxRecDepth 100000 in
set_option maxHeartbeats 1000000 in
theorem made_name (n : Nat) (_hn : n ≤ 255) (w : World) :
    Calls Tryz.prog 38 #[.int .u8 (n : Int)] w fun e w' => e = .returned (.string (nmBA n)) ∧ Below w.heap.size w w' := by
  obtain ⟨r, hr⟩ : ∃ r : Nat, (n : Int) % 26 = (r : Int) := ⟨n % 26, by omega⟩
  obtain ⟨z, hz⟩ : ∃ z : Nat, (n : Int) % 16 = (z : Int) := ⟨n % 16, by omega⟩
  have hr2 : r < 26 := by omega
  have hz2 : z < 16 := by omega
  have hw1 : IntKind.u8.wrap (97 + (r : Int)) = 97 + (r : Int) := by rw [IntKind.wrap_u8]; omega
  have hw2 : IntKind.i64.wrap (1 + (z : Int)) = 1 + (z : Int) := IntWalk.i64_in _ (by omega)
  have hwn : IntKind.i64.wrap (n : Int) = (n : Int) := IntWalk.i64_in _ (by omega)
  have htm : (n : Int).tmod 16 = (z : Int) := by rw [Int.tmod_eq_emod_of_nonneg (by omega)]; exact hz
  have hc := conv_bytes (slB_lit w [(97 + r).toUInt8] 1 rfl #[.int .u8 (97 + (r : Int))] (by show _ = #[Value.int .u8 (((97 + r).toUInt8).toNat : Int)]; rw [u8_lt (by omega)]; rfl)) 1
  have hy : nmBA n = ⟨(Lib.repeatL (⟨[(97 + r).toUInt8].toArray⟩ : ByteArray).data.toList (1 + z)).toArray⟩ := by
    show (⟨(nameL n).toArray⟩ : ByteArray) = _
    unfold nameL
    rw [show n % 16 = z by omega, show n % 26 = r by omega]
    show _ = (⟨(Lib.repeatL [(97 + r).toUInt8] (1 + z)).toArray⟩ : ByteArray)
    rw [repeatL_byte]
  have RPa := Tryz.strings_Repeat ⟨[(97 + r).toUInt8].toArray⟩ (1 + z)
  rw [← hy] at RPa
  have e1 : ((1 + z : Nat) : Int) = 1 + (z : Int) := by omega
  rw [e1] at RPa
  have RP := Lib.hid (fun (V : World) => RPa V (by omega) (by show 1 * (1 + z) ≤ _; omega))
  clear RPa
  generalize (⟨[(97 + r).toUInt8].toArray⟩ : ByteArray) = s at hc RP
  have B1 := Lib.hid ((Below.refl w.heap.size w).alloc (Nat.le_refl _) (.cells #[.int .u8 (97 + (r : Int))] 5))
  generalize nmBA n = d at RP ⊢
  clear hy hr2 hz2 hz e1 _hn
  go_enter Tryz.func38, Tryz.ntmps38
  have RQ := Lib.hid (RP.out (w.alloc (.cells #[.int .u8 (97 + (r : Int))] 5)))
  go_wp2_with (go_at_call 37; go_loud (go_fit RQ.out); rintro e w2 ⟨rfl, hb⟩; have BZ := Lib.hid (B1.out.trans (hb.mono B1.out.size)); clear hb)
  go_ret
  exact ⟨rfl, BZ.out⟩
end Go.Proofs.YtojodekmmkemgaaGreatDoor
