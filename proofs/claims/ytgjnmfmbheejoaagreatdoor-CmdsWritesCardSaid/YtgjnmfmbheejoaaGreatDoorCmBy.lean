/- Bytes with one byte more, or one less; replies in one form. No condition. -/
import Derived.Test.YtgjnmfmbheejoaaGreatDoorCmWrk
import Derived.Lib.Repeat
namespace Go.Proofs.YtgjnmfmbheejoaaGreatDoor
open Go.RowKit Go.Shelf

theorem cut_hi (p : Option Addr) (n l c : Nat) (hn : n ≤ c) (w : World) : (Instr.slice 22 (.slice p l c) none (some (.int .i64 (n : Int))) none).run Tryz.prog w = .ok (.slice p n c) w := by
  have hs : (sizeOf (Tryz.prog.elem 22)).run Tryz.prog w = .ok 1 w := by kernel_rfl
  have hu : Tryz.prog.underlying 22 = some (.slice (Tryz.prog.elem 22)) := by kernel_rfl
  rw [run_slice_h w 22 p l c hu .i64 (n : Int) (by omega) (by omega), hs]
  show Result.ok (sliced p 0 n c 1) w = _
  cases p with
  | none => simp [sliced]
  | some a => simp [sliced, Addr.add]
theorem slB_cut {w : World} {A : Option Addr} {n : Nat} {l : List UInt8} (h : SlB w A n l) (k : Nat) (hk : k ≤ n) : SlB w A k (l.take k) := by
  refine ⟨by rw [List.length_take, h.1]; omega, fun i c hi => ?_⟩
  rw [List.getElem?_take] at hi
  split at hi
  · exact h.2 i c hi
  · cases hi
/-- A byte is appended to bytes of one's own. -/
theorem app_byte (base : Nat) (v : Value) (l : List UInt8) (W : World) (hown : W.ownsRow base 5 1 v l.length (bV l)) (hb : base ≤ W.heap.size) (hn : l.length ≤ 1000000000) (x : Value) (c : UInt8) (hx : x = u8V c) :
    ∃ A n m w', (Builtin.append_ #[22, 22] 22 #[v, .slice (some ⟨W.heap.size, 0, none⟩) 1 1]).run Tryz.prog (W.alloc (.cells #[x] 5)) = .ok (.slice A n m) w' ∧ SlB w' A n (l ++ [c]) ∧ (W.alloc (.cells #[x] 5)).grownBy w' v.ownBlock ∧ n = l.length + 1 := by
  obtain ⟨v', w', h1, h2, h3⟩ := run_app_src (W.alloc (.cells #[x] 5)) (some ⟨W.heap.size, 0, none⟩) 1 1 [c] (slB_lit W [c] 1 rfl #[x] (by rw [hx]; rfl)) (by decide) (hown.alloc _) (by omega) (by simp; omega)
  obtain ⟨A, m, rfl, _⟩ := own_slice2 h2
  refine ⟨A, _, m, w', h1, ?_, h3, rfl⟩
  rw [← bV_app] at h2
  exact SlB.of_own h2
theorem rep_yes {r : Rv} (h : repOk r) (hl : (bytesR r).length ≤ 65536) : repB r = bytesR r ∧ repE r = 0 := by
  unfold repB repE
  rw [if_pos ⟨h, hl⟩, if_pos h, if_pos hl]
  exact ⟨rfl, rfl⟩
theorem ba_size (l : List UInt8) : (⟨l.toArray⟩ : ByteArray).size = l.length := Lib.size_mk l
end Go.Proofs.YtgjnmfmbheejoaaGreatDoor
