/- Which kinds use a field: the closure of CmdsFields; what the law holds in memory. No condition. -/
import Derived.Test.YtgjnmfmbheejoaaGreatDoorCmMdS
namespace Go.Proofs.YtgjnmfmbheejoaaGreatDoor
open Go.RowKit Go.Shelf

set_option maxRecDepth 100000 in
set_option maxHeartbeats 2000000 in
theorem uses_any (k : Int) (X P z : Nat) (L : List Int) (w : World) (hz : L.length = z) (hz5 : z ≤ 5) (hX : ∀ i v, L[i]? = some v → w.cell? ⟨X, i, none⟩ = some (.int .i64 v)) (hP : w.cell? ⟨P, 0, none⟩ = some (.int .i64 k)) :
    Calls Tryz.prog 37 #[.slice (some ⟨X, 0, none⟩) z z, .pointer (some ⟨P, 0, none⟩)] w fun e w' => e = .returned (.bool (decide (k ∈ L))) ∧ w = w' := by
  have HX := Lib.hid hX
  have HL := Lib.hid hz
  clear hX hz
  go_enter Tryz.func37, Tryz.ntmps37
  go_wp2_with fail
  go_loopw [8] (fun i wr => ∃ (j : Nat), j ≤ z ∧ i = .int .i64 j ∧ Hid (∀ i v, i < j → L[i]? = some v → k ≠ v) ∧ w = wr) (fun i _ => z - (intOf i).toNat)
  case atStart => exact ⟨0, by omega, rfl, Lib.hid (fun i v hi => by omega), rfl⟩
  case round =>
    obtain ⟨j, hj, rfl, HN, rfl⟩ := hrel
    by_cases hjz : j < z
    · obtain ⟨v, hv⟩ : ∃ v, L[j]? = some v := ⟨_, List.getElem?_eq_getElem (by rw [HL.out]; exact hjz)⟩
      have xj := HX.out j v hv
      have hj0 : (j : Int) < (z : Int) := by omega
      have hj1 : (0 : Int) ≤ (j : Int) := by omega
      have hwj : IntKind.i64.wrap ((j : Int) + 1) = (j : Int) + 1 := IntWalk.i64_in _ (by omega)
      have HV := Lib.hid hv
      clear hv
      by_cases hk : k = v
      · have hm : Hid (decide (k ∈ L) = true) := Lib.hid (decide_eq_true (by rw [hk]; exact List.mem_of_getElem? HV.out))
        have ek : (k == v) = true := by rw [hk]; exact beq_self_eq_true v
        clear hk
        go_wp2_with fail
        go_ret
        exact ⟨by rw [hm.out]; rfl, rfl⟩
      · have ek : (k == v) = false := beq_eq_false_iff_ne.2 hk
        have HK := Lib.hid hk
        clear hk
        go_wp2_with fail
        go_roundw
        case rel =>
          refine ⟨j + 1, by omega, by go_num, Lib.hid (fun i u hi hu => ?_), trivial⟩
          by_cases hij : i = j
          · subst hij
            rw [HV.out] at hu
            cases hu
            exact HK.out
          · exact HN.out i u (by omega) hu
        case measure => simp [intOf]; omega
    · obtain rfl : j = z := by omega
      have hnj : ¬ ((j : Int) < (j : Int)) := by omega
      have hm : Hid (decide (k ∈ L) = false) := Lib.hid (decide_eq_false (fun h => by
        obtain ⟨i, hi⟩ := List.getElem?_of_mem h
        exact HN.out i k (by rw [← HL.out]; exact (List.getElem?_eq_some_iff.1 hi).1) hi rfl))
      go_wp2_with fail
      go_ret
      exact ⟨by rw [hm.out]; rfl, rfl⟩
/-- What CmdsFields holds in memory: the command, and the turned one. -/
structure Fld (w : World) (P Q : Nat) (c : Cv) (A : Option Addr) (n m : Nat) (d : Cv) (A' : Option Addr) (n' m' : Nat) (W : World) : Prop where
  bl : Below w.heap.size w W
  cp : CmdAt W P c A n m
  cq : CmdAt W Q d A' n' m'
  o : P ≠ Q
  h : w.heap.size ≤ Q
theorem Fld.keep {w W W' : World} {P Q : Nat} {c : Cv} {A : Option Addr} {n m : Nat} {d : Cv} {A' : Option Addr} {n' m' : Nat} (h : Fld w P Q c A n m d A' n' m' W) (hb : Below W.heap.size W W') : Fld w P Q c A n m d A' n' m' W' :=
  ⟨h.bl.trans (hb.mono h.bl.size), h.cp.keep hb, h.cq.keep hb, h.o, h.h⟩
/-- A cell of the turned command is set; the steps of both are those of the first, or none. -/
theorem Fld.put {w W : World} {P Q : Nat} {c : Cv} {A : Option Addr} {n m : Nat} {d d' : Cv} {A' : Option Addr} {n' m' : Nat} (h : Fld w P Q c A n m d A' n' m' W) (hA : ∀ a : Addr, A = some a → c.d.s ≠ [] → a.block ≠ Q) (i : Nat) (v : Value)
    (hput : (cA d A' n' m').setIfInBounds i v = cA d' A' n' m') (hd : d'.d.s = d.d.s) (hn : DefZ d'.d) (hz : CmdZ d') : Fld w P Q c A n m d' A' n' m' (W.setCell ⟨Q, i, none⟩ v) := by
  have o := h.o
  have hh := h.h
  have g := grown_set (World.grownBy.refl W (some Q)) i v
  have hw := h.cq.w.put i v
  rw [hput] at hw
  refine ⟨h.bl.grown g h.bl.size (fun k e => by cases e; exact hh), h.cp.grown g (fun e => o (Option.some.inj e)) (fun a ha hs e => hA a ha hs (Option.some.inj e)), ⟨hw, ⟨⟨?_, h.cq.i.d.le, h.cq.i.d.big, hn, ?_⟩, hz⟩, ?_⟩, o, hh⟩
  · rw [hd]; exact h.cq.i.d.len
  · rw [hd]; exact h.cq.i.d.s.grown g (fun a ha hs e => h.cq.o a ha hs (Option.some.inj e))
  · rw [hd]; exact h.cq.o
end Go.Proofs.YtgjnmfmbheejoaaGreatDoor
