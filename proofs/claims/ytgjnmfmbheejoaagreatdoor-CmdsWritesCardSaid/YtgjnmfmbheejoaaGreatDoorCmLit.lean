/- Whether the statement looks at a command. Condition: sizes as a machine's integers can say. -/
import Derived.Test.YtgjnmfmbheejoaaGreatDoorCmRow
import Derived.Test.YtgjnmfmbheejoaaGreatDoorCmChk
namespace Go.Proofs.YtgjnmfmbheejoaaGreatDoor
open Go.RowKit Go.Shelf

/-- A command of whatever size. -/
structure CmdWk (W : World) (c : Cv) (A : Option Addr) (n m : Nat) : Prop where
  len : c.d.s.length = n
  le : n ≤ m
  bg : n ≤ 9223372036854775807
  z : CmdZ c
  dz : DefZ c.d
  s : SlD W A c.d.s
theorem CmdWk.keep {w w' : World} {c : Cv} {A : Option Addr} {n m : Nat} (h : CmdWk w c A n m) (hb : Below w.heap.size w w') : CmdWk w' c A n m := ⟨h.len, h.le, h.bg, h.z, h.dz, h.s.keep hb⟩
theorem CmdWk.to {w : World} {c : Cv} {A : Option Addr} {n m : Nat} (h : CmdWk w c A n m) (hn : n ≤ 20) : CmdIn w c A n m := ⟨⟨h.len, h.le, by omega, h.dz, h.s⟩, h.z⟩
/-- What light answers. -/
def LitR (n : Nat) (e : Ending) : Prop := ∃ q, e = .returned (.bool q) ∧ (q = true → n ≤ 20)
set_option maxRecDepth 100000 in
set_option maxHeartbeats 4000000 in
theorem light_any (c : Cv) (A : Option Addr) (n m : Nat) (w : World) (h : CmdWk w c A n m) :
    Calls Tryz.prog 24 #[.agg (cA c A n m)] w fun e w' => LitR n e ∧ Below w.heap.size w w' := by
  have B1 := Lib.hid ((Below.refl w.heap.size w).alloc (Nat.le_refl _) (.cells (cA c A n m) 36))
  have C1 := Lib.hid (Whole.new w 36 (cA c A n m))
  have HS := Lib.hid (show SlD (w.alloc (.cells (cA c A n m) 36)) A c.d.s from (h.keep ((Below.refl _ _).alloc (Nat.le_refl _) _)).s)
  obtain ⟨k, hk⟩ : ∃ k : Nat, k = min n 21 := ⟨_, rfl⟩
  have hkn : k ≤ n := by omega
  have hk21 : k ≤ 21 := by omega
  have hmin : min (n : Int) 21 = (k : Int) := by omega
  have HK := Lib.hid hk
  have hle := h.le
  have hcut := fun W => cut_steps A n m k (by omega) W
  have HL := Lib.hid h.len
  have hkm : k ≤ m := by omega
  have h1 := h.z.key
  have h2 := h.z.f
  have h3 := h.z.t
  have h4 := h.dz.n
  have h5 := h.z.data
  have HZ := Lib.hid h.dz.s
  have hbg := h.bg
  clear h hk
  go_enter Tryz.func24, Tryz.ntmps24
  go_upto_region 1 with fail
  generalize w.alloc (.cells (cA c A n m) 36) = w1 at B1 C1 HS ⊢
  have y6 : w1.cell? ⟨w.heap.size, 6, none⟩ = some (.string c.key) := C1.out.cell 6
  have y9 : w1.cell? ⟨w.heap.size, 9, none⟩ = some (.string c.f) := C1.out.cell 9
  have y10 : w1.cell? ⟨w.heap.size, 10, none⟩ = some (.string c.t) := C1.out.cell 10
  have y12 : w1.cell? ⟨w.heap.size, 12, none⟩ = some (.string c.d.n) := C1.out.cell 12
  have y15 : w1.cell? ⟨w.heap.size, 15, none⟩ = some (.slice A n m) := C1.out.cell 15
  have y23 : w1.cell? ⟨w.heap.size, 23, none⟩ = some (.string c.data) := C1.out.cell 23
  go_upto_region 2 with fail
  clear y6 y9 y10 y12 y23
  go_wp2_with fail
  clear y15
  go_loopw [3, 38] (fun s3 i wr => ∃ (j : Nat) (z : Int), j ≤ k ∧ i = .int .i64 j ∧ s3 = .int .i64 z ∧ Hid (Below w1.heap.size w1 wr)) (fun _ i _ => k - (intOf i).toNat)
  case atStart => exact ⟨0, _, by omega, rfl, rfl, Lib.hid (Below.refl _ _)⟩
  case round =>
    obtain ⟨j, z, hj, rfl, rfl, HB⟩ := hrel
    by_cases hjk : j < k
    · obtain ⟨p, hp⟩ : ∃ p, c.d.s[j]? = some p := ⟨_, List.getElem?_eq_getElem (by rw [HL.out]; omega)⟩
      obtain ⟨g, o, rfl, x0, x1⟩ := (HS.out.keep HB.out) j p hp
      have BA := Lib.hid (HB.out.trans (((Below.refl _ wr).alloc (Nat.le_refl _) (.cells #[.string p.k, .int .i64 p.v] 53)).mono HB.out.size))
      have NA := Whole.new wr 53 #[.string p.k, .int .i64 p.v]
      have p0 := NA.cell 0
      simp only [List.getElem?_toArray, List.getElem?_cons_zero] at p0
      have hz := (HZ.out j p hp).1
      have hj0 : (0 : Int) ≤ (j : Int) := by omega
      have hjk' : (j : Int) < (k : Int) := by omega
      have hwj : IntKind.i64.wrap ((j : Int) + 1) = (j : Int) + 1 := IntWalk.i64_in _ (by omega)
      clear hp NA
      go_wp2_with fail
      go_roundw
      case rel => exact ⟨j + 1, _, by omega, by go_num, rfl, BA⟩
      case measure => simp [intOf]; omega
    · obtain rfl : j = k := by omega
      have hjn : ¬ ((j : Int) < (j : Int)) := by omega
      have y15 : wr.cell? ⟨w.heap.size, 15, none⟩ = some (.slice A n m) := (C1.out.keep HB.out).cell 15
      have BF := Lib.hid (B1.out.trans (HB.out.mono B1.out.size))
      by_cases hn : n ≤ 20
      · have hn' : (n : Int) ≤ 20 := by omega
        have HN := Lib.hid hn
        clear hn hmin hk21 hkn hle hkm hbg
        by_cases hz : z ≤ 100000
        all_goals
          go_wp2_with fail
          go_ret
          unfold LitR
          exact ⟨⟨_, rfl, fun _ => HN.out⟩, BF.out⟩
      · have hn' : ¬ ((n : Int) ≤ 20) := by omega
        clear hn hmin hk21 hkn hle hkm hbg
        go_wp2_with fail
        go_ret
        unfold LitR
        exact ⟨⟨_, rfl, fun e => by cases e⟩, BF.out⟩
end Go.Proofs.YtgjnmfmbheejoaaGreatDoor
