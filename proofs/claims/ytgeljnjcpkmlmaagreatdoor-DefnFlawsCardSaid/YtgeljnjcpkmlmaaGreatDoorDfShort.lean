/- Whether a definition is looked at. Condition: the texts are no longer than an int can say. -/
import Derived.Test.YtgeljnjcpkmlmaaGreatDoorDfMem
import Derived.WalkSmall
namespace Go.Proofs.YtgeljnjcpkmlmaaGreatDoor
open Go.RowKit Go.Shelf

def ShortD (d : Dv) : Prop := d.s.length ≤ 20 ∧ d.n.size ≤ 40 ∧ ∀ (i : Nat) p, d.s[i]? = some p → p.k.size ≤ 40
def ShortK (d : Dv) (k : Nat) : Prop := ∀ (i : Nat) p, i < k → d.s[i]? = some p → p.k.size ≤ 40
/-- What Short answers. -/
def ShR (d : Dv) (e : Ending) : Prop := ∃ b : Bool, e = .returned (.bool b) ∧ (b = true → ShortD d)
set_option maxRecDepth 100000 in
set_option maxHeartbeats 2000000 in
theorem short_any (d : Dv) (A : Option Addr) (n c : Nat) (w : World) (hl : d.s.length = n) (hn : n ≤ 9223372036854775807) (hz : DefZ d) (hs : SlD w A d.s) :
    Calls Tryz.prog 11 #[dV d A n c] w fun e w' => ShR d e ∧ Below w.heap.size w w' := by
  have HB := Lib.hid ((Below.refl w.heap.size w).alloc (Nat.le_refl _) (.cells #[.string d.n, .int .i64 d.r, .int .i64 d.dl, .slice A n c] 24))
  have HW := Lib.hid (Whole.new w 24 #[.string d.n, .int .i64 d.r, .int .i64 d.dl, .slice A n c])
  have HZ := Lib.hid hz
  have HS := Lib.hid hs
  have HL := Lib.hid hl
  have hzn := hz.n
  clear hz hs hl
  unfold dV
  by_cases h1 : 20 < (n : Int)
  · go_enter Tryz.func11, Tryz.ntmps11
    go_wp2_with fail
    go_ret
    exact ⟨⟨false, rfl, by simp⟩, HB.out⟩
  by_cases h2 : 40 < (d.n.size : Int)
  · go_enter Tryz.func11, Tryz.ntmps11
    go_wp2_with fail
    go_ret
    exact ⟨⟨false, rfl, by simp⟩, HB.out⟩
  have HN : Hid (n ≤ 20 ∧ d.n.size ≤ 40) := Lib.hid ⟨by omega, by omega⟩
  go_enter Tryz.func11, Tryz.ntmps11
  go_upto_region 4 with fail
  clear h1 h2
  generalize hw0 : w.alloc (.cells #[.string d.n, .int .i64 d.r, .int .i64 d.dl, .slice A n c] 24) = w0 at HB HW ⊢
  clear hw0
  go_wp2_with fail
  go_loopw [3] (fun i wr => ∃ k : Nat, k ≤ n ∧ i = .int .i64 k ∧ Hid (Below w0.heap.size w0 wr ∧ ShortK d k)) (fun i _ => n - (intOf i).toNat)
  case atStart => exact ⟨0, by omega, rfl, Lib.hid ⟨Below.refl _ _, fun i p h => absurd h (by omega)⟩⟩
  case round =>
    obtain ⟨k, hk, rfl, HI⟩ := hrel
    have BW := Lib.hid (HB.out.trans (HI.out.1.mono HB.out.size))
    have x3 := (HW.out.keep HI.out.1).cell 3
    simp only [List.getElem?_toArray, List.getElem?_cons_succ, List.getElem?_cons_zero] at x3
    by_cases hkn : k < n
    · obtain ⟨p, hp⟩ : ∃ p, d.s[k]? = some p := ⟨_, List.getElem?_eq_getElem (by rw [HL.out]; exact hkn)⟩
      obtain ⟨g, o, rfl, y0, y1⟩ := HS.out.keep BW.out k p hp
      have hzp := (HZ.out.s k p hp).1
      have HP := Lib.hid hp
      have hk0 : (0 : Int) ≤ (k : Int) := by omega
      have hkn' : (k : Int) < (n : Int) := by omega
      have hwk : IntKind.i64.wrap ((k : Int) + 1) = (k : Int) + 1 := IntWalk.i64_in _ (by have := HN.out.1; omega)
      clear hp
      by_cases h3 : 40 < (p.k.size : Int)
      · go_wp2_with fail
        go_ret
        exact ⟨⟨false, rfl, by simp⟩, BW.out⟩
      · have HK : Hid (ShortK d (k + 1)) := Lib.hid (fun i q hi hq => by
          by_cases e : i = k
          · subst e; rw [HP.out] at hq; cases hq; omega
          · exact HI.out.2 i q (by omega) hq)
        go_wp2_with fail
        go_roundw
        case rel => exact ⟨k + 1, by omega, by go_num, Lib.hid ⟨HI.out.1, HK.out⟩⟩
        case measure => simp [intOf]; omega
    · obtain rfl : k = n := by omega
      have HF : Hid (ShortD d) := Lib.hid ⟨by rw [HL.out]; exact HN.out.1, HN.out.2, fun i p hi => HI.out.2 i p (by have := (List.getElem?_eq_some_iff.1 hi).1; rw [HL.out] at this; exact this) hi⟩
      go_wp2_with fail
      go_ret
      exact ⟨⟨true, rfl, fun _ => HF.out⟩, BW.out⟩
end Go.Proofs.YtgeljnjcpkmlmaaGreatDoor
