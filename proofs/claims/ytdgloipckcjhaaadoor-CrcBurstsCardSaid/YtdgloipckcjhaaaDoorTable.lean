/- What crc.Table and the reference's Table return. Condition: the listed table, where it is read. -/
import Derived.Test.YtdgloipckcjhaaaDoorRefCrc
import Derived.Laws.Tables
import Derived.Laws.CopyOwn
namespace Go.Proofs.YtdgloipckcjhaaaDoor
open Go.RowKit

/-- The table of a byte's steps, as values. -/
def tabA : Array Value := Array.ofFn (n := 256) fun i => .int .u32 ((Crc.stepn 8 i.val : Nat) : Int)
theorem tabA_size : tabA.size = 256 := by unfold tabA; simp
theorem tabA_at {i : Nat} (h : i < 256) : tabA[i]? = some (.int .u32 ((Crc.stepn 8 i : Nat) : Int)) := by unfold tabA; simp [h]
theorem tabA_of {cs : Array Value} (h : cs.size = 256) (hc : ∀ j, j < 256 → cs[j]? = some (.int .u32 ((Crc.stepn 8 j : Nat) : Int))) : cs = tabA := by
  apply Array.ext_getElem?
  intro j
  by_cases hj : j < 256
  · rw [hc j hj, tabA_at hj]
  · rw [Array.getElem?_eq_none (by omega), Array.getElem?_eq_none (by rw [tabA_size]; omega)]
theorem cs_some256 {cs : Array Value} {k : Nat} (h : cs.size = 256) (hk : k < 256) : ∃ v, cs[k]? = some v := ⟨cs[k], by simp⟩
theorem cs_set256 {cs : Array Value} {k j : Nat} {v : Value} (h : cs.size = 256) (hk : k < 256) : (cs.setIfInBounds k v)[j]? = if j = k then some v else cs[j]? := by
  rw [Array.getElem?_setIfInBounds]
  by_cases e : k = j
  · subst e; simp [h, hk]
  · rw [if_neg e, if_neg (fun h => e h.symm)]
theorem u8_in {k : Nat} (h : k < 256) : IntKind.u8.wrap (k : Int) = k := by
  rw [IntKind.wrap_u8']; omega
theorem u32_in {k : Nat} (h : k < 256) : IntKind.u32.wrap (k : Int) = k := by
  rw [IntKind.wrap_u32']; omega
theorem xor_zero_l (k : Nat) : 0 ^^^ k = k := Nat.zero_xor k

theorem refTake_zero (c : Nat) (w : World) (hc : c < 256) : Calls Tryd.prog 38 #[.int .u32 0, .int .u8 (c : Int)] w fun e w' => e = .returned (.int .u32 (Crc.stepn 8 c : Nat)) ∧ w = w' := by
  have h := refTake_any 0 c w (by decide) hc
  rw [Nat.zero_xor] at h
  exact h
theorem zero256 : Tryd.zeroCells30.size = 256 := by kernel_rfl
theorem info256 {n : Nat} (h : n = 256) : (Tryd.prog.info? 30).map (·.size) = some n := by subst h; kernel_rfl
theorem tabA_one : ∀ v ∈ tabA.toList, v.oneCell' = true := by
  intro v hv
  obtain ⟨i, hi⟩ := List.getElem?_of_mem hv
  rw [Array.getElem?_toList] at hi
  by_cases hl : i < 256
  · rw [tabA_at hl] at hi
    cases hi
    rfl
  · rw [Array.getElem?_eq_none (by rw [tabA_size]; omega)] at hi
    cases hi

theorem Crcs.below {w w' : World} (h : Crcs w) (hb : Below w.heap.size w w') : Crcs w' :=
  ⟨fun i hi => (hb.cell (p := ⟨0, i, none⟩) h.lt).trans (h.four i hi), Nat.lt_of_lt_of_le h.lt hb.size⟩
theorem tabA_all : tabA.all (·.oneCell') = true := by
  rw [Array.all_eq_true']
  intro v hv
  exact tabA_one v (by simpa using hv)

set_option maxRecDepth 100000 in
set_option maxHeartbeats 2000000 in
theorem table_any (w : World) (h : Crcs w) :
    Calls Tryd.prog 20 #[] w fun e w' => e = .returned (.agg tabA) ∧ Below w.heap.size w w' := by
  have HX := Lib.hid h; clear h
  have HA := Lib.hid (fun cs cs' => ((Blk.new w 30 cs).alloc (.cells cs' 30)))
  have HA' : Hid (∀ cs cs', Blk ((w.alloc (.cells cs 30)).alloc (.cells cs' 30)) (w.heap.size + 1) 30 cs') := Lib.hid (fun cs cs' => by
    have := Blk.new (w.alloc (.cells cs 30)) 30 cs'
    simpa using this)
  have HB := Lib.hid (fun o o' => ((Below.refl w.heap.size w).alloc (Nat.le_refl _) o).alloc (by simp) o')
  go_enter Tryd.func20, Tryd.ntmps20
  go_wp2
  go_loopw [3] (fun i wr => ∃ k : Nat, k ≤ 256 ∧ i = .int .i64 k ∧ Below w.heap.size w wr ∧ ∃ c0 cs, Blk wr w.heap.size 30 c0 ∧ c0.size = 256 ∧ Blk wr (w.heap.size + 1) 30 cs ∧ cs.size = 256 ∧ ∀ j, j < k → cs[j]? = some (.int .u32 (Crc.stepn 8 j : Nat))) (fun i _ => 256 - (intOf i).toNat)
  case atStart => exact ⟨0, Nat.zero_le _, rfl, HB.out _ _, _, _, HA.out _ _, zero256, HA'.out _ _, zero256, fun j hj => by omega⟩
  case round =>
    obtain ⟨k, hk, rfl, hbel, c0, cs, hblk0, hs0, hblk, hsz, hcs⟩ := hrel
    have HK := Lib.hid hblk
    have HK0 := Lib.hid hblk0
    have HL := Lib.hid hbel
    have HC := Lib.hid hcs
    have HZ := Lib.hid hsz
    have HZ0 := Lib.hid hs0
    clear hcs hblk hblk0 hbel hsz hs0
    by_cases hlt : k < 256
    · obtain ⟨v0, hv0⟩ := cs_some256 HZ.out hlt
      have hcell := (HK.out.cell k).trans hv0
      have hfr := HK.out.frozen k
      have hw := u32_in hlt
      clear hv0
      go_wp2_with (go_at_call 37; refine (eight_any _ _ (by omega) (HX.out.below HL.out)).mono ?_; rintro e w' ⟨rfl, rfl⟩)
      go_roundw
      case rel =>
        refine ⟨k + 1, by omega, by go_num, HL.out.setCell (by simp) _, c0, _, HK0.out.far (by simp) _, HZ0.out, HK.out.set k _, by simp [HZ.out], fun j hj => ?_⟩
        rw [cs_set256 HZ.out hlt]
        by_cases e : j = k
        · rw [if_pos e, e]
        · rw [if_neg e]; exact HC.out j (by omega)
      case measure => simp [intOf]; omega
    · obtain rfl : k = 256 := by omega
      obtain rfl := tabA_of HZ.out HC.out
      rw [show ((256 : Nat) : Int) = 256 from rfl]
      have hg1 : wr.heap[w.heap.size + 1]? = some (.cells tabA 30 (0, 0)) := HK.out
      have hg0 : wr.heap[w.heap.size]? = some (.cells c0 30 (0, 0)) := HK0.out
      have H1 := Lib.hid hg1
      have H0 := Lib.hid hg0
      clear hg1 hg0
      go_wp2_with (first
        | (refine wpList_load_row rfl 30 (.tmp 1) rfl (w.heap.size + 1) rfl 30 tabA (0, 0) _ H1.out Tryd.underlying30 rfl (info256 tabA_size) ?_)
        | (refine wpList_store_row rfl 30 (.tmp 0) (.tmp 12) rfl w.heap.size tabA rfl rfl 30 c0 H0.out (info256 tabA_size) (by rw [HZ0.out, tabA_size]) tabA_all ?_))
      refine bodyPost_ret (results_cell_row rfl _ _ _ 30 tabA (0, 0) _ rfl (setRow_heap _ _ _ _ _ _ H0.out) Tryd.underlying30 rfl (info256 tabA_size)) rfl ⟨rfl, below_setRow HL.out (Nat.le_refl _) _⟩
set_option maxRecDepth 100000 in
set_option maxHeartbeats 2000000 in
theorem refTable_any (w : World)   :
    Calls Tryd.prog 21 #[] w fun e w' => e = .returned (.agg tabA) ∧ Below w.heap.size w w' := by
  skip
  have HA := Lib.hid (fun cs cs' => ((Blk.new w 30 cs).alloc (.cells cs' 30)))
  have HA' : Hid (∀ cs cs', Blk ((w.alloc (.cells cs 30)).alloc (.cells cs' 30)) (w.heap.size + 1) 30 cs') := Lib.hid (fun cs cs' => by
    have := Blk.new (w.alloc (.cells cs 30)) 30 cs'
    simpa using this)
  have HB := Lib.hid (fun o o' => ((Below.refl w.heap.size w).alloc (Nat.le_refl _) o).alloc (by simp) o')
  go_enter Tryd.func21, Tryd.ntmps21
  go_wp2
  go_loopw [2] (fun i wr => ∃ k : Nat, k ≤ 256 ∧ i = .int .i64 k ∧ Below w.heap.size w wr ∧ ∃ c0 cs, Blk wr w.heap.size 30 c0 ∧ c0.size = 256 ∧ Blk wr (w.heap.size + 1) 30 cs ∧ cs.size = 256 ∧ ∀ j, j < k → cs[j]? = some (.int .u32 (Crc.stepn 8 j : Nat))) (fun i _ => 256 - (intOf i).toNat)
  case atStart => exact ⟨0, Nat.zero_le _, rfl, HB.out _ _, _, _, HA.out _ _, zero256, HA'.out _ _, zero256, fun j hj => by omega⟩
  case round =>
    obtain ⟨k, hk, rfl, hbel, c0, cs, hblk0, hs0, hblk, hsz, hcs⟩ := hrel
    have HK := Lib.hid hblk
    have HK0 := Lib.hid hblk0
    have HL := Lib.hid hbel
    have HC := Lib.hid hcs
    have HZ := Lib.hid hsz
    have HZ0 := Lib.hid hs0
    clear hcs hblk hblk0 hbel hsz hs0
    by_cases hlt : k < 256
    · obtain ⟨v0, hv0⟩ := cs_some256 HZ.out hlt
      have hcell := (HK.out.cell k).trans hv0
      have hfr := HK.out.frozen k
      have hw := u8_in hlt
      clear hv0
      go_wp2_with (go_at_call 38; refine (refTake_zero _ _ hlt).mono ?_; rintro e w' ⟨rfl, rfl⟩)
      go_roundw
      case rel =>
        refine ⟨k + 1, by omega, by go_num, HL.out.setCell (by simp) _, c0, _, HK0.out.far (by simp) _, HZ0.out, HK.out.set k _, by simp [HZ.out], fun j hj => ?_⟩
        rw [cs_set256 HZ.out hlt]
        by_cases e : j = k
        · rw [if_pos e, e]
        · rw [if_neg e]; exact HC.out j (by omega)
      case measure => simp [intOf]; omega
    · obtain rfl : k = 256 := by omega
      obtain rfl := tabA_of HZ.out HC.out
      rw [show ((256 : Nat) : Int) = 256 from rfl]
      have hg1 : wr.heap[w.heap.size + 1]? = some (.cells tabA 30 (0, 0)) := HK.out
      have hg0 : wr.heap[w.heap.size]? = some (.cells c0 30 (0, 0)) := HK0.out
      have H1 := Lib.hid hg1
      have H0 := Lib.hid hg0
      clear hg1 hg0
      go_wp2_with (first
        | (refine wpList_load_row rfl 30 (.tmp 1) rfl (w.heap.size + 1) rfl 30 tabA (0, 0) _ H1.out Tryd.underlying30 rfl (info256 tabA_size) ?_)
        | (refine wpList_store_row rfl 30 (.tmp 0) (.tmp 12) rfl w.heap.size tabA rfl rfl 30 c0 H0.out (info256 tabA_size) (by rw [HZ0.out, tabA_size]) tabA_all ?_))
      refine bodyPost_ret (results_cell_row rfl _ _ _ 30 tabA (0, 0) _ rfl (setRow_heap _ _ _ _ _ _ H0.out) Tryd.underlying30 rfl (info256 tabA_size)) rfl ⟨rfl, below_setRow HL.out (Nat.le_refl _) _⟩
end Go.Proofs.YtdgloipckcjhaaaDoor
