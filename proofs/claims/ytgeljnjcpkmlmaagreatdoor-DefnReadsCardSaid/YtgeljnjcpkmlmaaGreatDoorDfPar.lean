/- What the program's Parse of a definition calls: splitting, the iterator, collecting. Conditions: the text is short; the program's own variables lie as its start lays them. -/
import Derived.Test.YtgeljnjcpkmlmaaGreatDoorDfCol
namespace Go.Proofs.YtgeljnjcpkmlmaaGreatDoor
open Go.RowKit Go.Shelf

theorem splitK_le : ∀ (k : Nat) (l w : List UInt8), w ∈ Lib.splitK [32] 0 k l → w.length ≤ l.length
  | 0, l, w, h => by simp [Lib.splitK] at h; rw [h]; exact Nat.le_refl _
  | k + 1, l, w, h => by
    unfold Lib.splitK at h
    split at h
    · simp at h; rw [h]; exact Nat.le_refl _
    · rcases List.mem_cons.1 h with rfl | h
      · rw [List.length_take]; omega
      · have := splitK_le k _ w h
        rw [List.length_drop] at this; omega
theorem splitK_pos : ∀ (k : Nat) (l : List UInt8), 1 ≤ (Lib.splitK [32] 0 k l).length
  | 0, l => by simp [Lib.splitK]
  | k + 1, l => by
    unfold Lib.splitK
    split
    · simp
    · simp
theorem splitN_any (s : ByteArray) (w : World) (hs : s.size ≤ 1000000) (hE : DfE w) :
    Calls Tryz.prog 56 #[.string s, .string ⟨#[32]⟩, .int .i64 12] w fun e w' =>
      (∃ ws G m c, e = .returned (.slice (some ⟨G, 0, none⟩) m c) ∧ ws.length = m ∧ m ≤ c ∧ m ≤ 12 ∧ wL ws = Lib.splitK [32] 0 (min 12 (s.data.toList.length + 1) - 1) s.data.toList ∧ SlW w' (some ⟨G, 0, none⟩) ws ∧ ∀ x ∈ ws, x.size ≤ 1000000) ∧ Below w.heap.size w w' := by
  refine (Tryz.strings_SplitN_shaped s ⟨#[32]⟩ 12 w hE.sh (by omega) (by decide) (by decide) (by decide)).mono ?_
  rintro e w' ⟨rfl, rfl⟩
  have hd := Lib.splitB_data ⟨#[32]⟩ 0 (min 12 (s.size + 1) - 1) s
  have hll := Lib.splitB_length_le ⟨#[32]⟩ 0 (min 12 (s.size + 1) - 1) s
  generalize Lib.splitB ⟨#[32]⟩ 0 (min 12 (s.size + 1) - 1) s = ws at hd hll
  have hle : ws.length ≤ min 12 (s.size + 1) := by omega
  refine ⟨⟨ws, _, _, _, rfl, rfl, hle, by omega, ?_, ?_, ?_⟩, (Below.refl _ w).alloc (Nat.le_refl _) _⟩
  · rw [← Lib.size_eq]; exact hd
  · intro i x hi
    refine ⟨w.heap.size, 0, rfl, ?_⟩
    have := (Whole.new w 9 (Lib.cellsOf ws (min 12 (s.size + 1)))).cell i
    rw [Nat.zero_add, this]
    unfold Lib.cellsOf
    rw [List.getElem?_toArray, List.getElem?_append_left (by rw [List.length_map]; exact (List.getElem?_eq_some_iff.1 hi).1), List.getElem?_map, hi]
    rfl
  · intro x hx
    have : x.data.toList ∈ Lib.splitK [32] 0 (min 12 (s.size + 1) - 1) s.data.toList := by
      have h2 : x.data.toList ∈ ws.map (·.data.toList) := List.mem_map_of_mem hx
      rw [hd] at h2; exact h2
    have := splitK_le _ _ _ this
    rw [Lib.size_eq]
    rw [← Lib.size_eq s] at this
    omega
theorem steps_any (A : Option Addr) (m c : Nat) (w : World) :
    Calls Tryz.prog 59 #[.slice A m c] w fun e w' => (∃ Bx, e = .returned (itF Bx) ∧ Boxed w' Bx 27 (.slice A m c)) ∧ Below w.heap.size w w' := by
  have b1 := (Below.refl w.heap.size w).alloc (Nat.le_refl _) (.cells #[.slice A m c] 27)
  have X := Boxed.new w 27 (.slice A m c)
  go_enter Tryz.func59, Tryz.ntmps59
  go_wp2
  go_ret
  exact ⟨⟨w.heap.size, rfl, X⟩, b1⟩
theorem collect_any (A : Option Addr) (m c Bx : Nat) (ws : List ByteArray) (w : World) (hE : DfE w) (hb : Boxed w Bx 27 (.slice A m c)) (hs : SlW w A ws) (hm : ws.length = m) (hmb : m ≤ 1000000) (hz : ∀ x ∈ ws, x.size ≤ 1000000) :
    Calls Tryz.prog 58 #[itF Bx] w fun e w' => (∃ v xs, e = .returned v ∧ xs.length = m ∧ StepsK ws xs ∧ w'.ownsRow w.heap.size 37 2 v m (xs.flatMap stC)) ∧ Below w.heap.size w w' := by
  have AP := Lib.hid (appSeq_any A m c Bx ws w hE hb hs hm hmb hz)
  clear hE hb hs hm hmb hz
  unfold itF at AP ⊢
  go_enter Tryz.func58, Tryz.ntmps58
  go_wp2_with (go_at_call 95; refine AP.out.mono ?_; rintro e w1 ⟨⟨v, xs, rfl, h1, h2, h3⟩, hb1⟩)
  go_ret
  exact ⟨⟨v, xs, rfl, h1, h2, h3⟩, hb1⟩
theorem cells_stC : ∀ (s : List Sp) (i : Nat) p, s[i]? = some p → (s.flatMap stC)[i * 2]? = some (.string p.k) ∧ (s.flatMap stC)[i * 2 + 1]? = some (.int .i64 p.v)
  | [], _, _, h => by simp at h
  | q :: s, 0, p, h => by
    simp at h; subst h
    exact ⟨rfl, rfl⟩
  | q :: s, i + 1, p, h => by
    have h' : s[i]? = some p := by simpa using h
    obtain ⟨a, b⟩ := cells_stC s i p h'
    have e : (i + 1) * 2 = i * 2 + 1 + 1 := by omega
    rw [e, List.flatMap_cons]
    exact ⟨a, b⟩
/-- A row of steps that lies is a slice of them. -/
theorem slD_own {w : World} {base n c : Nat} {A : Option Addr} {s : List Sp} (h : w.ownsRow base 37 2 (.slice A n c) n (s.flatMap stC)) (hn : s.length = n) : SlD w A s := by
  intro i p hi
  rcases h.2 with ⟨_, h2⟩ | ⟨g, cap, cur, h1, _, _⟩
  · rw [← hn] at h2
    have := (List.getElem?_eq_some_iff.1 hi).1; omega
  · cases h1
    have hlt : i < n := by rw [← hn]; exact (List.getElem?_eq_some_iff.1 hi).1
    obtain ⟨a, b⟩ := cells_stC s i p hi
    refine ⟨g, 0, rfl, ?_, ?_⟩
    · rw [Nat.zero_add, h.cellAt _ (by omega)]; exact a
    · rw [Nat.zero_add, h.cellAt _ (by omega)]; exact b
theorem own_slice2 {w : World} {base n : Nat} {t : TypeId} {size : Nat} {v : Value} {xs : List Value} (h : w.ownsRow base t size v n xs) : ∃ A c, v = .slice A n c ∧ n ≤ c := by
  rcases h.2 with ⟨rfl, rfl⟩ | ⟨g, cap, cur, rfl, _, _, hc, _⟩
  · exact ⟨none, 0, rfl, Nat.le_refl _⟩
  · exact ⟨_, cap, rfl, hc⟩
end Go.Proofs.YtgeljnjcpkmlmaaGreatDoor
