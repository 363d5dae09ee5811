/- Lists of numbers in memory; slices of them; how long the texts of operations are at most. No condition. -/
import Derived.Test.YtojodekmmkemgaaGreatDoorScUse
import Derived.Great.Walk
namespace Go.Proofs.YtojodekmmkemgaaGreatDoor
open Go.RowKit Go.Shelf

/-- A slice of numbers. -/
def SlN (W : World) (A : Option Addr) (l : List No) : Prop := ∀ (i : Nat) x, l[i]? = some x → NoZ x ∧ ∃ g o, A = some ⟨g, o, none⟩ ∧ W.rangeAt g (o + i * 7) (nLo x)
theorem SlN.keep {w w' : World} {A : Option Addr} {l : List No} (h : SlN w A l) (hb : Below w.heap.size w w') : SlN w' A l := fun i x hi => by
  obtain ⟨hz, g, o, rfl, hr⟩ := h i x hi
  exact ⟨hz, g, o, rfl, range_keep hr hb⟩
theorem nLo_one (x : No) : (nLo x).toArray.all (·.oneCell') = true := by rw [nLo_arr]; simp [nAo, Value.oneCell']
theorem nLo_inf (x : No) : (Tryz.prog.info? 27).map (·.size) = some (nLo x).toArray.size := by rw [nLo_arr]; exact info7 x
theorem cut_toN (p : Option Addr) (q M c : Nat) (h1 : q ≤ c) (w : World) : (Instr.slice 22 (.slice p M c) none (some (.int .i64 (q : Int))) none).run Tryz.prog w = .ok (.slice p q c) w := by
  have hs : (sizeOf (Tryz.prog.elem 22)).run Tryz.prog w = .ok 7 w := by kernel_rfl
  have hu : Tryz.prog.underlying 22 = some (.slice (Tryz.prog.elem 22)) := by kernel_rfl
  rw [run_slice_h w 22 p M c hu .i64 (q : Int) (by omega) (by omega), hs]
  show Result.ok (sliced _ 0 q c 7) w = _
  cases p with
  | none => simp [sliced]
  | some a => simp [sliced, Addr.add]
theorem dgs_len7 {a : Int} (h0 : 0 ≤ a) (h1 : a ≤ 1000000) : (dgs a).length ≤ 7 := by
  rcases dgs_numT h0 h1 with h | ⟨_, _, h, _⟩
  · rw [h]; decide
  · exact h
theorem textO_len9 {o : Ov} (h : opOk o) : (textO o).length ≤ 940 := by
  have h1 := wordO_len o.k
  have h2 := dgs_len7 (a := o.n) (opOk_n h).1 (by have := (opOk_n h).2; omega)
  obtain ⟨h3, h4⟩ := moreO_len h
  unfold textO
  rw [joinW_len2]
  generalize moreO o = ws at h3 h4
  match ws, h3 with
  | [], _ => show _ + 1 + (dgs o.n).length ≤ _; omega
  | [a], _ =>
    have ha := h4 a (by simp)
    rw [joinW_len2]
    show _ + 1 + (_ + 1 + a.length) ≤ _
    omega
  | [a, b], _ =>
    have ha := h4 a (by simp)
    have hb := h4 b (by simp)
    rw [joinW_len2, joinW_len2]
    show _ + 1 + (_ + 1 + (_ + 1 + b.length)) ≤ _
    omega
  | a :: b :: c :: ws, h => simp at h
theorem catL_len9 {l : List Ov} (h : ∀ o ∈ l, opOk o) : (catL l).length ≤ 941 * l.length := by
  induction l with
  | nil => exact Nat.le_refl _
  | cons o l ih =>
    rw [catL_cons, List.length_append, List.length_cons, List.length_cons]
    have h1 := textO_len9 (h o (by simp))
    have h2 := ih (fun x hx => h x (by simp [hx]))
    omega
/-- The operations that the first numbers make. -/
def opsN (l : List No) (j : Nat) : List Ov := (l.take j).map madeO
theorem opsN_next {l : List No} {j : Nat} {x : No} (h : l[j]? = some x) : opsN l (j + 1) = opsN l j ++ [madeO x] := by
  unfold opsN
  rw [List.take_add_one, h, List.map_append]
  rfl
theorem opsN_len {l : List No} {j : Nat} (h : j ≤ l.length) : (opsN l j).length = j := by
  unfold opsN
  rw [List.length_map, List.length_take]
  omega
theorem opsN_ok {l : List No} (h : ∀ x ∈ l, NoZ x) (j : Nat) : ∀ o ∈ opsN l j, opOk o := fun o ho => by
  obtain ⟨x, hx, rfl⟩ := List.mem_map.1 ho
  exact madeO_ok x (h x (List.mem_of_mem_take hx)).n
theorem slN_z {W : World} {A : Option Addr} {l : List No} (h : SlN W A l) : ∀ x ∈ l, NoZ x := fun x hx => by
  obtain ⟨i, hi⟩ := List.getElem?_of_mem hx
  exact (h i x hi).1
theorem cat_snoc (l : List Ov) (o : Ov) : catL (l ++ [o]) = catL l ++ textO o ++ [10] := by
  rw [catL_app, catL_cons, show catL [] = [] from rfl, List.append_assoc]
end Go.Proofs.YtojodekmmkemgaaGreatDoor
