/- What CmdsTexts calls: the text of a valid command, its words, the list of the kinds' words; the table of spaces. Conditions: the program's own variables lie as its start lays them. -/
import Derived.Test.YtgjnmfmbheejoaaGreatDoorCmTxt
import Derived.Test.YtgjnmfmbheejoaaGreatDoorCmNam
import Derived.Test.YtgjnmfmbheejoaaGreatDoorShelfT
namespace Go.Proofs.YtgjnmfmbheejoaaGreatDoor
open Go.RowKit Go.Shelf

theorem joinW_count : ∀ (ws : List (List UInt8)), ws ≠ [] → (∀ v ∈ ws, ∀ b ∈ v, b ≠ 32) → (joinW ws).count 32 + 1 = ws.length
  | [], h, _ => absurd rfl h
  | [a], _, h => by
    rw [joinW_one, List.count_eq_zero.2 (fun e => h a (by simp) 32 e rfl)]
    rfl
  | a :: b :: l, _, h => by
    have h1 := joinW_count (b :: l) (by simp) (fun v hv => h v (by simp [hv]))
    rw [joinW_two, List.count_append, List.count_cons_self, List.count_eq_zero.2 (fun e => h a (by simp) 32 e rfl), List.length_cons (a := a)]
    omega
/-- The words lie in memory. -/
def WdAt (W : World) (G : Nat) (ws : List (List UInt8)) : Prop := ∀ i x, ws[i]? = some x → W.cell? ⟨G, i, none⟩ = some (.string ⟨x.toArray⟩)
theorem WdAt.keep {W W' : World} {G : Nat} {ws : List (List UInt8)} (h : WdAt W G ws) (hb : Below W.heap.size W W') : WdAt W' G ws := fun i x hi => bcell (h i x hi) hb
theorem WdAt.new (w : World) (ws : List (List UInt8)) : WdAt (w.alloc (.cells (ws.map fun l => Value.string ⟨l.toArray⟩).toArray 9)) w.heap.size ws := fun i x hi => by
  rw [(Whole.new w 9 (ws.map fun l => Value.string ⟨l.toArray⟩).toArray).cell i, List.getElem?_toArray, List.getElem?_map, hi]
  rfl
theorem textC_len {c : Cv} (h : cmdOk c) : (textC c).length ≤ 1000000 := by
  obtain ⟨l0, hf, hall, _⟩ := h
  have h1 := joinW_leK (K := 460) (partsC c) (fun v hv => by
    unfold partsC at hv
    rw [hf] at hv
    rcases List.mem_cons.1 hv with rfl | hv
    · have := wordK_len c.k; omega
    · obtain ⟨x, hx, rfl⟩ := List.mem_map.1 hv
      exact textF_len (hall x hx))
  have h2 : (partsC c).length ≤ 4 := by
    unfold partsC
    rw [hf]
    have := fieldsK_three hf
    simp only [List.length_cons, List.length_map, Option.getD_some]
    omega
  unfold textC
  have : (460 + 1) * (partsC c).length ≤ 461 * 4 := Nat.mul_le_mul_left _ h2
  omega
theorem txtok_any (c : Cv) (A : Option Addr) (n m : Nat) (w : World) (hE : DfE w) (h : CmdIn w c A n m) (hok : cmdOk c) :
    Calls Tryz.prog 28 #[.agg (cA c A n m)] w fun e w' => e = .returned (.tuple #[.string ⟨(textC c).toArray⟩, .int .i64 0]) ∧ Below w.heap.size w w' := by
  refine (ctext_any c A n m w hE h).mono fun e w' h => ?_
  unfold TxtCR at h
  rw [txtC_yes hok, ckC_yes hok] at h
  exact h
theorem split_any (c : Cv) (w : World) (hE : DfE w) (hok : cmdOk c) :
    Calls Tryz.prog 41 #[.string ⟨(textC c).toArray⟩, .string ⟨#[32]⟩] w fun e w' => e = .returned (.slice (some ⟨w.heap.size, 0, none⟩) (wordsC c).length (wordsC c).length) ∧ (Below w.heap.size w w' ∧ WdAt w' w.heap.size (wordsC c)) := by
  have hl := textC_len hok
  have hz : (⟨(textC c).toArray⟩ : ByteArray).size = (textC c).length := by rw [Lib.size_mk]
  have hcount : Lib.countB ⟨(textC c).toArray⟩ ⟨#[32]⟩ + 1 = (wordsC c).length := by
    show Lib.count (textC c) [32] + 1 = _
    rw [Lib.count_one, textC_words hok]
    exact joinW_count _ (by unfold wordsC; simp) (fun v hv b hb => (wordsC_mem hok hv hb).1)
  refine (Tryz.strings_Split_shaped ⟨(textC c).toArray⟩ ⟨#[32]⟩ w hE.sh (by omega) (by decide)).mono ?_
  rintro e w' ⟨rfl, rfl⟩
  have hd := Lib.splitB_data ⟨#[32]⟩ 0 (Lib.countB ⟨(textC c).toArray⟩ ⟨#[32]⟩) ⟨(textC c).toArray⟩
  generalize Lib.splitB ⟨#[32]⟩ 0 (Lib.countB ⟨(textC c).toArray⟩ ⟨#[32]⟩) ⟨(textC c).toArray⟩ = ws at hd
  have hw : ws.map (·.data.toList) = wordsC c := by
    rw [hd]
    exact split_words hok _ (by omega)
  have hm : ws.map Value.string = (wordsC c).map fun l => Value.string ⟨l.toArray⟩ := by
    rw [← hw, List.map_map]
    rfl
  rw [hcount, hm]
  exact ⟨rfl, (Below.refl _ w).alloc (Nat.le_refl _) _, WdAt.new w _⟩
/-- The line of the kinds' words. -/
def lineK : ByteArray := ⟨#[110, 111, 111, 112, 32, 101, 102, 102, 101, 99, 116, 32, 114, 101, 97, 100, 32, 111, 117, 116, 32, 105, 110, 32, 115, 116, 97, 114, 116, 32, 115, 116, 97, 116, 117, 115, 32, 99, 97, 110, 99, 101, 108, 32, 109, 111, 118, 101, 32, 114, 101, 115, 117, 108, 116]⟩
theorem lineK_words : Lib.fields lineK.data.toList = kindsL.map wordK := by decide +kernel
/-- The table of spaces is as the start lays it. -/
structure TxE (w : World) : Prop where
  tab : Lib.TabIs Tryz.prog w "strings.asciiSpace" .u8 Lib.asciiSpaceTab
  lt : 1 < w.heap.size
theorem gSpc : Tryz.prog.globalNamed "strings.asciiSpace" = some 1 := by kernel_rfl
theorem TxE.keep {w w' : World} (h : TxE w) (hb : Below w.heap.size w w') : TxE w' := ⟨var?_below hb gSpc h.lt h.tab, Nat.lt_of_lt_of_le h.lt hb.size⟩
theorem line_any (w : World) (hT : TxE w) :
    Calls Tryz.prog 42 #[.string lineK] w fun e w' => e = .returned (.slice (some ⟨w.heap.size, 0, none⟩) 10 10) ∧ (Below w.heap.size w w' ∧ WdAt w' w.heap.size (kindsL.map wordK)) := by
  refine (Tryz.strings_Fields_laid lineK w (by decide) (fun j b hj => ?_) hT.tab).mono ?_
  · have h : (lineK.data.toList.all fun b => decide (b.toNat < 128)) = true := by decide +kernel
    exact of_decide_eq_true (List.all_eq_true.1 h b (List.mem_of_getElem? hj))
  rintro e w' ⟨rfl, rfl⟩
  rw [lineK_words]
  exact ⟨rfl, (Below.refl _ w).alloc (Nat.le_refl _) _, WdAt.new w _⟩
/-- The parts of each kind's text. -/
def partsV (m : Nat) : Array Value := #[.int .i64 1, .int .i64 4, .int .i64 3, .int .i64 3, .int .i64 4, .int .i64 (7 + (m : Int) - 1), .int .i64 3, .int .i64 3, .int .i64 4, .int .i64 4]
theorem kinds_iff (j t : Nat) (hj : j < 10) (ht : t < 10) : ((kindsL[j]?).getD 0 = (kindsL[t]?).getD 0) ↔ j = t := by
  have h : ∀ j < 10, ∀ t < 10, ((kindsL[j]?).getD 0 = (kindsL[t]?).getD 0 ↔ j = t) := by decide +kernel
  exact h j hj t ht
theorem parts_get {c : Cv} (h : cmdOk c) (t : Nat) (ht : t < 10) (hk : c.k = (kindsL[t]?).getD 0) : (partsV c.d.s.length)[t]? = some (.int .i64 ((wordsC c).length : Int)) := by
  have hw := wordsC_len h
  unfold countK at hw
  rw [hw, hk]
  match t, ht with
  | 0, _ => rfl
  | 1, _ => rfl
  | 2, _ => rfl
  | 3, _ => rfl
  | 4, _ => rfl
  | 5, _ =>
    have e : (7 + (c.d.s.length : Int) - 1) = 6 + (c.d.s.length : Int) := by omega
    show some (Value.int .i64 (7 + (c.d.s.length : Int) - 1)) = _
    rw [e]
    rfl
  | 6, _ => rfl
  | 7, _ => rfl
  | 8, _ => rfl
  | 9, _ => rfl
theorem word_get (t : Nat) (ht : t < 10) : (kindsL.map wordK)[t]? = some (wordK ((kindsL[t]?).getD 0)) := by
  rw [List.getElem?_map]
  have hl : kindsL.length = 10 := rfl
  rw [List.getElem?_eq_getElem (by rw [hl]; exact ht)]
  rfl
theorem shard_t (t : Nat) (ht : t < 10) : decide (0 ≤ (kindsL[t]?).getD 0 ∧ (kindsL[t]?).getD 0 ≤ 4) = decide ((t : Int) < 5) := by
  have h : ∀ t : Nat, t < 10 → decide (0 ≤ (kindsL[t]?).getD 0 ∧ (kindsL[t]?).getD 0 ≤ 4) = decide ((t : Int) < 5) := by decide +kernel
  exact h t ht
theorem no_line {c : Cv} (h : cmdOk c) : decide (0 ≤ Lib.indexByte (textC c) 10) = false := by
  rw [← Lib.contains_iff_indexByte]
  cases h1 : (textC c).contains 10 with
  | false => rfl
  | true => exact absurd (by simpa using h1) (textC_line h)
theorem words_eff {c : Cv} (h : cmdOk c) (hk : c.k = 1) : ∃ r : List UInt8, wordsC c = [wordK 1, effText c.ea c.eb c.ec, c.key.data.toList, (if c.dl < 0 then 45 else 43) :: r] ∧ effOk c.ea c.eb c.ec := by
  obtain ⟨l, h1, h2, _⟩ := h
  rw [hk] at h1
  cases h1
  obtain ⟨he, hd⟩ : okF .eff c ∧ okF .dl c := ⟨h2 .eff (by simp), h2 .dl (by simp)⟩
  obtain ⟨h0, _, _⟩ := hd
  obtain ⟨r, hr⟩ := sgn_first c.dl
  refine ⟨r, ?_, he⟩
  have hs : sgn c.dl = (if c.dl < 0 then 45 else 43) :: r := by
    rw [hr]
    split <;> split <;> first | rfl | (exfalso; omega)
  unfold wordsC
  rw [hk, ← hs]
  rfl
theorem words_res {c : Cv} (h : cmdOk c) (hk : c.k = 15) : (wordsC c)[1]? = some (itemText c.it.a c.it.b c.it.c c.it.m c.it.i c.it.g) ∧ itemOk c.it.a c.it.b c.it.c c.it.m c.it.i c.it.g := by
  obtain ⟨l, h1, h2, _⟩ := h
  rw [hk] at h1
  cases h1
  refine ⟨?_, h2 .item (by simp)⟩
  unfold wordsC
  rw [hk]
  rfl
theorem words_fst (c : Cv) : (wordsC c)[0]? = some (wordK c.k) := rfl
end Go.Proofs.YtgjnmfmbheejoaaGreatDoor
