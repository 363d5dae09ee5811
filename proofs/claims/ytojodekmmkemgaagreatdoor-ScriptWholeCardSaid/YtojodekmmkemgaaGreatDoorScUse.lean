/- The contracts of script as the statements use them: at valid operations. Conditions: as each theorem says. -/
import Derived.Test.YtojodekmmkemgaaGreatDoorScMdA
import Derived.Test.YtojodekmmkemgaaGreatDoorScMdS
import Derived.Deep.MidRow
namespace Go.Proofs.YtojodekmmkemgaaGreatDoor
open Go.RowKit Go.Shelf

/-- The numbers' cells as a list. -/
def nLo (x : No) : List Value := (nAo x).toList
theorem nLo_arr (x : No) : (nLo x).toArray = nAo x := by simp [nLo]
theorem nLo_info (x : No) : (Tryz.prog.info? 27).map (·.size) = some (nLo x).length := by kernel_rfl
theorem info7 (x : No) : (Tryz.prog.info? 27).map (·.size) = some (nAo x).size := by kernel_rfl
theorem Whole.nrngo {W : World} {B : Nat} {x : No} (h : Whole W B 27 (nAo x)) : W.rangeAt B 0 (nLo x) := by
  intro i v hi
  rw [Nat.zero_add, h.cell]
  unfold nLo at hi
  rw [Array.getElem?_toList] at hi
  exact hi
theorem ok_defO {o : Ov} (h : opOk o) : o.d.s = [] ∨ defOk o.d := by
  by_cases hk : o.k = 8
  · exact Or.inr ((alone_def h).1 hk)
  · exact Or.inl (by rw [(alone_def h).2 hk]; rfl)
theorem or_ne {W : World} {B : Nat} {cc o : Ov} {A A2 : Option Addr} {n m n2 m2 : Nat} (hi : OpIn W o A n m) (ho : opOk o) (hB : Whole W B 34 (oA cc A2 n2 m2)) (hc : cc.d.n = ⟨#[]⟩) : ∀ a : Addr, A = some a → o.d.s ≠ [] → a.block ≠ B := fun a ha hs =>
  sl_not_op hi.d.s ((ok_defO ho).resolve_left hs) hB hc a ha hs
theorem dif_leaf {w W : World} {P Q : Nat} {c d : Ov} {A1 A2 : Option Addr} {n1 m1 n2 m2 : Nat} (hb : Below w.heap.size w W) (hP : Whole W P 34 (oA (zeroO 0 0) none 0 0)) (hQ : Whole W Q 34 (oA (zeroO 0 0) none 0 0)) (hne : P ≠ Q)
    (h1 : OpIn W c A1 n1 m1) (h2 : OpIn W d A2 n2 m2) (o1 : opOk c) (o2 : opOk d) (lP : w.heap.size ≤ P) (lQ : w.heap.size ≤ Q) :
    Whole (W.setRow P (oA c A1 n1 m1)) Q 34 (oA (zeroO 0 0) none 0 0) ∧ (Below w.heap.size w ((W.setRow P (oA c A1 n1 m1)).setRow Q (oA d A2 n2 m2)) ∧ OpAt ((W.setRow P (oA c A1 n1 m1)).setRow Q (oA d A2 n2 m2)) P c A1 n1 m1 ∧ OpAt ((W.setRow P (oA c A1 n1 m1)).setRow Q (oA d A2 n2 m2)) Q d A2 n2 m2) := by
  have a1 := or_ne h1 o1 hP rfl
  have a2 := or_ne h1 o1 hQ rfl
  have a3 := or_ne h2 o2 hP rfl
  have a4 := or_ne h2 o2 hQ rfl
  have g1 := setRow_grown W P (oA c A1 n1 m1)
  have g2 := setRow_grown (W.setRow P (oA c A1 n1 m1)) Q (oA d A2 n2 m2)
  have hQ1 := hQ.grown g1 (fun e => hne (Option.some.inj e).symm)
  have b1 := hb.grown g1 hb.size (fun k e => by cases e; exact lP)
  have w1 : Whole (W.setRow P (oA c A1 n1 m1)) P 34 (oA c A1 n1 m1) := setRow_heap _ _ _ _ _ _ hP
  have i1 : OpIn (W.setRow P (oA c A1 n1 m1)) c A1 n1 m1 := ⟨h1.d.grown g1 (fun a ha hs e => a1 a ha hs (Option.some.inj e)), h1.z⟩
  have i2 : OpIn (W.setRow P (oA c A1 n1 m1)) d A2 n2 m2 := ⟨h2.d.grown g1 (fun a ha hs e => a3 a ha hs (Option.some.inj e)), h2.z⟩
  exact ⟨hQ1, b1.grown g2 b1.size (fun k e => by cases e; exact lQ),
    ⟨w1.grown g2 (fun e => hne (Option.some.inj e)), ⟨i1.d.grown g2 (fun a ha hs e => a2 a ha hs (Option.some.inj e)), i1.z⟩, a1⟩,
    ⟨setRow_heap _ _ _ _ _ _ hQ1, ⟨i2.d.grown g2 (fun a ha hs e => a4 a ha hs (Option.some.inj e)), i2.z⟩, a4⟩⟩
theorem print_ok (o : Ov) (A : Option Addr) (n m : Nat) (w : World) (hE : DfE w) (hi : OpIn w o A n m) (ho : opOk o) (t : ByteArray) (ht : t.data.toList = textO o) :
    Calls Tryz.prog 22 #[.agg (oA o A n m)] w fun e w' => e = .returned (.tuple #[.string t, .int .i64 0]) ∧ Below w.heap.size w w' := by
  have h := oprint_any o A n m w hE hi
  rw [txtO_yes ho, ckO_yes ho, ← ht, ba_eta] at h
  exact h
theorem print_no (o : Ov) (A : Option Addr) (n m : Nat) (w : World) (hE : DfE w) (hi : OpIn w o A n m) (ho : ¬ opOk o) :
    Calls Tryz.prog 22 #[.agg (oA o A n m)] w fun e w' => e = .returned (.tuple #[.string ⟨#[]⟩, .int .i64 2]) ∧ Below w.heap.size w w' := by
  have h := oprint_any o A n m w hE hi
  rw [txtO_no ho, ckO_no ho] at h
  exact h
theorem parse_ok (o : Ov) (w : World) (hE : DfE w) (ho : opOk o) (t : ByteArray) (ht : t.data.toList = textO o) :
    Calls Tryz.prog 28 #[.string t] w fun e w' => (∃ A n m, e = .returned (.tuple #[.agg (oA o A n m), .int .i64 0]) ∧ OpIn w' o A n m) ∧ Below w.heap.size w w' :=
  (oparse_any t w hE (by rw [← size_list, ht]; have := textO_len ho; omega)).mono (fun e w' ⟨o', er, A, n, m, he, hp, hi, hb, _⟩ => by
    rw [ht] at hp
    have h1 := (parOV_of hp).symm.trans (parOV_text ho)
    obtain ⟨rfl, rfl⟩ := Prod.mk.inj h1
    exact ⟨⟨A, n, m, he, hi⟩, hb⟩)
theorem parse_no (t : ByteArray) (w : World) (hE : DfE w) (hl : t.size ≤ 100000) (hn : parOV t.data.toList = (zeroO 0 0, 10)) :
    Calls Tryz.prog 28 #[.string t] w fun e w' => (∃ A n m, e = .returned (.tuple #[.agg (oA (zeroO 0 0) A n m), .int .i64 10]) ∧ OpIn w' (zeroO 0 0) A n m) ∧ Below w.heap.size w w' :=
  (oparse_any t w hE hl).mono (fun e w' ⟨o', er, A, n, m, he, hp, hi, hb, _⟩ => by
    have h1 := (parOV_of hp).symm.trans hn
    obtain ⟨rfl, rfl⟩ := Prod.mk.inj h1
    exact ⟨⟨A, n, m, he, hi⟩, hb⟩)
theorem check_ok (o : Ov) (A : Option Addr) (n m : Nat) (w : World) (hi : OpIn w o A n m) (ho : opOk o) :
    Calls Tryz.prog 24 #[.agg (oA o A n m)] w fun e w' => e = .returned (.int .i64 0) ∧ Below w.heap.size w w' := by
  have h := ocheck_any o A n m w hi
  rw [ckO_yes ho] at h
  exact h
theorem check_no (o : Ov) (A : Option Addr) (n m : Nat) (w : World) (hi : OpIn w o A n m) (ho : ¬ opOk o) :
    Calls Tryz.prog 24 #[.agg (oA o A n m)] w fun e w' => e = .returned (.int .i64 2) ∧ Below w.heap.size w w' := by
  have h := ocheck_any o A n m w hi
  rw [ckO_no ho] at h
  exact h
theorem equal_b (o o' : Ov) (A A' : Option Addr) (n n' m m' : Nat) (w : World) (h : OpIn w o A n m) (h' : OpIn w o' A' n' m') (q : Bool) (hq : q = true ↔ o = o') :
    Calls Tryz.prog 26 #[.agg (oA o A n m), .agg (oA o' A' n' m')] w fun e w' => e = .returned (.bool q) ∧ Below w.heap.size w w' :=
  (oequal_any o o' A A' n n' m m' w h h').mono (fun e w' hh => by
    unfold BoolR at hh
    obtain ⟨⟨b, he, hb⟩, hw⟩ := hh
    exact ⟨by rw [he, show b = q from Bool.eq_iff_iff.2 (hb.trans hq.symm)], hw⟩)
theorem textO_iff {c d : Ov} (hc : opOk c) (hd : opOk d) : textO c = textO d ↔ c = d := ⟨textO_inj hc hd, fun e => by rw [e]⟩
theorem index_no {m : List UInt8} (h : (10 : UInt8) ∉ m) : Lib.indexByte m 10 = -1 := by
  rcases split10 m with ⟨_, h1, _⟩ | ⟨a, b, rfl, _⟩
  · exact h1
  · exact absurd (by simp) h
theorem no_line (t : ByteArray) (w : World) (h : (10 : UInt8) ∉ t.data.toList) : Calls Tryz.prog 36 #[.string t, .string ⟨#[10]⟩] w fun e w' => e = .returned (.bool false) ∧ w = w' := by
  have h1 := Tryz.strings_Contains_one t 10 w
  rw [index_no h] at h1
  exact h1.mono (fun e w' ⟨he, hw⟩ => ⟨he, hw.symm⟩)
end Go.Proofs.YtojodekmmkemgaaGreatDoor
