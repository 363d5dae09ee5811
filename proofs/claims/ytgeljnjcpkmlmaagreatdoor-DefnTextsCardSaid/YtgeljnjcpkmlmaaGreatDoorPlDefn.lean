/- Plain words and laws: definitions of sagas, which are valid, their bytes, and that just the bytes of valid ones are read, as what they are the bytes of. No condition. -/
import Derived.Test.YtgeljnjcpkmlmaaGreatDoorPlWire
import Derived.Test.YtgeljnjcpkmlmaaGreatDoorPlName

namespace Go.Proofs.YtgeljnjcpkmlmaaGreatDoor

/-- A step: its key and its delta. -/
structure Sp where
  k : ByteArray
  v : Int
/-- A definition. -/
structure Dv where
  n : ByteArray
  r : Int
  dl : Int
  s : List Sp
def stOk (p : Sp) : Bool := isName p.k.data.toList && (decide (p.v ≠ 0) && (decide (-1152921504606846976 ≤ p.v) && decide (p.v ≤ 1152921504606846976)))
/-- Steps that are valid, with keys of their own. -/
def StepsOk (s : List Sp) : Prop := ∀ (i : Nat) p, s[i]? = some p → stOk p = true ∧ ∀ (j : Nat) q, j < i → s[j]? = some q → q.k ≠ p.k
def defOk (d : Dv) : Prop := isName d.n.data.toList = true ∧ 0 ≤ d.r ∧ d.r ≤ 20 ∧ 0 ≤ d.dl ∧ d.dl ≤ 100000 ∧ 1 ≤ d.s.length ∧ d.s.length ≤ 8 ∧ StepsOk d.s
open Classical in
/-- What Check answers. -/
noncomputable def ckD (d : Dv) : Int := if defOk d then 0 else 15
theorem ckD_yes {d : Dv} (h : defOk d) : ckD d = 0 := if_pos h
theorem ckD_no {d : Dv} (h : ¬ defOk d) : ckD d = 15 := if_neg h
theorem isName_len {l : List UInt8} (h : isName l = true) : 1 ≤ l.length ∧ l.length ≤ 16 ∧ l.all nmB = true := by
  unfold isName at h
  simpa only [Bool.and_eq_true, decide_eq_true_eq] using h
theorem stOk_parts {p : Sp} (h : stOk p = true) : isName p.k.data.toList = true ∧ p.v ≠ 0 ∧ -1152921504606846976 ≤ p.v ∧ p.v ≤ 1152921504606846976 := by
  unfold stOk at h
  simpa only [Bool.and_eq_true, decide_eq_true_eq] using h
theorem StepsOk.all {s : List Sp} (h : StepsOk s) {p : Sp} (hp : p ∈ s) : stOk p = true := by
  obtain ⟨i, hi⟩ := List.getElem?_of_mem hp
  exact (h i p hi).1
/-- The definition without anything. -/
def zeroD : Dv := ⟨⟨#[]⟩, 0, 0, []⟩
theorem zeroD_no : ¬ defOk zeroD := fun h => absurd h.1 (by decide)

/-- The bytes of a step, and of a definition. -/
def spB (p : Sp) : List UInt8 := txB p.k.data.toList ++ uvB (zig p.v)
def bytesD (d : Dv) : List UInt8 := txB d.n.data.toList ++ (uvB d.r.toNat ++ (uvB d.dl.toNat ++ (uvB d.s.length ++ d.s.flatMap spB)))

/-- Steps that are read. -/
def wSp (st : WS) : Sp × WS := (⟨⟨(wT st).1.toArray⟩, (wI (wT st).2).1⟩, (wI (wT st).2).2)
def wSps : Nat → WS → List Sp × WS
  | 0, st => ([], st)
  | n + 1, st => ((wSp st).1 :: (wSps n (wSp st).2).1, (wSps n (wSp st).2).2)
theorem wSps_succ : ∀ (n : Nat) (st : WS), wSps (n + 1) st = ((wSps n st).1 ++ [(wSp (wSps n st).2).1], (wSp (wSps n st).2).2)
  | 0, st => rfl
  | n + 1, st => by
    rw [wSps, wSps_succ n]
    rfl
theorem wSps_len : ∀ (n : Nat) (st : WS), (wSps n st).1.length = n
  | 0, _ => rfl
  | n + 1, st => by simp [wSps, wSps_len n]
theorem wSp_enc {p : Sp} (h : stOk p = true) (l : List UInt8) : wSp (some (spB p ++ l)) = (p, some l) := by
  obtain ⟨h1, _, h3, h4⟩ := stOk_parts h
  have hl := (isName_len h1).2.1
  unfold wSp spB
  rw [List.append_assoc, wT_enc (by omega)]
  dsimp only
  rw [wI_enc (by omega) (by omega)]
theorem wSps_enc : ∀ (s : List Sp) (l : List UInt8), (∀ p ∈ s, stOk p = true) → wSps s.length (some (s.flatMap spB ++ l)) = (s, some l)
  | [], l, _ => rfl
  | p :: s, l, h => by
    have h1 := wSp_enc (h p (by simp)) (s.flatMap spB ++ l)
    rw [List.flatMap_cons, List.append_assoc]
    simp only [List.length_cons, wSps]
    rw [h1]
    dsimp only
    rw [wSps_enc s l (fun q hq => h q (by simp [hq]))]
theorem wSp_dec {st : WS} {l : List UInt8} (h : (wSp st).2 = some l) : st = some (spB (wSp st).1 ++ l) := by
  have h1 := wI_dec (s := (wT st).2) (l := l) h
  have h2 := wT_dec h1.1
  refine h2.1.trans ?_
  unfold spB wSp
  simp only [List.append_assoc]
theorem wSps_dec : ∀ (n : Nat) (st : WS) (l : List UInt8), (wSps n st).2 = some l → st = some ((wSps n st).1.flatMap spB ++ l)
  | 0, st, l, h => by simpa [wSps] using h
  | n + 1, st, l, h => by
    rw [wSps] at h ⊢
    have h1 := wSps_dec n _ l h
    have h2 := wSp_dec h1
    rw [List.flatMap_cons, List.append_assoc]
    exact h2
theorem wSps_none : ∀ n, (wSps n none).2 = none
  | 0 => rfl
  | n + 1 => by
    rw [wSps]
    show (wSps n (wSp none).2).2 = none
    have : (wSp none).2 = none := by unfold wSp; rw [wT_none]; show (wI none).2 = none; rw [wI_none]
    rw [this]; exact wSps_none n

/-- A number up to the greatest Deadline; a greater one makes the reader fail. -/
def wN (st : WS) : Nat × WS := (min (wU st).1 100000, if 100000 < (wU st).1 then none else (wU st).2)
def wS8 (c : Nat) (st : WS) : WS := if 8 < c then none else st
def decD (b : List UInt8) : Dv × WS :=
  let t := wT (some b)
  let x := wN t.2
  let y := wN x.2
  let z := wN y.2
  let l := wSps (min z.1 8) (wS8 z.1 z.2)
  (⟨⟨t.1.toArray⟩, x.1, y.1, l.1⟩, l.2)
theorem wN_enc {n : Nat} (h : n ≤ 100000) (l : List UInt8) : wN (some (uvB n ++ l)) = (n, some l) := by
  unfold wN
  rw [wU_enc (by omega), Nat.min_eq_left h]
  dsimp only
  rw [if_neg (by omega)]
theorem wN_dec {st : WS} {l : List UInt8} (h : (wN st).2 = some l) : st = some (uvB (wN st).1 ++ l) ∧ (wN st).1 ≤ 100000 := by
  unfold wN at h ⊢
  dsimp only at h ⊢
  split at h
  · cases h
  · rename_i hc
    rw [Nat.min_eq_left (by omega)]
    exact ⟨(wU_dec h).1, by omega⟩
theorem bytes_toList (b : List UInt8) : (⟨b.toArray⟩ : ByteArray).data.toList = b := rfl
theorem ba_eta (b : ByteArray) : (⟨b.data.toList.toArray⟩ : ByteArray) = b := rfl
theorem decD_enc {d : Dv} (h : defOk d) (x : List UInt8) : decD (bytesD d ++ x) = (d, some x) := by
  obtain ⟨h1, h2, h3, h4, h5, h6, h7, h8⟩ := h
  have hl := (isName_len h1).2.1
  have e1 : wT (some (bytesD d ++ x)) = (d.n.data.toList, some (uvB d.r.toNat ++ (uvB d.dl.toNat ++ (uvB d.s.length ++ (d.s.flatMap spB ++ x))))) := by
    unfold bytesD
    rw [List.append_assoc, wT_enc (by omega)]
    simp only [List.append_assoc]
  have e2 := wN_enc (n := d.r.toNat) (by omega) (uvB d.dl.toNat ++ (uvB d.s.length ++ (d.s.flatMap spB ++ x)))
  have e3 := wN_enc (n := d.dl.toNat) (by omega) (uvB d.s.length ++ (d.s.flatMap spB ++ x))
  have e4 := wN_enc (n := d.s.length) (by omega) (d.s.flatMap spB ++ x)
  have e5 := wSps_enc d.s x (fun p hp => h8.all hp)
  unfold decD
  simp only [e1, e2, e3, e4]
  have e6 : wS8 d.s.length (some (d.s.flatMap spB ++ x)) = some (d.s.flatMap spB ++ x) := by unfold wS8; rw [if_neg (by omega)]
  rw [e6, Nat.min_eq_left h7, e5]
  have a1 : ((d.r.toNat : Nat) : Int) = d.r := by omega
  have a2 : ((d.dl.toNat : Nat) : Int) = d.dl := by omega
  simp only [a1, a2]
theorem decD_dec {b x : List UInt8} (h : (decD b).2 = some x) : b = bytesD (decD b).1 ++ x := by
  unfold decD at h
  dsimp only at h
  have h5 := wSps_dec _ _ _ h
  have h6 : ¬ 8 < (wN (wN (wN (wT (some b)).2).2).2).1 := fun hc => by
    unfold wS8 at h5
    rw [if_pos hc] at h5; cases h5
  have h7 : wS8 (wN (wN (wN (wT (some b)).2).2).2).1 (wN (wN (wN (wT (some b)).2).2).2).2 = (wN (wN (wN (wT (some b)).2).2).2).2 := by unfold wS8; rw [if_neg h6]
  have hm : min (wN (wN (wN (wT (some b)).2).2).2).1 8 = (wN (wN (wN (wT (some b)).2).2).2).1 := Nat.min_eq_left (by omega)
  have hd : decD b = (⟨⟨(wT (some b)).1.toArray⟩, (wN (wT (some b)).2).1, (wN (wN (wT (some b)).2).2).1, (wSps (wN (wN (wN (wT (some b)).2).2).2).1 (wN (wN (wN (wT (some b)).2).2).2).2).1⟩, (wSps (wN (wN (wN (wT (some b)).2).2).2).1 (wN (wN (wN (wT (some b)).2).2).2).2).2) := by
    unfold decD
    dsimp only
    rw [h7, hm]
  rw [h7, hm] at h5
  obtain ⟨h4, b4⟩ := wN_dec h5
  obtain ⟨h3, b3⟩ := wN_dec h4
  obtain ⟨h2, b2⟩ := wN_dec h3
  obtain ⟨h1, b1⟩ := wT_dec h2
  rw [hd]
  unfold bytesD
  simp only [Int.toNat_natCast, wSps_len, List.append_assoc]
  exact Option.some.inj h1
/-- What reading bytes answers. -/
def DecR (b : List UInt8) (d : Dv) (e : Int) : Prop := (e = 0 ∧ defOk d ∧ bytesD d = b) ∨ (e = 10 ∧ d = zeroD ∧ ∀ d0, defOk d0 → bytesD d0 ≠ b)
theorem decD_ok {b : List UInt8} (h1 : wEnd (decD b).2 = 0) (h2 : defOk (decD b).1) : DecR b (decD b).1 0 :=
  Or.inl ⟨rfl, h2, by have := decD_dec (wEnd_ok.1 h1); rw [List.append_nil] at this; exact this.symm⟩
theorem decD_bad {b : List UInt8} (h : ¬ (wEnd (decD b).2 = 0 ∧ defOk (decD b).1)) : DecR b zeroD 10 :=
  Or.inr ⟨rfl, rfl, fun d0 h0 e => h (by
    have := decD_enc h0 []
    rw [List.append_nil, e] at this
    rw [this]
    exact ⟨rfl, h0⟩)⟩
theorem DecR.same {b : List UInt8} {d d' : Dv} {e e' : Int} (h : DecR b d e) (h' : DecR b d' e') : d = d' ∧ e = e' := by
  rcases h with ⟨rfl, h1, h2⟩ | ⟨rfl, rfl, h2⟩ <;> rcases h' with ⟨rfl, h3, h4⟩ | ⟨rfl, rfl, h4⟩
  · have a := decD_enc h1 []
    have c := decD_enc h3 []
    rw [List.append_nil] at a c
    rw [h2] at a; rw [h4, a] at c
    exact ⟨(Prod.mk.inj c).1, rfl⟩
  · exact absurd h2 (h4 d h1)
  · exact absurd h4 (h2 d' h3)
  · exact ⟨rfl, rfl⟩
theorem bytesD_inj {d d' : Dv} (h : defOk d) (h' : defOk d') {x y : List UInt8} (e : bytesD d ++ x = bytesD d' ++ y) : d = d' ∧ x = y := by
  have a := decD_enc h x
  rw [e, decD_enc h' y] at a
  exact ⟨(Prod.mk.inj a).1.symm, (Option.some.inj (Prod.mk.inj a).2).symm⟩
/-- The reference's reading: numbers that are too great become 1,000,000. -/
def small (n : Nat) : Nat := min n 1000000
def refD (b : List UInt8) : Dv :=
  let t := wT (some b)
  let x := wU t.2
  let y := wU x.2
  let z := wU y.2
  ⟨⟨t.1.toArray⟩, small x.1, small y.1, (wSps (min (small z.1) 8) z.2).1⟩
theorem refD_enc {d : Dv} (h : defOk d) : refD (bytesD d) = d := by
  obtain ⟨h1, h2, h3, h4, h5, h6, h7, h8⟩ := h
  have hl := (isName_len h1).2.1
  have e1 : wT (some (bytesD d)) = (d.n.data.toList, some (uvB d.r.toNat ++ (uvB d.dl.toNat ++ (uvB d.s.length ++ (d.s.flatMap spB ++ []))))) := by
    unfold bytesD
    rw [wT_enc (by omega)]
    simp only [List.append_nil]
  have e2 := wU_enc (n := d.r.toNat) (by omega) (uvB d.dl.toNat ++ (uvB d.s.length ++ (d.s.flatMap spB ++ [])))
  have e3 := wU_enc (n := d.dl.toNat) (by omega) (uvB d.s.length ++ (d.s.flatMap spB ++ []))
  have e4 := wU_enc (n := d.s.length) (by omega) (d.s.flatMap spB ++ [])
  have e5 := wSps_enc d.s [] (fun p hp => h8.all hp)
  unfold refD
  simp only [e1, e2, e3, e4]
  have s1 : small d.r.toNat = d.r.toNat := Nat.min_eq_left (by omega)
  have s2 : small d.dl.toNat = d.dl.toNat := Nat.min_eq_left (by omega)
  have s3 : small d.s.length = d.s.length := Nat.min_eq_left (by omega)
  rw [s1, s2, s3, Nat.min_eq_left h7, e5]
  have a1 : ((d.r.toNat : Nat) : Int) = d.r := by omega
  have a2 : ((d.dl.toNat : Nat) : Int) = d.dl := by omega
  simp only [a1, a2]
theorem refD_ok {b : List UInt8} (h1 : defOk (refD b)) (h2 : bytesD (refD b) = b) : DecR b (refD b) 0 := Or.inl ⟨rfl, h1, h2⟩
theorem refD_bad {b : List UInt8} (h : ¬ (defOk (refD b) ∧ bytesD (refD b) = b)) : DecR b zeroD 10 :=
  Or.inr ⟨rfl, rfl, fun d0 h0 e => h (by rw [← e, refD_enc h0]; exact ⟨h0, rfl⟩)⟩
end Go.Proofs.YtgeljnjcpkmlmaaGreatDoor
