/- Plain words and laws: the texts of definitions, how they are cut into words, and that just the texts of valid definitions are read, as what they are the texts of. No condition. -/
import Derived.Test.YtgeljnjcpkmlmaaGreatDoorPlDefn
import Derived.Test.YtgeljnjcpkmlmaaGreatDoorPlParse
import Derived.Lib.Split
import Derived.Lib.IndexBytes
import Derived.Lib.ParseIntB
namespace Go.Proofs.YtgeljnjcpkmlmaaGreatDoor

/-- A number with its sign. -/
def sgn (v : Int) : List UInt8 := if 0 < v then 43 :: dgs v else 45 :: dgs (-v)
def spW (p : Sp) : List UInt8 := p.k.data.toList ++ sgn p.v
def wordsD (d : Dv) : List (List UInt8) := d.n.data.toList :: dgs d.r :: dgs d.dl :: d.s.map spW
/-- Words with a space between each two. -/
def joinW : List (List UInt8) → List UInt8
  | [] => []
  | [a] => a
  | a :: b :: l => a ++ 32 :: joinW (b :: l)
def textD (d : Dv) : List UInt8 := joinW (wordsD d)

theorem dgs_all (a : Int) : (dgs a).all isDig = true ∧ 1 ≤ (dgs a).length := ⟨(decDigits_spec _).1, (decDigits_spec _).2.2.1⟩
theorem dgs_dv {a : Int} (h : 0 ≤ a) : (dv (dgs a) : Int) = a := by
  have := (decDigits_spec a.toNat).2.1
  unfold dgs; rw [this]; omega
theorem isDig_ne {c : UInt8} (h : isDig c = true) : c ≠ 32 ∧ c ≠ 43 ∧ c ≠ 45 := by
  unfold isDig at h
  simp only [Bool.and_eq_true, decide_eq_true_eq] at h
  refine ⟨?_, ?_, ?_⟩ <;> (rintro rfl; simp at h)
theorem nmB_ne {c : UInt8} (h : nmB c = true) : c ≠ 32 ∧ c ≠ 43 ∧ c ≠ 45 ∧ c.toNat < 128 := by
  have h2 := nmB_le h
  unfold nmB at h
  simp only [Bool.or_eq_true, Bool.and_eq_true, decide_eq_true_eq] at h
  refine ⟨?_, ?_, ?_, by omega⟩ <;> (rintro rfl; simp at h)
theorem isName_mem {l : List UInt8} (h : isName l = true) {c : UInt8} (hc : c ∈ l) : nmB c = true := List.all_eq_true.1 (isName_len h).2.2 c hc
theorem dgs_mem {a : Int} {c : UInt8} (hc : c ∈ dgs a) : isDig c = true := List.all_eq_true.1 (dgs_all a).1 c hc
theorem sgn_mem {v : Int} {c : UInt8} (hc : c ∈ sgn v) : c = 43 ∨ c = 45 ∨ isDig c = true := by
  unfold sgn at hc
  split at hc <;> (rcases List.mem_cons.1 hc with h | h)
  · exact Or.inl h
  · exact Or.inr (Or.inr (dgs_mem h))
  · exact Or.inr (Or.inl h)
  · exact Or.inr (Or.inr (dgs_mem h))
theorem isDig_lt {c : UInt8} (h : isDig c = true) : c.toNat < 128 := by
  unfold isDig at h
  simp only [Bool.and_eq_true, decide_eq_true_eq] at h
  omega
theorem spW_mem {p : Sp} (h : stOk p = true) {c : UInt8} (hc : c ∈ spW p) : c ≠ 32 ∧ c.toNat < 128 := by
  rcases List.mem_append.1 hc with h1 | h1
  · have := nmB_ne (isName_mem (stOk_parts h).1 h1); exact ⟨this.1, this.2.2.2⟩
  · rcases sgn_mem h1 with rfl | rfl | h2
    · decide
    · decide
    · exact ⟨(isDig_ne h2).1, isDig_lt h2⟩
theorem wordsD_no {d : Dv} (h : defOk d) {w : List UInt8} (hw : w ∈ wordsD d) : (32 : UInt8) ∉ w := by
  intro hc
  unfold wordsD at hw
  simp only [List.mem_cons, List.mem_map] at hw
  rcases hw with rfl | rfl | rfl | ⟨p, hp, rfl⟩
  · exact (nmB_ne (isName_mem h.1 hc)).1 rfl
  · exact (isDig_ne (dgs_mem hc)).1 rfl
  · exact (isDig_ne (dgs_mem hc)).1 rfl
  · exact (spW_mem (h.2.2.2.2.2.2.2.all hp) hc).1 rfl

theorem indexByte_skip {c : UInt8} : ∀ {w : List UInt8} (r : List UInt8), c ∉ w → Lib.indexByte (w ++ c :: r) c = w.length
  | [], r, _ => by simp [Lib.indexByte]
  | a :: w, r, h => by
    have h1 : ¬ a = c := fun e => h (by simp [e])
    have h2 := indexByte_skip (w := w) r (fun e => h (List.mem_cons_of_mem _ e))
    show Lib.indexByte (a :: (w ++ c :: r)) c = _
    unfold Lib.indexByte
    simp only [h2, beq_iff_eq, h1, List.length_cons]
    split <;> simp_all <;> omega
theorem indexByte_no {c : UInt8} : ∀ {w : List UInt8}, c ∉ w → Lib.indexByte w c = -1
  | [], _ => rfl
  | a :: w, h => by
    have h1 : ¬ a = c := fun e => h (by simp [e])
    have h2 := indexByte_no (w := w) (fun e => h (List.mem_cons_of_mem _ e))
    unfold Lib.indexByte
    simp [h1, h2]
theorem splitK_word {w : List UInt8} (h : (32 : UInt8) ∉ w) (r : List UInt8) (k : Nat) : Lib.splitK [32] 0 (k + 1) (w ++ 32 :: r) = w :: Lib.splitK [32] 0 k r := by
  have e : Lib.index (w ++ 32 :: r) [32] = w.length := by rw [Lib.index_one, indexByte_skip r h]
  have hm : ¬ ((Lib.index (w ++ 32 :: r) [32] == -1) = true) := by rw [e]; simp
  rw [Lib.splitK, if_neg hm, e]
  have : (w ++ 32 :: r).drop (w.length + 1) = r := by rw [← List.drop_drop, List.drop_left]; rfl
  simp [this]
theorem splitK_last {w : List UInt8} (h : (32 : UInt8) ∉ w) (k : Nat) : Lib.splitK [32] 0 k w = [w] := by
  cases k with
  | zero => rfl
  | succ k =>
    have e : Lib.index w [32] = -1 := by rw [Lib.index_one, indexByte_no h]
    rw [Lib.splitK, if_pos (by rw [e]; rfl)]
theorem splitK_join : ∀ (ws : List (List UInt8)) (k : Nat), ws ≠ [] → (∀ w ∈ ws, (32 : UInt8) ∉ w) → ws.length ≤ k + 1 → Lib.splitK [32] 0 k (joinW ws) = ws
  | [], _, h, _, _ => absurd rfl h
  | [a], k, _, h, _ => splitK_last (h a (by simp)) k
  | a :: b :: l, 0, _, _, hl => by simp at hl
  | a :: b :: l, k + 1, _, h, hl => by
    rw [joinW, splitK_word (h a (by simp)), splitK_join (b :: l) k (by simp) (fun w hw => h w (by simp only [List.mem_cons] at hw ⊢; exact Or.inr hw)) (by simp at hl ⊢; omega)]
theorem joinW_len : ∀ (ws : List (List UInt8)), ws.length ≤ (joinW ws).length + 1
  | [] => by simp
  | [a] => by simp
  | a :: b :: l => by
    have := joinW_len (b :: l)
    simp only [joinW, List.length_append, List.length_cons] at this ⊢
    omega
theorem wordsD_len (d : Dv) : (wordsD d).length = d.s.length + 3 := by simp [wordsD]
theorem split_text {d : Dv} (h : defOk d) : Lib.splitK [32] 0 (min 12 ((textD d).length + 1) - 1) (textD d) = wordsD d := by
  refine splitK_join _ _ (by simp [wordsD]) (fun w hw => wordsD_no h hw) ?_
  have h1 := joinW_len (wordsD d)
  have h2 := wordsD_len d
  have h3 := h.2.2.2.2.2.2.1
  unfold textD
  omega

/-- Digits, as Atoi and ParseInt take them. -/
theorem parseUint10_dv : ∀ (ds : List UInt8) (acc : Nat), ds.all isDig = true → dvF acc ds < 18446744073709551616 → Lib.parseUint10 acc ds = .ok (dvF acc ds)
  | [], _, _, _ => rfl
  | c :: r, acc, h, hv => by
    simp only [List.all_cons, Bool.and_eq_true] at h
    have hc : 48 ≤ c.toNat ∧ c.toNat ≤ 57 := by simpa [isDig] using h.1
    have hge : ∀ (l : List UInt8) (a : Nat), a ≤ dvF a l := by
      intro l
      induction l with
      | nil => intro a; exact Nat.le_refl _
      | cons x l ih => intro a; exact Nat.le_trans (by omega) (ih (a * 10 + (x.toNat - 48)))
    have e : dvF acc (c :: r) = dvF (acc * 10 + (c.toNat - 48)) r := rfl
    rw [e] at hv ⊢
    have := hge r (acc * 10 + (c.toNat - 48))
    rw [Lib.parseUint10, if_pos hc, if_neg (by omega), if_neg (by omega)]
    exact parseUint10_dv r _ h.2 hv
theorem parseUintM_dv : ∀ (ds : List UInt8) (acc : Nat), ds.all isDig = true → dvF acc ds ≤ 18446744073709551615 → Lib.parseUintM 18446744073709551615 acc ds = .ok (dvF acc ds)
  | [], _, _, _ => rfl
  | c :: r, acc, h, hv => by
    simp only [List.all_cons, Bool.and_eq_true] at h
    have hc : 48 ≤ c.toNat ∧ c.toNat ≤ 57 := by simpa [isDig] using h.1
    have hge : ∀ (l : List UInt8) (a : Nat), a ≤ dvF a l := by
      intro l
      induction l with
      | nil => intro a; exact Nat.le_refl _
      | cons x l ih => intro a; exact Nat.le_trans (by omega) (ih (a * 10 + (x.toNat - 48)))
    have e : dvF acc (c :: r) = dvF (acc * 10 + (c.toNat - 48)) r := rfl
    rw [e] at hv ⊢
    have := hge r (acc * 10 + (c.toNat - 48))
    rw [Lib.parseUintM, if_pos hc, if_neg (by omega), if_neg (by omega)]
    exact parseUintM_dv r _ h.2 hv
theorem dgs_cons (a : Int) : ∃ c r, dgs a = c :: r ∧ isDig c = true := by
  have h := dgs_all a
  cases e : dgs a with
  | nil => rw [e] at h; simp at h
  | cons c r => exact ⟨c, r, rfl, dgs_mem (a := a) (by rw [e]; simp)⟩
theorem atoiAll_dgs {a : Int} (h : 0 ≤ a) (h2 : a ≤ 9223372036854775807) : Lib.atoiAll (dgs a) = .ok a := by
  obtain ⟨c, r, e, hc⟩ := dgs_cons a
  have hd := (dgs_all a).1
  have hv := dgs_dv h
  rw [e] at hd hv ⊢
  have hc' : 48 ≤ c.toNat ∧ c.toNat ≤ 57 := by simpa [isDig] using hc
  have hp : Lib.parseMag (c :: r) = .ok (dv (c :: r)) := by
    unfold Lib.parseMag
    rw [if_neg (by simp)]
    exact parseUint10_dv _ 0 hd (by change dv (c :: r) < _; omega)
  unfold Lib.atoiAll
  dsimp only
  rw [if_neg (show ¬ (c.toNat = 43 ∨ c.toNat = 45) by omega), hp]
  dsimp only
  rw [if_neg (by omega), if_neg (by omega), if_neg (by omega), hv]
theorem parseIntB_sgn {v : Int} (h1 : -1152921504606846976 ≤ v) (h2 : v ≤ 1152921504606846976) : Lib.parseIntB 64 (sgn v) = .ok v := by
  have hne : ∀ a : Int, dgs a ≠ [] := fun a e => by have := (dgs_all a).2; rw [e] at this; simp at this
  have hu : ∀ a : Int, 0 ≤ a → a ≤ 1152921504606846976 → Lib.parseUintB 64 (dgs a) = .ok a.toNat := fun a ha hb => by
    unfold Lib.parseUintB
    rw [if_neg (hne a)]
    have hv := dgs_dv ha
    have := parseUintM_dv (dgs a) 0 (dgs_all a).1 (by change dv (dgs a) ≤ _; omega)
    have e : (2 : Nat) ^ 64 - 1 = 18446744073709551615 := by decide
    rw [e, this]
    congr 1
    change dv (dgs a) = _
    omega
  have p63 : (2 : Nat) ^ (64 - 1) = 9223372036854775808 := by decide
  have c43 : (43 : UInt8).toNat = 43 := by decide
  have c45 : (45 : UInt8).toNat = 45 := by decide
  unfold sgn
  split
  · have e := hu v (by omega) (by omega)
    unfold Lib.parseIntB
    dsimp only
    rw [if_pos (Or.inl c43), e]
    dsimp only
    rw [if_neg (by rw [p63]; omega), if_neg (by omega), if_neg (by omega)]
    congr 1; omega
  · have e := hu (-v) (by omega) (by omega)
    unfold Lib.parseIntB
    dsimp only
    rw [if_pos (Or.inr c45), e]
    dsimp only
    rw [if_neg (by omega), if_neg (by rw [p63]; omega), if_pos c45]
    congr 1; omega

/-- How a word is cut at its sign. -/
def isSg (c : UInt8) : Bool := c == 43 || c == 45
def cutAt (w : List UInt8) : Nat := (w.takeWhile (fun c => !isSg c)).length
theorem cutAt_spW {p : Sp} (h : stOk p = true) : cutAt (spW p) = p.k.data.toList.length ∧ (spW p).take p.k.data.toList.length = p.k.data.toList ∧ (spW p).drop p.k.data.toList.length = sgn p.v := by
  refine ⟨?_, by unfold spW; simp, by unfold spW; simp⟩
  unfold cutAt spW
  have hk : p.k.data.toList.all (fun c => !isSg c) = true := by
    rw [List.all_eq_true]
    intro c hc
    have := nmB_ne (isName_mem (stOk_parts h).1 hc)
    simp [isSg, this.2.1, this.2.2.1]
  obtain ⟨x, r, hx, hs⟩ : ∃ x r, sgn p.v = x :: r ∧ isSg x = true := by
    unfold sgn; split
    · exact ⟨43, _, rfl, rfl⟩
    · exact ⟨45, _, rfl, rfl⟩
  rw [hx]
  have : ∀ l : List UInt8, l.all (fun c => !isSg c) = true → (l ++ x :: r).takeWhile (fun c => !isSg c) = l := by
    intro l
    induction l with
    | nil => intro _; simp [hs]
    | cons a l ih => intro ha; simp only [List.all_cons, Bool.and_eq_true] at ha; simp [ha.1, ih ha.2]
  rw [this _ hk]

/-- What the program's steps makes of a word, if all its bytes are ASCII. -/
def pStep (w : List UInt8) : Sp :=
  if cutAt w = w.length then ⟨⟨#[]⟩, 0⟩
  else match Lib.parseIntB 64 (w.drop (cutAt w)) with
    | .ok v => ⟨⟨(w.take (cutAt w)).toArray⟩, v⟩
    | _ => ⟨⟨#[]⟩, 0⟩
theorem sgn_ne (v : Int) : sgn v ≠ [] := by unfold sgn; split <;> simp
theorem pStep_spW {p : Sp} (h : stOk p = true) : pStep (spW p) = p := by
  obtain ⟨h1, h2, h3⟩ := cutAt_spW h
  obtain ⟨_, _, h5, h6⟩ := stOk_parts h
  have hl : ¬ cutAt (spW p) = (spW p).length := by
    rw [h1]
    have : (spW p).length = p.k.data.toList.length + (sgn p.v).length := by unfold spW; simp
    have := List.length_pos_iff.2 (sgn_ne p.v)
    omega
  unfold pStep
  rw [if_neg hl, h1, h2, h3, parseIntB_sgn h5 h6]
/-- What steps makes of a word, whatever its bytes are. -/
def StepRel (w : List UInt8) (p : Sp) : Prop := (∀ c ∈ w, c.toNat < 128) → p = pStep w
def StepsRel (ws : List (List UInt8)) (l : List Sp) : Prop := l.length = ws.length ∧ ∀ (i : Nat) w p, ws[i]? = some w → l[i]? = some p → StepRel w p
theorem steps_rel {s l : List Sp} (ho : ∀ p ∈ s, stOk p = true) (h : StepsRel (s.map spW) l) : l = s := by
  apply List.ext_getElem?
  intro i
  cases hs : s[i]? with
  | none =>
    rw [List.getElem?_eq_none_iff] at hs ⊢
    have := h.1; rw [List.length_map] at this; omega
  | some p =>
    have hi := (List.getElem?_eq_some_iff.1 hs).1
    have hl : i < l.length := by have := h.1; rw [List.length_map] at this; omega
    have hq := List.getElem?_eq_getElem hl
    generalize l[i] = q at hq
    have hp := ho p (List.mem_of_getElem? hs)
    have hw : (s.map spW)[i]? = some (spW p) := by rw [List.getElem?_map, hs]; rfl
    rw [hq, h.2 i _ q hw hq (fun c hc => (spW_mem hp hc).2), pStep_spW hp]

/-- The reference's words, and its numbers. -/
def wGo (cur : List UInt8) : List UInt8 → List (List UInt8)
  | [] => [cur]
  | c :: l => if c = 32 then cur :: wGo [] l else wGo (cur ++ [c]) l
def wordsR (s : List UInt8) : List (List UInt8) := (wGo [] s).take 20
theorem wGo_word : ∀ {w : List UInt8} (cur r : List UInt8), (32 : UInt8) ∉ w → wGo cur (w ++ 32 :: r) = (cur ++ w) :: wGo [] r
  | [], cur, r, _ => by simp [wGo]
  | a :: w, cur, r, h => by
    have h1 : ¬ a = 32 := fun e => h (by simp [e])
    have h2 := wGo_word (w := w) (cur ++ [a]) r (fun e => h (List.mem_cons_of_mem _ e))
    show wGo cur (a :: (w ++ 32 :: r)) = _
    rw [wGo, if_neg h1, h2]
    simp
theorem wGo_last : ∀ {w : List UInt8} (cur : List UInt8), (32 : UInt8) ∉ w → wGo cur w = [cur ++ w]
  | [], cur, _ => by simp [wGo]
  | a :: w, cur, h => by
    have h1 : ¬ a = 32 := fun e => h (by simp [e])
    have h2 := wGo_last (w := w) (cur ++ [a]) (fun e => h (List.mem_cons_of_mem _ e))
    rw [wGo, if_neg h1, h2]
    simp
theorem wGo_join : ∀ (ws : List (List UInt8)), ws ≠ [] → (∀ w ∈ ws, (32 : UInt8) ∉ w) → wGo [] (joinW ws) = ws
  | [], h, _ => absurd rfl h
  | [a], _, h => by rw [joinW, wGo_last [] (h a (by simp))]; rfl
  | a :: b :: l, _, h => by
    rw [joinW, wGo_word [] _ (h a (by simp)), wGo_join (b :: l) (by simp) (fun w hw => h w (by simp only [List.mem_cons] at hw ⊢; exact Or.inr hw))]
    rfl
theorem wordsR_text {d : Dv} (h : defOk d) : wordsR (textD d) = wordsD d := by
  unfold wordsR textD
  rw [wGo_join _ (by simp [wordsD]) (fun w hw => wordsD_no h hw)]
  have h2 := wordsD_len d
  have h3 := h.2.2.2.2.2.2.1
  exact List.take_of_length_le (by omega)
def numGo (n : Nat) : List UInt8 → Nat
  | [] => n
  | c :: l => if n ≤ 115292150460684697 then (if isDig c then numGo (10 * n + (c.toNat - 48)) l else numGo n l) else n
def numR (l : List UInt8) : Nat := numGo 0 l
theorem numGo_dv : ∀ (ds : List UInt8) (acc : Nat), ds.all isDig = true → dvF acc ds ≤ 1152921504606846976 → numGo acc ds = dvF acc ds
  | [], _, _, _ => rfl
  | c :: r, acc, h, hv => by
    simp only [List.all_cons, Bool.and_eq_true] at h
    have hge : ∀ (l : List UInt8) (a : Nat), a ≤ dvF a l := by
      intro l
      induction l with
      | nil => intro a; exact Nat.le_refl _
      | cons x l ih => intro a; exact Nat.le_trans (by omega) (ih (a * 10 + (x.toNat - 48)))
    have e : dvF acc (c :: r) = dvF (acc * 10 + (c.toNat - 48)) r := rfl
    rw [e] at hv ⊢
    have := hge r (acc * 10 + (c.toNat - 48))
    rw [numGo, if_pos (by omega), if_pos h.1, Nat.mul_comm 10]
    exact numGo_dv r _ h.2 hv
theorem numR_dgs {a : Int} (h : 0 ≤ a) (h2 : a ≤ 1152921504606846976) : (numR (dgs a) : Int) = a := by
  have hv := dgs_dv h
  have := numGo_dv (dgs a) 0 (dgs_all a).1 (by change dv (dgs a) ≤ _; omega)
  unfold numR
  rw [this]
  exact hv
/-- What the reference makes of a word that has a sign. -/
def rStep (w : List UInt8) : Sp :=
  ⟨⟨(w.take (cutAt w)).toArray⟩, if w[cutAt w]? = some 45 then -(numR (w.drop (cutAt w + 1)) : Int) else numR (w.drop (cutAt w + 1))⟩
theorem rStep_spW {p : Sp} (h : stOk p = true) : cutAt (spW p) < (spW p).length ∧ rStep (spW p) = p := by
  obtain ⟨h1, h2, h3⟩ := cutAt_spW h
  obtain ⟨_, h4, h5, h6⟩ := stOk_parts h
  have hs := List.length_pos_iff.2 (sgn_ne p.v)
  have hl : (spW p).length = p.k.data.toList.length + (sgn p.v).length := by unfold spW; simp
  refine ⟨by omega, ?_⟩
  have hd : (spW p).drop (p.k.data.toList.length + 1) = (sgn p.v).drop 1 := by rw [← h3, List.drop_drop]
  have hg : (spW p)[p.k.data.toList.length]? = (sgn p.v)[0]? := by rw [← h3, List.getElem?_drop, Nat.add_zero]
  unfold rStep
  rw [h1, h2, hd, hg]
  obtain ⟨k, v⟩ := p
  simp only [Sp.mk.injEq, true_and]
  dsimp only at h4 h5 h6
  unfold sgn
  split
  · have := numR_dgs (a := v) (by omega) (by omega)
    simp [this]
  · have := numR_dgs (a := -v) (by omega) (by omega)
    simp [this]
/-- What reading a text answers. -/
def ParR (s : List UInt8) (d : Dv) (e : Int) : Prop := (e = 0 ∧ defOk d ∧ textD d = s) ∨ (e = 10 ∧ d = zeroD ∧ ∀ d0, defOk d0 → textD d0 ≠ s)
theorem sgn_inj {a b : Int} (ha1 : -1152921504606846976 ≤ a) (ha2 : a ≤ 1152921504606846976) (hb1 : -1152921504606846976 ≤ b) (hb2 : b ≤ 1152921504606846976) (h : sgn a = sgn b) : a = b := by
  have h1 := parseIntB_sgn ha1 ha2
  rw [h, parseIntB_sgn hb1 hb2] at h1
  injection h1 with h1
  exact h1.symm
theorem textD_inj {d d' : Dv} (h : defOk d) (h' : defOk d') (e : textD d = textD d') : d = d' := by
  have hw : wordsD d = wordsD d' := by rw [← wordsR_text h, e, wordsR_text h']
  unfold wordsD at hw
  simp only [List.cons.injEq] at hw
  obtain ⟨h1, h2, h3, h4⟩ := hw
  have e2 := atoiAll_dgs h.2.1 (by have := h.2.2.1; omega)
  rw [h2, atoiAll_dgs h'.2.1 (by have := h'.2.2.1; omega)] at e2
  have e3 := atoiAll_dgs h.2.2.2.1 (by have := h.2.2.2.2.1; omega)
  rw [h3, atoiAll_dgs h'.2.2.2.1 (by have := h'.2.2.2.2.1; omega)] at e3
  have e4 : d.s = d'.s := by
    have a : (d.s.map spW).map pStep = d.s := by
      rw [List.map_map]
      conv => rhs; rw [← List.map_id d.s]
      exact List.map_congr_left fun p hp => pStep_spW (h.2.2.2.2.2.2.2.all hp)
    have b : (d'.s.map spW).map pStep = d'.s := by
      rw [List.map_map]
      conv => rhs; rw [← List.map_id d'.s]
      exact List.map_congr_left fun p hp => pStep_spW (h'.2.2.2.2.2.2.2.all hp)
    rw [← a, h4, b]
  injection e2 with e2
  injection e3 with e3
  obtain ⟨n, r, dl, s⟩ := d
  obtain ⟨n', r', dl', s'⟩ := d'
  dsimp only at h1 e2 e3 e4
  have e1 : n = n' := by rw [← ba_eta n, h1, ba_eta]
  rw [e1, e2, e3, e4]
theorem ParR.same {b : List UInt8} {d d' : Dv} {e e' : Int} (h : ParR b d e) (h' : ParR b d' e') : d = d' ∧ e = e' := by
  rcases h with ⟨rfl, h1, h2⟩ | ⟨rfl, rfl, h2⟩ <;> rcases h' with ⟨rfl, h3, h4⟩ | ⟨rfl, rfl, h4⟩
  · exact ⟨textD_inj h1 h3 (h2.trans h4.symm), rfl⟩
  · exact absurd h2 (h4 d h1)
  · exact absurd h4 (h2 d' h3)
  · exact ⟨rfl, rfl⟩
end Go.Proofs.YtgeljnjcpkmlmaaGreatDoor
