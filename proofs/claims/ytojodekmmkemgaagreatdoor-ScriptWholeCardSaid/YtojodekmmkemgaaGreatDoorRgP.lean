/- What a text is read as, as a range, by the program and by the reference; memory that lay stays. Conditions: the text is short; the types' shapes lie as the program's start lays them. -/
import Derived.Test.YtojodekmmkemgaaGreatDoorCmRng
import Derived.Test.YtojodekmmkemgaaGreatDoorPlS
import Derived.WalkSmall
import Derived.Deep.Draws
import Derived.Handy
namespace Go.Proofs.YtojodekmmkemgaaGreatDoor.Rg
section
open Go.RowKit

theorem shaped_below {P : Program} {w w' : World} (h : w.ShapedOpen P) (hb : Below w.heap.size w w') : w'.ShapedOpen P := h.keptBut (hb.frame (fun _ => False)) (fun _ h => h.elim)

theorem b_drewN {B : Nat} {a w : World} (h : Below B a w) (q : Nat) : Below B a (w.drewN q) := ⟨h.os, h.tape, h.output, h.size, h.block⟩

/-- The parts that a text is cut into. -/
def inner (l : List UInt8) : List UInt8 := Lib.trimSuffix (Lib.trimPrefix l [91]) [41]
def cutF (l : List UInt8) : List UInt8 := (Lib.cut (inner l) [44]).1
def cutT (l : List UInt8) : List UInt8 := (Lib.cut (inner l) [44]).2.1
/-- A text is that of a range. -/
def isTxt (l : List UInt8) : Bool := Lib.hasPrefix l [91] && (Lib.hasSuffix (Lib.trimPrefix l [91]) [41] && ((Lib.cut (inner l) [44]).2.2 && okR ⟨(cutF l).toArray⟩ ⟨(cutT l).toArray⟩))
def parseV (l : List UInt8) : Value := .tuple #[if isTxt l then .agg #[.string ⟨(cutF l).toArray⟩, .string ⟨(cutT l).toArray⟩] else .agg #[.string ⟨#[]⟩, .string ⟨#[]⟩], .int .i64 (if isTxt l then 0 else 10)]

theorem trimPre_le (l p : List UInt8) : (Lib.trimPrefix l p).length ≤ l.length := by
  unfold Lib.trimPrefix
  split
  · simp
  · exact Nat.le_refl _
theorem trimSuf_le (l p : List UInt8) : (Lib.trimSuffix l p).length ≤ l.length := by
  unfold Lib.trimSuffix
  split
  · rw [List.length_take]; omega
  · exact Nat.le_refl _
theorem cut_le (l p : List UInt8) : (Lib.cut l p).1.length ≤ l.length ∧ (Lib.cut l p).2.1.length ≤ l.length := by
  unfold Lib.cut
  split
  · refine ⟨?_, ?_⟩
    · show (List.take _ _).length ≤ _
      rw [List.length_take]; omega
    · show (List.drop _ _).length ≤ _
      rw [List.length_drop]; omega
  · exact ⟨Nat.le_refl _, Nat.zero_le _⟩

set_option maxRecDepth 100000 in
set_option maxHeartbeats 4000000 in
theorem parse_any (s : ByteArray) (w : World) (hs : s.size ≤ 1000000) (hsh : w.ShapedOpen Tryz.prog) :
    Calls Tryz.prog 105 #[.string s] w fun e w' => e = .returned (parseV s.data.toList) ∧ Below w.heap.size w w' := by
  have hl : s.data.toList.length = s.size := by rw [← Lib.size_eq]
  have R1 := Whole.new w 29 #[.string ⟨#[]⟩, .string ⟨#[]⟩]
  have b1 := (Below.refl w.heap.size w).alloc (Nat.le_refl _) (.cells #[.string ⟨#[]⟩, .string ⟨#[]⟩] 29)
  have C1 := fun W => Tryz.strings_CutPrefix s ⟨#[91]⟩ W
  have C2 := fun W => Tryz.strings_CutSuffix ⟨(Lib.trimPrefix s.data.toList [91]).toArray⟩ ⟨#[41]⟩ W (by have := trimPre_le s.data.toList [91]; rw [Lib.size_eq]; simp; omega)
  have C3 := fun W hW => Tryz.strings_Cut_shaped ⟨(inner s.data.toList).toArray⟩ ⟨#[44]⟩ W hW (by have := trimPre_le s.data.toList [91]; have := trimSuf_le (Lib.trimPrefix s.data.toList [91]) [41]; rw [Lib.size_eq]; simp [inner]; omega)
  have hA : (cutF s.data.toList).length ≤ s.size := by have := trimPre_le s.data.toList [91]; have := trimSuf_le (Lib.trimPrefix s.data.toList [91]) [41]; have := (cut_le (inner s.data.toList) [44]).1; unfold cutF; unfold inner at *; omega
  have hB : (cutT s.data.toList).length ≤ s.size := by have := trimPre_le s.data.toList [91]; have := trimSuf_le (Lib.trimPrefix s.data.toList [91]) [41]; have := (cut_le (inner s.data.toList) [44]).2; unfold cutT; unfold inner at *; omega
  have C4 := fun W => check_any ⟨(cutF s.data.toList).toArray⟩ ⟨(cutT s.data.toList).toArray⟩ W (by rw [Lib.size_eq]; simp; omega) (by rw [Lib.size_eq]; simp; omega)
  have S1 := Lib.hid (shaped_below hsh b1)
  have hq : parseV s.data.toList = .tuple #[if (Lib.hasPrefix s.data.toList [91] && (Lib.hasSuffix (Lib.trimPrefix s.data.toList [91]) [41] && ((Lib.cut (inner s.data.toList) [44]).2.2 && okR ⟨(cutF s.data.toList).toArray⟩ ⟨(cutT s.data.toList).toArray⟩))) = true then .agg #[.string ⟨(cutF s.data.toList).toArray⟩, .string ⟨(cutT s.data.toList).toArray⟩] else .agg #[.string ⟨#[]⟩, .string ⟨#[]⟩], .int .i64 (if (Lib.hasPrefix s.data.toList [91] && (Lib.hasSuffix (Lib.trimPrefix s.data.toList [91]) [41] && ((Lib.cut (inner s.data.toList) [44]).2.2 && okR ⟨(cutF s.data.toList).toArray⟩ ⟨(cutT s.data.toList).toArray⟩))) = true then 0 else 10)] := rfl
  change ∀ W, Calls Tryz.prog 135 #[.string s, .string ⟨#[91]⟩] W fun e w' => e = .returned (.tuple #[.string ⟨(Lib.trimPrefix s.data.toList [91]).toArray⟩, .bool (Lib.hasPrefix s.data.toList [91])]) ∧ w' = W at C1
  change ∀ W, Calls Tryz.prog 136 #[.string ⟨(Lib.trimPrefix s.data.toList [91]).toArray⟩, .string ⟨#[41]⟩] W fun e w' => e = .returned (.tuple #[.string ⟨(inner s.data.toList).toArray⟩, .bool (Lib.hasSuffix (Lib.trimPrefix s.data.toList [91]) [41])]) ∧ w' = W at C2
  change ∀ W, W.ShapedOpen Tryz.prog → Calls Tryz.prog 130 #[.string ⟨(inner s.data.toList).toArray⟩, .string ⟨#[44]⟩] W fun e w' => e = .returned (.tuple #[.string ⟨(cutF s.data.toList).toArray⟩, .string ⟨(cutT s.data.toList).toArray⟩, .bool (Lib.cut (inner s.data.toList) [44]).2.2]) ∧ ∃ n, w' = W.drewN n at C3
  generalize parseV s.data.toList = q at hq ⊢
  generalize (⟨(cutF s.data.toList).toArray⟩ : ByteArray) = cf at hq C3 C4
  generalize (⟨(cutT s.data.toList).toArray⟩ : ByteArray) = ct at hq C3 C4
  generalize (Lib.cut (inner s.data.toList) [44]).2.2 = p3 at hq C3
  generalize (⟨(inner s.data.toList).toArray⟩ : ByteArray) = s2 at C2 C3
  generalize Lib.hasSuffix (Lib.trimPrefix s.data.toList [91]) [41] = p2 at hq C2
  generalize (⟨(Lib.trimPrefix s.data.toList [91]).toArray⟩ : ByteArray) = s1 at C1 C2
  generalize Lib.hasPrefix s.data.toList [91] = p1 at hq C1
  generalize okR cf ct = p4 at hq C4
  clear hs hl hA hB hsh
  cases p1 <;> cases p2 <;> cases p3 <;> cases p4
  all_goals
    have HQ := Lib.hid hq
    clear hq
    simp only [ckI] at C4
    go_enter Tryz.func105, Tryz.ntmps105
    go_wp2_with fail
    refine (C1 _).mono ?_
    rintro e w1 ⟨rfl, rfl⟩
    go_wp2_with fail
    refine (C2 _).mono ?_
    rintro e w2 ⟨rfl, rfl⟩
    go_wp2_with fail
    refine (C3 _ S1.out).mono ?_
    rintro e w3 ⟨rfl, nd, rfl⟩
    have R2 := (show Whole ((w.alloc (.cells #[.string ⟨#[]⟩, .string ⟨#[]⟩] 29)).drewN nd) w.heap.size 29 #[.string ⟨#[]⟩, .string ⟨#[]⟩] from R1)
    have b2 := b_drewN b1 nd
    generalize (w.alloc (.cells #[.string ⟨#[]⟩, .string ⟨#[]⟩] 29)).drewN nd = w4 at R2 b2 ⊢
    have R3 := R2.alloc (.cells #[.string cf, .string ct] 29)
    have X3 := Whole.new w4 29 #[.string cf, .string ct]
    have b3 := b2.alloc b2.size (.cells #[.string cf, .string ct] 29)
    have r0 := R3.cell 0
    have r1 := R3.cell 1
    have s0 := R3.fr 0
    have s1 := R3.fr 1
    simp only [List.getElem?_toArray, List.getElem?_cons_succ, List.getElem?_cons_zero] at r0 r1
    clear R1 b1 S1 R2
    go_wp2_with fail
    first
    | (refine bodyPost_ret (v := q) (by rw [HQ.out]; simp [results, Tryz.results105, go_sem, r0, r1]) rfl ⟨rfl, ?_⟩
       exact (b3.setCell (by simp) _).setCell (by simp) _)
    | (refine (C4 _).mono ?_
       rintro e w5 ⟨rfl, hb⟩
       have R4 := R3.below hb R3.lt
       have X4 := X3.below hb X3.lt
       have b4 := b3.trans (hb.mono b3.size)
       have t0 := R4.cell 0
       have t1 := R4.cell 1
       have f0 := R4.fr 0
       have f1 := R4.fr 1
       have u0 := X4.cell 0
       have u1 := X4.cell 1
       simp only [List.getElem?_toArray, List.getElem?_cons_succ, List.getElem?_cons_zero] at t0 t1 u0 u1
       clear R3 X3 b3 hb r0 r1 s0 s1 R4 X4
       go_wp2_with fail
       refine bodyPost_ret (v := q) (by rw [HQ.out]; simp [results, Tryz.results105, go_sem, t0, t1]) rfl ⟨rfl, ?_⟩
       exact (b4.setCell (by simp) _).setCell (by simp) _)
end
section
open Go.RowKit
theorem ba_mk (f : ByteArray) : (⟨f.data.toList.toArray⟩ : ByteArray) = f := by
  obtain ⟨⟨l⟩⟩ := f
  rfl
/-- A range's text is read as this range. -/
theorem read_txt (f t : ByteArray) (h : okR f t = true) : isTxt (rtxt f.data.toList t.data.toList) = true ∧ cutF (rtxt f.data.toList t.data.toList) = f.data.toList ∧ cutT (rtxt f.data.toList t.data.toList) = t.data.toList := by
  have hp := pre_yes (f.data.toList ++ 44 :: (t.data.toList ++ [41]))
  have hs := suf_yes (f.data.toList ++ 44 :: t.data.toList)
  have hi : inner (rtxt f.data.toList t.data.toList) = f.data.toList ++ 44 :: t.data.toList := by
    unfold inner rtxt
    rw [hp.1, show f.data.toList ++ 44 :: (t.data.toList ++ [41]) = (f.data.toList ++ 44 :: t.data.toList) ++ [41] by simp, hs.1]
  have hc := cut_comma f.data.toList t.data.toList (okS_comma (okR_left h))
  have e1 : cutF (rtxt f.data.toList t.data.toList) = f.data.toList := by unfold cutF; rw [hi, hc]
  have e2 : cutT (rtxt f.data.toList t.data.toList) = t.data.toList := by unfold cutT; rw [hi, hc]
  refine ⟨?_, e1, e2⟩
  unfold isTxt
  rw [e1, e2, hi, hc, ba_mk, ba_mk, h]
  unfold rtxt
  rw [hp.1, hp.2, show f.data.toList ++ 44 :: (t.data.toList ++ [41]) = (f.data.toList ++ 44 :: t.data.toList) ++ [41] by simp, hs.2]
  rfl
theorem parseV_txt {f t x : ByteArray} (h : okR f t = true) (hx : x.data.toList = rtxt f.data.toList t.data.toList) : parseV x.data.toList = .tuple #[.agg #[.string f, .string t], .int .i64 0] := by
  obtain ⟨h1, h2, h3⟩ := read_txt f t h
  unfold parseV
  rw [hx, h1, h2, h3, ba_mk, ba_mk]
  rfl
/-- What is read has this text. -/
theorem txt_back {s : List UInt8} (h : isTxt s = true) : s = rtxt (cutF s) (cutT s) ∧ okR ⟨(cutF s).toArray⟩ ⟨(cutT s).toArray⟩ = true := by
  unfold isTxt at h
  simp only [Bool.and_eq_true] at h
  refine ⟨parse_law s (cutF s) (cutT s) h.1 h.2.1 ?_, h.2.2.2⟩
  have : (Lib.cut (inner s) [44]) = (cutF s, cutT s, true) := by
    unfold cutF cutT
    rw [← h.2.2.1]
  exact this
theorem drop_one (F R : List UInt8) : ((91 :: (F ++ 44 :: R)).drop 1).take F.length = F := by simp
theorem drop_two (F T : List UInt8) : ((91 :: (F ++ 44 :: (T ++ [41]))).drop (F.length + 2)).take T.length = T := by
  have h : (91 :: (F ++ 44 :: (T ++ [41]))).drop (F.length + 2) = T ++ [41] := by
    show (F ++ 44 :: (T ++ [41])).drop (F.length + 1) = _
    rw [List.drop_append]
    simp
  rw [h]
  simp
/-- Where the first comma of a range's text lies. -/
theorem comma_list {l F T : List UInt8} (hx : l = rtxt F T) (hf : (44 : UInt8) ∉ F) {j : Nat} (hj : j ≤ l.length) (hno : ∀ i (h : i < l.length), i < j → l[i]'h ≠ 44) (hat : j = l.length ∨ ∃ h : j < l.length, l[j]'h = 44) :
    j = F.length + 1 ∧ l.length = F.length + T.length + 3 := by
  have hlen : l.length = F.length + T.length + 3 := by rw [hx]; unfold rtxt; simp; omega
  refine ⟨?_, hlen⟩
  subst hx
  have hc : (rtxt F T)[F.length + 1]'(by omega) = 44 := by
    unfold rtxt
    rw [List.getElem_cons_succ, List.getElem_append_right (Nat.le_refl _)]
    simp
  have h1 : j ≤ F.length + 1 := by
    rcases Nat.lt_or_ge (F.length + 1) j with h | h
    · exact absurd hc (hno _ (by omega) h)
    · exact h
  rcases Nat.lt_or_ge j (F.length + 1) with h | h
  · rcases hat with h3 | ⟨h3, h4⟩
    · omega
    · match j, h, h3, h4 with
      | 0, _, h3, h4 =>
        have h6 : (rtxt F T)[0]'h3 = 91 := rfl
        rw [h6] at h4
        exact absurd h4 (by decide)
      | j + 1, h, h3, h4 =>
        have h6 : (rtxt F T)[j + 1]'h3 = (F ++ 44 :: (T ++ [41]))[j]'(by simp; omega) := rfl
        have h5 : F[j]'(by omega) = 44 := by
          rw [h6, List.getElem_append_left (by omega)] at h4
          exact h4
        exact absurd (h5 ▸ List.getElem_mem _) hf
  · omega
theorem comma_at {s f t : ByteArray} (hx : s.data.toList = rtxt f.data.toList t.data.toList) (hf : (44 : UInt8) ∉ f.data.toList) {j : Nat} (hj : j ≤ s.size) (hno : ∀ i (h : i < s.size), i < j → s[i]'h ≠ 44) (hat : j = s.size ∨ ∃ h : j < s.size, s[j]'h = 44) :
    j = f.size + 1 ∧ s.size = f.size + t.size + 3 ∧ s.extract 1 j = f ∧ s.extract (j + 1) (s.size - 1) = t := by
  obtain ⟨⟨l⟩⟩ := s
  obtain ⟨⟨F⟩⟩ := f
  obtain ⟨⟨T⟩⟩ := t
  obtain ⟨h1, h2⟩ := comma_list (l := l) (F := F) (T := T) hx hf hj hno hat
  have hx' : l = rtxt F T := hx
  have s1 : (ByteArray.mk F.toArray).size = F.length := Lib.size_mk _
  have s2 : (ByteArray.mk T.toArray).size = T.length := Lib.size_mk _
  have s3 : (ByteArray.mk l.toArray).size = l.length := Lib.size_mk _
  refine ⟨by rw [s1]; exact h1, by rw [s1, s2, s3]; exact h2, ?_, ?_⟩
  · rw [ByteArray.extract_mk, h1, hx', show F.length + 1 - 1 = F.length by omega]
    unfold rtxt
    rw [drop_one]
  · rw [ByteArray.extract_mk, s3, h2, h1, hx', show F.length + T.length + 3 - 1 - (F.length + 1 + 1) = T.length by omega]
    unfold rtxt
    rw [drop_two]
end
section
open Go.RowKit

theorem getB {s : ByteArray} {j : Nat} (h : j < s.size) : ((s[j]'h).toNat : Int) = 44 ↔ s[j]'h = 44 :=
  ⟨fun e => UInt8.toNat_inj.1 (by have : (44 : UInt8).toNat = 44 := rfl; omega), fun e => by rw [e]; rfl⟩

set_option maxRecDepth 100000 in
set_option maxHeartbeats 8000000 in
theorem refParse_any (s : ByteArray) (w : World) (hs : s.size ≤ 1000000) :
    Calls Tryz.prog 71 #[.string s] w fun e w' => e = .returned (parseV s.data.toList) ∧ Below w.heap.size w w' := by
  have R1 := Whole.new w 29 #[.string ⟨#[]⟩, .string ⟨#[]⟩]
  have b1 := (Below.refl w.heap.size w).alloc (Nat.le_refl _) (.cells #[.string ⟨#[]⟩, .string ⟨#[]⟩] 29)
  generalize hq : parseV s.data.toList = q
  have HQ := Lib.hid hq
  clear hq
  go_enter Tryz.func71, Tryz.ntmps71
  go_wp2_with fail
  go_loopw [4] (fun v wr => Below w.heap.size w wr ∧ Whole wr w.heap.size 29 #[.string ⟨#[]⟩, .string ⟨#[]⟩] ∧ ∃ j : Nat, j ≤ s.size ∧ v = .int .i64 j ∧ Hid (∀ i (h : i < s.size), i < j → s[i]'h ≠ 44)) (fun v _ => s.size - (intOf v).toNat)
  case atStart => exact ⟨b1, R1, 0, Nat.zero_le _, rfl, Lib.hid (fun _ _ h => absurd h (Nat.not_lt_zero _))⟩
  case round =>
    clear b1 R1
    obtain ⟨b2, R2, j, hj, rfl, hno⟩ := hrel
    by_cases hlt : j < s.size
    · by_cases hc : ((s[j]'hlt).toNat : Int) = 44
      · have hat : j = s.size ∨ ∃ h : j < s.size, s[j]'h = 44 := Or.inr ⟨hlt, (getB hlt).1 hc⟩
        have r0 := R2.cell 0
        have r1 := R2.cell 1
        have s0 := R2.fr 0
        have s1 := R2.fr 1
        simp only [List.getElem?_toArray, List.getElem?_cons_succ, List.getElem?_cons_zero] at r0 r1
        by_cases hr : 1 ≤ j ∧ j + 2 ≤ s.size
        · obtain ⟨hr1, hr2⟩ := hr
          obtain ⟨p1, hp1⟩ : ∃ p1, s.extract 1 j = p1 := ⟨_, rfl⟩
          obtain ⟨p2, hp2⟩ : ∃ p2, s.extract (j + 1) (s.size - 1) = p2 := ⟨_, rfl⟩
          have q1 : ∀ W : World, (Instr.slice 9 (.string s) (some (.int .i64 1)) (some (.int .i64 j)) none).run Tryz.prog W = .ok (.string p1) W := fun W => by
            rw [run_slice_string W 9 s .i64 .i64 1 j Tryz.underlying9 (by omega) (by omega) (by omega), ← hp1]
            rfl
          have q2 : ∀ W : World, (Instr.slice 9 (.string s) (some (.int .i64 (j + 1))) (some (.int .i64 (s.size - 1))) none).run Tryz.prog W = .ok (.string p2) W := fun W => by
            rw [run_slice_string W 9 s .i64 .i64 (j + 1) (s.size - 1) Tryz.underlying9 (by omega) (by omega) (by omega), ← hp2]
            congr 3 <;> omega
          have z1 : p1.size ≤ 9223372036854775807 := by rw [← hp1, ByteArray.size_extract]; omega
          have z2 : p2.size ≤ 9223372036854775807 := by rw [← hp2, ByteArray.size_extract]; omega
          have hyes : isTxt s.data.toList = true → okR p1 p2 = true ∧ parseV s.data.toList = .tuple #[.agg #[.string p1, .string p2], .int .i64 0] := fun h => by
            obtain ⟨h1, h2⟩ := txt_back h
            have h3 := comma_at (s := s) (f := ⟨(cutF s.data.toList).toArray⟩) (t := ⟨(cutT s.data.toList).toArray⟩) h1 (okS_comma (okR_left h2)) hj hno.out hat
            rw [hp1] at h3
            rw [hp2] at h3
            obtain ⟨_, _, h4, h5⟩ := h3
            refine ⟨by rw [h4, h5]; exact h2, ?_⟩
            rw [h4, h5]
            unfold parseV
            rw [h]
            rfl
          have hback : ∀ x : ByteArray, okR p1 p2 = true → x.data.toList = rtxt p1.data.toList p2.data.toList → isTxt s.data.toList = false → (x.toList == s.toList) = false := fun x hok hx hT => by
            rw [beq_eq_false_iff_ne]
            intro he
            rw [ByteArray.toList_eq, ByteArray.toList_eq] at he
            rw [← he, hx, (read_txt p1 p2 hok).1] at hT
            cases hT
          have hsame : ∀ x : ByteArray, x.data.toList = rtxt p1.data.toList p2.data.toList → isTxt s.data.toList = true → (x.toList == s.toList) = true := fun x hx hT => by
            obtain ⟨h1, h2⟩ := txt_back hT
            have h3 := comma_at (s := s) (f := ⟨(cutF s.data.toList).toArray⟩) (t := ⟨(cutT s.data.toList).toArray⟩) h1 (okS_comma (okR_left h2)) hj hno.out hat
            rw [hp1] at h3
            rw [hp2] at h3
            obtain ⟨_, _, h4, h5⟩ := h3
            rw [beq_iff_eq, ByteArray.toList_eq, ByteArray.toList_eq, hx, h4, h5]
            exact h1.symm
          have hnoV : isTxt s.data.toList = false → parseV s.data.toList = .tuple #[.agg #[.string ⟨#[]⟩, .string ⟨#[]⟩], .int .i64 10] := fun h => by unfold parseV; rw [h]; rfl
          have HY := Lib.hid hyes
          have HB := Lib.hid hback
          have HSM := Lib.hid hsame
          have HNV := Lib.hid hnoV
          clear hyes hback hsame hnoV hat hno
          have hc1 : ¬ (j : Int) < 1 := by omega
          have hc2 : ¬ (j : Int) > (s.size : Int) - 2 := by omega
          go_wp2_with fail
          clear hc
          go_region
          have R3 := R2.alloc (.cells #[.string p1, .string p2] 29)
          have X3 := Whole.new wr 29 #[.string p1, .string p2]
          have b3 := (b2.alloc b2.size (.cells #[.string p1, .string p2] 29)).drew
          replace R3 : Whole (wr.alloc (.cells #[.string p1, .string p2] 29)).drew w.heap.size 29 #[.string ⟨#[]⟩, .string ⟨#[]⟩] := R3
          replace X3 : Whole (wr.alloc (.cells #[.string p1, .string p2] 29)).drew wr.heap.size 29 #[.string p1, .string p2] := X3
          generalize (wr.alloc (.cells #[.string p1, .string p2] 29)).drew = w3 at R3 X3 b3 ⊢
          generalize wr.heap.size = L at X3 ⊢
          have x0 := X3.cell 0
          have x1 := X3.cell 1
          simp only [List.getElem?_toArray, List.getElem?_cons_succ, List.getElem?_cons_zero] at x0 x1
          clear r0 r1 s0 s1 R2 b2 q1 q2 hp1 hp2 hc1 hc2
          cases hok : okR p1 p2 with
          | false =>
            have hF : isTxt s.data.toList = false := by
              cases h : isTxt s.data.toList with
              | false => rfl
              | true => have := (HY.out h).1; rw [hok] at this; cases this
            have hqv : q = .tuple #[.agg #[.string ⟨#[]⟩, .string ⟨#[]⟩], .int .i64 10] := by rw [← HQ.out]; exact HNV.out hF
            have HV := Lib.hid hqv
            clear hqv HY HB HSM HNV HQ hF
            simp only [Exit.then]
            go_wp2_with fail
            refine (refText_no p1 p2 _ z1 z2 hok).mono ?_
            rintro e w4 ⟨rfl, hb⟩
            have R4 := R3.below hb R3.lt
            have b4 := b3.trans (hb.mono b3.size)
            have r0 := R4.cell 0
            have r1 := R4.cell 1
            have s0 := R4.fr 0
            have s1 := R4.fr 1
            simp only [List.getElem?_toArray, List.getElem?_cons_succ, List.getElem?_cons_zero] at r0 r1
            clear R3 X3 b3 hb x0 x1 R4
            go_wp2_with fail
            have hqv := HV.out
            refine bodyPost_ret (v := q) (by rw [hqv]; simp [results, Tryz.results71, go_sem, r0, r1]) rfl ⟨rfl, ?_⟩
            exact (b4.setCell (by simp) _).setCell (by simp) _
          | true =>
            simp only [Exit.then]
            go_wp2_with fail
            refine (refText_yes p1 p2 _ hok).mono ?_
            rintro e w4 ⟨⟨x, hx, rfl⟩, hb⟩
            have R4 := R3.below hb R3.lt
            have X4 := X3.below hb X3.lt
            have b4 := b3.trans (hb.mono b3.size)
            have r0 := R4.cell 0
            have r1 := R4.cell 1
            have s0 := R4.fr 0
            have s1 := R4.fr 1
            have y0 := X4.cell 0
            have y1 := X4.cell 1
            simp only [List.getElem?_toArray, List.getElem?_cons_succ, List.getElem?_cons_zero] at r0 r1 y0 y1
            clear R3 X3 b3 hb x0 x1 R4 X4
            cases hT : isTxt s.data.toList with
            | true =>
              have hqv : q = .tuple #[.agg #[.string p1, .string p2], .int .i64 0] := by rw [← HQ.out]; exact (HY.out hT).2
              have HV := Lib.hid hqv
              have hxs := HSM.out x hx hT
              clear hqv HY HB HSM HNV HQ
              go_wp2_with fail
              have hqv := HV.out
              refine bodyPost_ret (v := q) (by rw [hqv]; simp [results, Tryz.results71, go_sem, r0, r1]) rfl ⟨rfl, ?_⟩
              exact (b4.setCell (by simp) _).setCell (by simp) _
            | false =>
              have hqv : q = .tuple #[.agg #[.string ⟨#[]⟩, .string ⟨#[]⟩], .int .i64 10] := by rw [← HQ.out]; exact HNV.out hT
              have HV := Lib.hid hqv
              have hxs := HB.out x hok hx hT
              clear hqv HY HB HSM HNV HQ
              go_wp2_with fail
              have hqv := HV.out
              refine bodyPost_ret (v := q) (by rw [hqv]; simp [results, Tryz.results71, go_sem, r0, r1]) rfl ⟨rfl, ?_⟩
              exact (b4.setCell (by simp) _).setCell (by simp) _
        · have hF : isTxt s.data.toList = false := by
            cases h : isTxt s.data.toList with
            | false => rfl
            | true =>
              obtain ⟨h1, h2⟩ := txt_back h
              have h3 := comma_at (s := s) (f := ⟨(cutF s.data.toList).toArray⟩) (t := ⟨(cutT s.data.toList).toArray⟩) h1 (okS_comma (okR_left h2)) hj hno.out hat
              omega
          obtain rfl : q = .tuple #[.agg #[.string ⟨#[]⟩, .string ⟨#[]⟩], .int .i64 10] := by rw [← HQ.out]; unfold parseV; rw [hF]; rfl
          clear hat hno hF
          rcases Nat.lt_or_ge j 1 with h1 | h1
          · obtain rfl : j = 0 := by omega
            go_wp2_with fail
            refine bodyPost_ret (v := .tuple #[.agg #[.string ⟨#[]⟩, .string ⟨#[]⟩], .int .i64 10]) (by simp [results, Tryz.results71, go_sem, r0, r1]) rfl ⟨rfl, ?_⟩
            exact (b2.setCell (by simp) _).setCell (by simp) _
          · have hc1 : ¬ (j : Int) < 1 := by omega
            have hc2 : (j : Int) > (s.size : Int) - 2 := by omega
            go_wp2_with fail
            refine bodyPost_ret (v := .tuple #[.agg #[.string ⟨#[]⟩, .string ⟨#[]⟩], .int .i64 10]) (by simp [results, Tryz.results71, go_sem, r0, r1]) rfl ⟨rfl, ?_⟩
            exact (b2.setCell (by simp) _).setCell (by simp) _
      · have hno' := Lib.hid (show ∀ i (h : i < s.size), i < j + 1 → s[i]'h ≠ 44 from fun i h hi => by
          by_cases e : i = j
          · subst e; exact fun h2 => hc ((getB _).2 h2)
          · exact hno.out i h (by omega))
        go_wp2_with fail
        go_roundw
        case rel => exact ⟨b2, R2, j + 1, by omega, by go_num, hno'⟩
        case measure => simp [intOf]; omega
    · obtain rfl : j = s.size := by omega
      have r0 := R2.cell 0
      have r1 := R2.cell 1
      have s0 := R2.fr 0
      have s1 := R2.fr 1
      simp only [List.getElem?_toArray, List.getElem?_cons_succ, List.getElem?_cons_zero] at r0 r1
      have hF : isTxt s.data.toList = false := by
        cases h : isTxt s.data.toList with
        | false => rfl
        | true =>
          obtain ⟨h1, h2⟩ := txt_back h
          have h3 := comma_at (s := s) (f := ⟨(cutF s.data.toList).toArray⟩) (t := ⟨(cutT s.data.toList).toArray⟩) h1 (okS_comma (okR_left h2)) hj hno.out (Or.inl rfl)
          omega
      obtain rfl : q = .tuple #[.agg #[.string ⟨#[]⟩, .string ⟨#[]⟩], .int .i64 10] := by rw [← HQ.out]; unfold parseV; rw [hF]; rfl
      clear hno hF
      have hc2 : (s.size : Int) > (s.size : Int) - 2 := by omega
      rcases Nat.lt_or_ge s.size 1 with h1 | h1
      · have hc1 : (s.size : Int) < 1 := by omega
        go_wp2_with fail
        refine bodyPost_ret (v := .tuple #[.agg #[.string ⟨#[]⟩, .string ⟨#[]⟩], .int .i64 10]) (by simp [results, Tryz.results71, go_sem, r0, r1]) rfl ⟨rfl, ?_⟩
        exact (b2.setCell (by simp) _).setCell (by simp) _
      · have hc1 : ¬ (s.size : Int) < 1 := by omega
        go_wp2_with fail
        refine bodyPost_ret (v := .tuple #[.agg #[.string ⟨#[]⟩, .string ⟨#[]⟩], .int .i64 10]) (by simp [results, Tryz.results71, go_sem, r0, r1]) rfl ⟨rfl, ?_⟩
        exact (b2.setCell (by simp) _).setCell (by simp) _
/-- What reading answers, by the words of scripts. -/
theorem parseV_rel (s : List UInt8) : ∃ f t e, parseV s = .tuple #[.agg #[.string f, .string t], .int .i64 e] ∧ ParRg s f t e := by
  unfold parseV
  cases h : isTxt s with
  | true =>
    obtain ⟨h1, h2⟩ := txt_back h
    exact ⟨⟨(cutF s).toArray⟩, ⟨(cutT s).toArray⟩, 0, rfl, Or.inl ⟨rfl, h2, h1.symm⟩⟩
  | false => exact ⟨⟨#[]⟩, ⟨#[]⟩, 10, rfl, Or.inr ⟨by decide, rfl, rfl, fun f0 t0 h0 e => by rw [← e, (read_txt f0 t0 h0).1] at h; cases h⟩⟩
end
end Go.Proofs.YtojodekmmkemgaaGreatDoor.Rg
