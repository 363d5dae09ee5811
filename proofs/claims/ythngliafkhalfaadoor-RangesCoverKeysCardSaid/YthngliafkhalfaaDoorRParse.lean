/- What a text is read as, as a range; memory that lay stays. Conditions: the text is short; the types' shapes lie as the program's start lays them. -/
import Derived.Test.YthngliafkhalfaaDoorLess
import Derived.WalkSmall
import Derived.Deep.Draws
namespace Go.Proofs.YthngliafkhalfaaDoor
open Go.RowKit

theorem shaped_below {P : Program} {w w' : World} (h : w.ShapedOpen P) (hb : Below w.heap.size w w') : w'.ShapedOpen P := h.keptBut (hb.frame (fun _ => False)) (fun _ h => h.elim)

theorem b_drewN {B : Nat} {a w : World} (h : Below B a w) (q : Nat) : Below B a (w.drewN q) := ⟨h.os, h.tape, h.output, h.size, h.block⟩

/-- The parts that a text is cut into. -/
def inner (l : List UInt8) : List UInt8 := Lib.trimSuffix (Lib.trimPrefix l [91]) [41]
def cutF (l : List UInt8) : List UInt8 := (Lib.cut (inner l) [44]).1
def cutT (l : List UInt8) : List UInt8 := (Lib.cut (inner l) [44]).2.1
/-- A text is that of a range. -/
def isTxt (l : List UInt8) : Bool := Lib.hasPrefix l [91] && (Lib.hasSuffix (Lib.trimPrefix l [91]) [41] && ((Lib.cut (inner l) [44]).2.2 && okR ⟨(cutF l).toArray⟩ ⟨(cutT l).toArray⟩))
def parseV (l : List UInt8) : Value := .tuple #[if isTxt l then .agg #[.string ⟨(cutF l).toArray⟩, .string ⟨(cutT l).toArray⟩] else .agg #[.string ⟨#[]⟩, .string ⟨#[]⟩], .int .i64 (if isTxt l then 0 else 10)]

theorem trimPre_le (l p : List UInt8) : (Lib.trimPrefix l p).length ≤ l.length := by
  unfold Lib.trimPrefix
  split
  · simp
  · exact Nat.le_refl _
theorem trimSuf_le (l p : List UInt8) : (Lib.trimSuffix l p).length ≤ l.length := by
  unfold Lib.trimSuffix
  split
  · rw [List.length_take]; omega
  · exact Nat.le_refl _
theorem cut_le (l p : List UInt8) : (Lib.cut l p).1.length ≤ l.length ∧ (Lib.cut l p).2.1.length ≤ l.length := by
  unfold Lib.cut
  split
  · refine ⟨?_, ?_⟩
    · show (List.take _ _).length ≤ _
      rw [List.length_take]; omega
    · show (List.drop _ _).length ≤ _
      rw [List.length_drop]; omega
  · exact ⟨Nat.le_refl _, Nat.zero_le _⟩

set_option maxRecDepth 100000 in
set_option maxHeartbeats 4000000 in
theorem parse_any (s : ByteArray) (w : World) (hs : s.size ≤ 1000000) (hsh : w.ShapedOpen Tryd.prog) :
    Calls Tryd.prog 20 #[.string s] w fun e w' => e = .returned (parseV s.data.toList) ∧ Below w.heap.size w w' := by
  have hl : s.data.toList.length = s.size := by rw [← Lib.size_eq]
  have R1 := Whole.new w 23 #[.string ⟨#[]⟩, .string ⟨#[]⟩]
  have b1 := (Below.refl w.heap.size w).alloc (Nat.le_refl _) (.cells #[.string ⟨#[]⟩, .string ⟨#[]⟩] 23)
  have C1 := fun W => Tryd.strings_CutPrefix s ⟨#[91]⟩ W
  have C2 := fun W => Tryd.strings_CutSuffix ⟨(Lib.trimPrefix s.data.toList [91]).toArray⟩ ⟨#[41]⟩ W (by have := trimPre_le s.data.toList [91]; rw [Lib.size_eq]; simp; omega)
  have C3 := fun W hW => Tryd.strings_Cut_shaped ⟨(inner s.data.toList).toArray⟩ ⟨#[44]⟩ W hW (by have := trimPre_le s.data.toList [91]; have := trimSuf_le (Lib.trimPrefix s.data.toList [91]) [41]; rw [Lib.size_eq]; simp [inner]; omega)
  have hA : (cutF s.data.toList).length ≤ s.size := by have := trimPre_le s.data.toList [91]; have := trimSuf_le (Lib.trimPrefix s.data.toList [91]) [41]; have := (cut_le (inner s.data.toList) [44]).1; unfold cutF; unfold inner at *; omega
  have hB : (cutT s.data.toList).length ≤ s.size := by have := trimPre_le s.data.toList [91]; have := trimSuf_le (Lib.trimPrefix s.data.toList [91]) [41]; have := (cut_le (inner s.data.toList) [44]).2; unfold cutT; unfold inner at *; omega
  have C4 := fun W => check_any ⟨(cutF s.data.toList).toArray⟩ ⟨(cutT s.data.toList).toArray⟩ W (by rw [Lib.size_eq]; simp; omega) (by rw [Lib.size_eq]; simp; omega)
  have S1 := Lib.hid (shaped_below hsh b1)
  have hq : parseV s.data.toList = .tuple #[if (Lib.hasPrefix s.data.toList [91] && (Lib.hasSuffix (Lib.trimPrefix s.data.toList [91]) [41] && ((Lib.cut (inner s.data.toList) [44]).2.2 && okR ⟨(cutF s.data.toList).toArray⟩ ⟨(cutT s.data.toList).toArray⟩))) = true then .agg #[.string ⟨(cutF s.data.toList).toArray⟩, .string ⟨(cutT s.data.toList).toArray⟩] else .agg #[.string ⟨#[]⟩, .string ⟨#[]⟩], .int .i64 (if (Lib.hasPrefix s.data.toList [91] && (Lib.hasSuffix (Lib.trimPrefix s.data.toList [91]) [41] && ((Lib.cut (inner s.data.toList) [44]).2.2 && okR ⟨(cutF s.data.toList).toArray⟩ ⟨(cutT s.data.toList).toArray⟩))) = true then 0 else 10)] := rfl
  change ∀ W, Calls Tryd.prog 37 #[.string s, .string ⟨#[91]⟩] W fun e w' => e = .returned (.tuple #[.string ⟨(Lib.trimPrefix s.data.toList [91]).toArray⟩, .bool (Lib.hasPrefix s.data.toList [91])]) ∧ w' = W at C1
  change ∀ W, Calls Tryd.prog 38 #[.string ⟨(Lib.trimPrefix s.data.toList [91]).toArray⟩, .string ⟨#[41]⟩] W fun e w' => e = .returned (.tuple #[.string ⟨(inner s.data.toList).toArray⟩, .bool (Lib.hasSuffix (Lib.trimPrefix s.data.toList [91]) [41])]) ∧ w' = W at C2
  change ∀ W, W.ShapedOpen Tryd.prog → Calls Tryd.prog 39 #[.string ⟨(inner s.data.toList).toArray⟩, .string ⟨#[44]⟩] W fun e w' => e = .returned (.tuple #[.string ⟨(cutF s.data.toList).toArray⟩, .string ⟨(cutT s.data.toList).toArray⟩, .bool (Lib.cut (inner s.data.toList) [44]).2.2]) ∧ ∃ n, w' = W.drewN n at C3
  generalize parseV s.data.toList = q at hq ⊢
  generalize (⟨(cutF s.data.toList).toArray⟩ : ByteArray) = cf at hq C3 C4
  generalize (⟨(cutT s.data.toList).toArray⟩ : ByteArray) = ct at hq C3 C4
  generalize (Lib.cut (inner s.data.toList) [44]).2.2 = p3 at hq C3
  generalize (⟨(inner s.data.toList).toArray⟩ : ByteArray) = s2 at C2 C3
  generalize Lib.hasSuffix (Lib.trimPrefix s.data.toList [91]) [41] = p2 at hq C2
  generalize (⟨(Lib.trimPrefix s.data.toList [91]).toArray⟩ : ByteArray) = s1 at C1 C2
  generalize Lib.hasPrefix s.data.toList [91] = p1 at hq C1
  generalize okR cf ct = p4 at hq C4
  clear hs hl hA hB hsh
  cases p1 <;> cases p2 <;> cases p3 <;> cases p4
  all_goals
    have HQ := Lib.hid hq
    clear hq
    simp only [ckI] at C4
    go_enter Tryd.func20, Tryd.ntmps20
    go_wp2_with fail
    refine (C1 _).mono ?_
    rintro e w1 ⟨rfl, rfl⟩
    go_wp2_with fail
    refine (C2 _).mono ?_
    rintro e w2 ⟨rfl, rfl⟩
    go_wp2_with fail
    refine (C3 _ S1.out).mono ?_
    rintro e w3 ⟨rfl, nd, rfl⟩
    have R2 := (show Whole ((w.alloc (.cells #[.string ⟨#[]⟩, .string ⟨#[]⟩] 23)).drewN nd) w.heap.size 23 #[.string ⟨#[]⟩, .string ⟨#[]⟩] from R1)
    have b2 := b_drewN b1 nd
    generalize (w.alloc (.cells #[.string ⟨#[]⟩, .string ⟨#[]⟩] 23)).drewN nd = w4 at R2 b2 ⊢
    have R3 := R2.alloc (.cells #[.string cf, .string ct] 23)
    have X3 := Whole.new w4 23 #[.string cf, .string ct]
    have b3 := b2.alloc b2.size (.cells #[.string cf, .string ct] 23)
    have r0 := R3.cell 0
    have r1 := R3.cell 1
    have s0 := R3.fr 0
    have s1 := R3.fr 1
    simp only [List.getElem?_toArray, List.getElem?_cons_succ, List.getElem?_cons_zero] at r0 r1
    clear R1 b1 S1 R2
    go_wp2_with fail
    first
    | (refine bodyPost_ret (v := q) (by rw [HQ.out]; simp [results, Tryd.results20, go_sem, r0, r1]) rfl ⟨rfl, ?_⟩
       exact (b3.setCell (by simp) _).setCell (by simp) _)
    | (refine (C4 _).mono ?_
       rintro e w5 ⟨rfl, hb⟩
       have R4 := R3.below hb R3.lt
       have X4 := X3.below hb X3.lt
       have b4 := b3.trans (hb.mono b3.size)
       have t0 := R4.cell 0
       have t1 := R4.cell 1
       have f0 := R4.fr 0
       have f1 := R4.fr 1
       have u0 := X4.cell 0
       have u1 := X4.cell 1
       simp only [List.getElem?_toArray, List.getElem?_cons_succ, List.getElem?_cons_zero] at t0 t1 u0 u1
       clear R3 X3 b3 hb r0 r1 s0 s1 R4 X4
       go_wp2_with fail
       refine bodyPost_ret (v := q) (by rw [HQ.out]; simp [results, Tryd.results20, go_sem, t0, t1]) rfl ⟨rfl, ?_⟩
       exact (b4.setCell (by simp) _).setCell (by simp) _)
end Go.Proofs.YthngliafkhalfaaDoor
