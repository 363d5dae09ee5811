/- ident.Name and the reference's Name return whether the bytes are a name; what lay in memory stays. Condition: the string is no longer than an int can say. -/
import Derived.Test.YtgeljnjcpkmlmaaGreatDoorShelf
import Derived.Test.YtgeljnjcpkmlmaaGreatDoorPlA
import Derived.WalkKit
import Derived.WalkSpells
import Derived.WalkLawsBesides
import Derived.Lib.Hide
namespace Go.Proofs.YtgeljnjcpkmlmaaGreatDoor
open Go.RowKit Go.Shelf Go.Lib

set_option maxHeartbeats 400000 in
theorem name1_any (r : Nat) (w : World) : Calls Tryz.prog 90 #[.int .i32 r] w fun e w' => e = .returned (.bool (decide (122 < r))) ∧ w = w' := by
  go_enter Tryz.func90, Tryz.ntmps90
  go_wp2
  go_ret
  exact ⟨by congr 2; simp; omega, rfl⟩

theorem trim_laid (s : ByteArray) (w : World) (hs : s.size ≤ 9223372036854775807) :
    Calls Tryz.prog 88 #[.string s, .string ⟨#[97, 98, 99, 100, 101, 102, 103, 104, 105, 106, 107, 108, 109, 110, 111, 112, 113, 114, 115, 116, 117, 118, 119, 120, 121, 122, 48, 49, 50, 51, 52, 53, 54, 55, 56, 57]⟩] w
      fun e w' => e = .returned (.string ⟨(Lib.trimS s.data.toList alnum).toArray⟩) ∧ Below w.heap.size w w' :=
  Any.strings_Trim_laid Tryz.lays160 (by kernel_rfl) s _ w hs (by decide) (ascii_of_all (by decide))

theorem name1_grows (w : World) : PredGrows Tryz.prog 90 #[] (fun r => decide (122 < r)) w := by
  intro W x _ _
  refine (name1_any x W).mono ?_
  rintro e w' ⟨rfl, rfl⟩
  exact ⟨rfl, Below.refl _ _⟩

theorem contains1 (s : ByteArray) (w : World) (h : s.data.toList.all nmB = true) :
    Calls Tryz.prog 89 #[.string s, .func (.func 90) #[] #[]] w fun e w' => e = .returned (.bool false) ∧ Below w.heap.size w w' := by
  refine (Tryz.strings_ContainsFunc_grows 90 #[] (enters_of Tryz.func90 (by kernel_rfl) rfl) _ s w (name1_grows w)).mono ?_
  rintro e w' ⟨rfl, hb⟩
  refine ⟨?_, hb⟩
  unfold Lib.idxFunc
  rw [idx_name s h]
  rfl

set_option maxHeartbeats 400000 in
theorem name_any (s : ByteArray) (w : World) (hs : s.size ≤ 9223372036854775807) :
    Calls Tryz.prog 50 #[.string s] w fun e w' => e = .returned (.bool (isName s.data.toList)) ∧ Below w.heap.size w w' := by
  have hl : s.data.toList.length = s.size := by rw [← Lib.size_eq]
  by_cases h1 : 1 ≤ s.size
  · by_cases h2 : s.size ≤ 16
    · by_cases h3 : s.data.toList.all nmB = true
      · have hT := trim_laid s w hs
        have he : (Lib.trimS s.data.toList alnum).isEmpty = true := by rw [trim_alnum]; exact h3
        have he' : Lib.trimS s.data.toList alnum = [] := List.isEmpty_iff.1 he
        rw [he'] at hT
        have hfin : isName s.data.toList = true := isName_yes hl h1 h2 h3
        have HF := Lib.hid hfin
        have H3 := Lib.hid h3
        clear hfin h3 he he' hl
        go_enter Tryz.func50, Tryz.ntmps50
        go_wp2_with (first
          | (go_at_call 88; refine hT.mono ?_; rintro e w1 ⟨rfl, hb1⟩)
          | (go_at_call 89; refine (contains1 s _ H3.out).mono ?_; rintro e w2 ⟨rfl, hb2⟩))
        go_ret
        exact ⟨by rw [HF.out]; rfl, hb1.trans (hb2.mono hb1.size)⟩
      · have hT := trim_laid s w hs
        have he : (Lib.trimS s.data.toList alnum).isEmpty = false := by rw [trim_alnum]; simpa using h3
        have hfin : isName s.data.toList = false := isName_no hl (fun h => h3 h.2.2)
        have HF := Lib.hid hfin
        generalize Lib.trimS s.data.toList alnum = t at hT he
        clear hfin h3 hl
        go_enter Tryz.func50, Tryz.ntmps50
        go_wp2_with (first
          | (go_at_call 88; refine hT.mono ?_; rintro e w1 ⟨rfl, hb1⟩)
          | (go_at_call 89; fail))
        go_ret
        exact ⟨by rw [HF.out]; rfl, hb1⟩
    · have hfin : isName s.data.toList = false := isName_no hl (fun h => h2 h.2.1)
      have HF := Lib.hid hfin
      clear hfin hl
      go_enter Tryz.func50, Tryz.ntmps50
      go_wp2
      go_ret
      exact ⟨by rw [HF.out]; rfl, Below.refl _ _⟩
  · have hfin : isName s.data.toList = false := isName_no hl (fun h => h1 h.1)
    have HF := Lib.hid hfin
    clear hfin hl
    go_enter Tryz.func50, Tryz.ntmps50
    go_wp2
    go_ret
    exact ⟨by rw [HF.out]; rfl, Below.refl _ _⟩
end Go.Proofs.YtgeljnjcpkmlmaaGreatDoor
