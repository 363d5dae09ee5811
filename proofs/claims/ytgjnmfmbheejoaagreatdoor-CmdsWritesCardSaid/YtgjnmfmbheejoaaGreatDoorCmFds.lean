/- The fields of each kind of command, as what makes them returns them. No condition. -/
import Derived.Test.YtgjnmfmbheejoaaGreatDoorCmWr
import Derived.Test.YtgjnmfmbheejoaaGreatDoorCmRR
namespace Go.Proofs.YtgjnmfmbheejoaaGreatDoor
open Go.RowKit Go.Shelf

theorem eff_fld : FldAt .eff (fnv 153 #[]) (fnv 154 #[]) (fnv 155 #[]) (fnv 156 #[]) (fnv 157 #[]) [] :=
  ⟨⟨_, _, ⟨rfl, enters_of Tryz.func153 (by kernel_rfl) rfl⟩, fun c A n m B W _ _ hC => eff1_any c A n m B W hC⟩, ⟨_, _, ⟨rfl, enters_of Tryz.func154 (by kernel_rfl) rfl⟩, fun c A n m B C base l W _ hC ho hW hl hB => eff2_any c A n m B C base l W hC ho hW hl hB⟩,
    ⟨_, _, ⟨rfl, enters_of Tryz.func155 (by kernel_rfl) rfl⟩, fun c A n m B C st W _ hC hP hCB => eff3_any c A n m B C st W hC hP hCB⟩, ⟨_, _, ⟨rfl, enters_of Tryz.func156 (by kernel_rfl) rfl⟩, fun c A n m B W hE _ hC ho => eff4_any c A n m B W hE hC ho⟩, ⟨_, _, ⟨rfl, enters_of Tryz.func157 (by kernel_rfl) rfl⟩, fun c A n m B W _ hC => eff5_any c A n m B W hC⟩⟩
set_option maxHeartbeats 1000000 in
theorem effF_any (w : World) : Calls Tryz.prog 102 #[] w fun e w' => FldR .eff w w' e := by
  go_enter Tryz.func102, Tryz.ntmps102
  go_wp2
  refine bodyPost_ret (v := .agg #[fnv 153 #[], fnv 154 #[], fnv 155 #[], fnv 156 #[], fnv 157 #[]]) (by simp [results, Tryz.results102, go_sem]) rfl ⟨⟨_, _, _, _, _, _, _, _, _, _, [], rfl, eff_fld, fun p hp => by cases hp⟩, (Below.refl _ w).alloc (Nat.le_refl _) _⟩
theorem delta_fld : FldAt .dl (fnv 162 #[]) (fnv 163 #[]) (fnv 164 #[]) (fnv 165 #[]) (fnv 167 #[]) [] :=
  ⟨⟨_, _, ⟨rfl, enters_of Tryz.func162 (by kernel_rfl) rfl⟩, fun c A n m B W _ _ hC => delta1_any c A n m B W hC⟩, ⟨_, _, ⟨rfl, enters_of Tryz.func163 (by kernel_rfl) rfl⟩, fun c A n m B C base l W _ hC ho hW hl _ => delta2_any c A n m B C base l W hC ho hW hl⟩,
    ⟨_, _, ⟨rfl, enters_of Tryz.func164 (by kernel_rfl) rfl⟩, fun c A n m B C st W _ hC hP hCB => delta3_any c A n m B C st W hC hP hCB⟩, ⟨_, _, ⟨rfl, enters_of Tryz.func165 (by kernel_rfl) rfl⟩, fun c A n m B W hE _ hC ho => delta4_any c A n m B W hE hC ho⟩, ⟨_, _, ⟨rfl, enters_of Tryz.func167 (by kernel_rfl) rfl⟩, fun c A n m B W _ hC => delta5_any c A n m B W hC⟩⟩
set_option maxHeartbeats 1000000 in
theorem deltaF_any (w : World) : Calls Tryz.prog 104 #[] w fun e w' => FldR .dl w w' e := by
  go_enter Tryz.func104, Tryz.ntmps104
  go_wp2
  refine bodyPost_ret (v := .agg #[fnv 162 #[], fnv 163 #[], fnv 164 #[], fnv 165 #[], fnv 167 #[]]) (by simp [results, Tryz.results104, go_sem]) rfl ⟨⟨_, _, _, _, _, _, _, _, _, _, [], rfl, delta_fld, fun p hp => by cases hp⟩, (Below.refl _ w).alloc (Nat.le_refl _) _⟩
theorem range_fld : FldAt .rng (fnv 171 #[]) (fnv 173 #[]) (fnv 174 #[]) (fnv 175 #[]) (fnv 177 #[]) [] :=
  ⟨⟨_, _, ⟨rfl, enters_of Tryz.func171 (by kernel_rfl) rfl⟩, fun c A n m B W _ _ hC => range1_any c A n m B W hC⟩, ⟨_, _, ⟨rfl, enters_of Tryz.func173 (by kernel_rfl) rfl⟩, fun c A n m B C base l W _ hC ho hW hl hB => range2_any c A n m B C base l W hC ho hW hl hB⟩,
    ⟨_, _, ⟨rfl, enters_of Tryz.func174 (by kernel_rfl) rfl⟩, fun c A n m B C st W _ hC hP hCB => range3_any c A n m B C st W hC hP hCB⟩, ⟨_, _, ⟨rfl, enters_of Tryz.func175 (by kernel_rfl) rfl⟩, fun c A n m B W _ _ hC ho => range4_any c A n m B W  hC ho⟩, ⟨_, _, ⟨rfl, enters_of Tryz.func177 (by kernel_rfl) rfl⟩, fun c A n m B W _ hC => range5_any c A n m B W hC⟩⟩
set_option maxHeartbeats 1000000 in
theorem rangeF_any (w : World) : Calls Tryz.prog 107 #[] w fun e w' => FldR .rng w w' e := by
  go_enter Tryz.func107, Tryz.ntmps107
  go_wp2
  refine bodyPost_ret (v := .agg #[fnv 171 #[], fnv 173 #[], fnv 174 #[], fnv 175 #[], fnv 177 #[]]) (by simp [results, Tryz.results107, go_sem]) rfl ⟨⟨_, _, _, _, _, _, _, _, _, _, [], rfl, range_fld, fun p hp => by cases hp⟩, (Below.refl _ w).alloc (Nat.le_refl _) _⟩
theorem def_fld : FldAt .defn (fnv 182 #[]) (fnv 184 #[]) (fnv 186 #[]) (fnv 188 #[]) (fnv 190 #[]) [] :=
  ⟨⟨_, _, ⟨rfl, enters_of Tryz.func182 (by kernel_rfl) rfl⟩, fun c A n m B W _ _ hC => def1_any c A n m B W hC⟩, ⟨_, _, ⟨rfl, enters_of Tryz.func184 (by kernel_rfl) rfl⟩, fun c A n m B C base l W _ hC ho hW hl _ => def2_any c A n m B C base l W hC ho hW hl⟩,
    ⟨_, _, ⟨rfl, enters_of Tryz.func186 (by kernel_rfl) rfl⟩, fun c A n m B C st W _ hC hP hCB => def3_any c A n m B C st W hC hP hCB⟩, ⟨_, _, ⟨rfl, enters_of Tryz.func188 (by kernel_rfl) rfl⟩, fun c A n m B W hE _ hC ho => def4_any c A n m B W hE hC ho⟩, ⟨_, _, ⟨rfl, enters_of Tryz.func190 (by kernel_rfl) rfl⟩, fun c A n m B W _ hC => def5_any c A n m B W hC⟩⟩
set_option maxHeartbeats 1000000 in
theorem defF_any (w : World) : Calls Tryz.prog 110 #[] w fun e w' => FldR .defn w w' e := by
  go_enter Tryz.func110, Tryz.ntmps110
  go_wp2
  refine bodyPost_ret (v := .agg #[fnv 182 #[], fnv 184 #[], fnv 186 #[], fnv 188 #[], fnv 190 #[]]) (by simp [results, Tryz.results110, go_sem]) rfl ⟨⟨_, _, _, _, _, _, _, _, _, _, [], rfl, def_fld, fun p hp => by cases hp⟩, (Below.refl _ w).alloc (Nat.le_refl _) _⟩
theorem item_fld : FldAt .item (fnv 192 #[]) (fnv 193 #[]) (fnv 195 #[]) (fnv 197 #[]) (fnv 198 #[]) [] :=
  ⟨⟨_, _, ⟨rfl, enters_of Tryz.func192 (by kernel_rfl) rfl⟩, fun c A n m B W _ _ hC => item1_any c A n m B W hC⟩, ⟨_, _, ⟨rfl, enters_of Tryz.func193 (by kernel_rfl) rfl⟩, fun c A n m B C base l W _ hC ho hW hl _ => item2_any c A n m B C base l W hC ho hW hl⟩,
    ⟨_, _, ⟨rfl, enters_of Tryz.func195 (by kernel_rfl) rfl⟩, fun c A n m B C st W _ hC hP hCB => item3_any c A n m B C st W hC hP hCB⟩, ⟨_, _, ⟨rfl, enters_of Tryz.func197 (by kernel_rfl) rfl⟩, fun c A n m B W hE _ hC ho => item4_any c A n m B W hE hC ho⟩, ⟨_, _, ⟨rfl, enters_of Tryz.func198 (by kernel_rfl) rfl⟩, fun c A n m B W _ hC => item5_any c A n m B W hC⟩⟩
set_option maxHeartbeats 1000000 in
theorem itemF_any (w : World) : Calls Tryz.prog 112 #[] w fun e w' => FldR .item w w' e := by
  go_enter Tryz.func112, Tryz.ntmps112
  go_wp2
  refine bodyPost_ret (v := .agg #[fnv 192 #[], fnv 193 #[], fnv 195 #[], fnv 197 #[], fnv 198 #[]]) (by simp [results, Tryz.results112, go_sem]) rfl ⟨⟨_, _, _, _, _, _, _, _, _, _, [], rfl, item_fld, fun p hp => by cases hp⟩, (Below.refl _ w).alloc (Nat.le_refl _) _⟩
theorem res_fld : FldAt .res (fnv 199 #[]) (fnv 200 #[]) (fnv 201 #[]) (fnv 202 #[]) (fnv 203 #[]) [] :=
  ⟨⟨_, _, ⟨rfl, enters_of Tryz.func199 (by kernel_rfl) rfl⟩, fun c A n m B W _ _ hC => res1_any c A n m B W hC⟩, ⟨_, _, ⟨rfl, enters_of Tryz.func200 (by kernel_rfl) rfl⟩, fun c A n m B C base l W _ hC ho hW hl _ => res2_any c A n m B C base l W hC ho hW hl⟩,
    ⟨_, _, ⟨rfl, enters_of Tryz.func201 (by kernel_rfl) rfl⟩, fun c A n m B C st W _ hC hP hCB => res3_any c A n m B C st W hC hP hCB⟩, ⟨_, _, ⟨rfl, enters_of Tryz.func202 (by kernel_rfl) rfl⟩, fun c A n m B W hE _ hC ho => res4_any c A n m B W hE hC ho⟩, ⟨_, _, ⟨rfl, enters_of Tryz.func203 (by kernel_rfl) rfl⟩, fun c A n m B W _ hC => res5_any c A n m B W hC⟩⟩
set_option maxHeartbeats 1000000 in
theorem resF_any (w : World) : Calls Tryz.prog 113 #[] w fun e w' => FldR .res w w' e := by
  go_enter Tryz.func113, Tryz.ntmps113
  go_wp2
  refine bodyPost_ret (v := .agg #[fnv 199 #[], fnv 200 #[], fnv 201 #[], fnv 202 #[], fnv 203 #[]]) (by simp [results, Tryz.results113, go_sem]) rfl ⟨⟨_, _, _, _, _, _, _, _, _, _, [], rfl, res_fld, fun p hp => by cases hp⟩, (Below.refl _ w).alloc (Nat.le_refl _) _⟩
/-- The slice of a kind's fields. -/
def Flds (W : World) (A : Option Addr) (l : List Fl) (L : List Cap) : Prop := Caps W L ∧ ∀ (j : Nat) x, l[j]? = some x → ∃ g cs g00 l00 g01 l01 g02 l02 g03 l03 g04 l04, A = some ⟨g, 0, none⟩ ∧ (⟨g, 94, cs⟩ : Cap) ∈ L ∧ (cs[j * 5]? = some (fnv g00 l00) ∧ cs[j * 5 + 1]? = some (fnv g01 l01) ∧ cs[j * 5 + 2]? = some (fnv g02 l02) ∧ cs[j * 5 + 3]? = some (fnv g03 l03) ∧ cs[j * 5 + 4]? = some (fnv g04 l04)) ∧
  FldAt x (fnv g00 l00) (fnv g01 l01) (fnv g02 l02) (fnv g03 l03) (fnv g04 l04) L
/-- What fields returns. -/
def FldsR (k : Int) (w w' : World) (e : Ending) : Prop := (∃ A L, e = .returned (.tuple #[.string ⟨(wordK k).toArray⟩, .slice A ((fieldsK k).getD []).length ((fieldsK k).getD []).length, .bool (fieldsK k).isSome]) ∧ Flds w' A ((fieldsK k).getD []) L) ∧ Below w.heap.size w w'
theorem capF : capT 94 := by unfold capT; decide
theorem flds_nil {k : Int} (w : World) (h : (fieldsK k).getD [] = []) (wd : ByteArray) (hw : wd = ⟨(wordK k).toArray⟩) (b : Bool) (hb : b = (fieldsK k).isSome) : FldsR k w w (.returned (.tuple #[.string wd, .slice none 0 0, .bool b])) := by
  refine ⟨⟨none, [], by rw [hw, hb, h]; rfl, (fun p hp => by cases hp), fun j x hx => ?_⟩, Below.refl _ _⟩
  rw [h] at hx; simp at hx
theorem flds2 {k : Int} {x1 x2 : Fl} {w w1 w2 : World} {g10 g11 g12 g13 g14 g20 g21 g22 g23 g24 : Nat} {l10 l11 l12 l13 l14 l20 l21 l22 l23 l24 : Array Value} {L1 L2 : List Cap} (hk : fieldsK k = some [x1, x2]) (wd : ByteArray) (hw : wd = ⟨(wordK k).toArray⟩)
    (h1 : FldAt x1 (fnv g10 l10) (fnv g11 l11) (fnv g12 l12) (fnv g13 l13) (fnv g14 l14) L1 ∧ Caps w1 L1 ∧ Below w.heap.size w w1)
    (h2 : FldAt x2 (fnv g20 l20) (fnv g21 l21) (fnv g22 l22) (fnv g23 l23) (fnv g24 l24) L2 ∧ Caps w2 L2 ∧ Below w1.heap.size w1 w2)
    : FldsR k w (w2.alloc (.cells #[fnv g10 l10, fnv g11 l11, fnv g12 l12, fnv g13 l13, fnv g14 l14, fnv g20 l20, fnv g21 l21, fnv g22 l22, fnv g23 l23, fnv g24 l24] 94)) (.returned (.tuple #[.string wd, .slice (some ⟨w2.heap.size, 0, none⟩) 2 2, .bool true])) := by
  have ba := (Below.refl w2.heap.size w2).alloc (Nat.le_refl _) (.cells #[fnv g10 l10, fnv g11 l11, fnv g12 l12, fnv g13 l13, fnv g14 l14, fnv g20 l20, fnv g21 l21, fnv g22 l22, fnv g23 l23, fnv g24 l24] 94)
  have B1 := h1.2.2
  have B2 := B1.trans (h2.2.2.mono B1.size)
  have C1 := ((h1.2.1.keep h2.2.2)).keep ba
  have C2 := (h2.2.1).keep ba
  refine ⟨⟨some ⟨w2.heap.size, 0, none⟩, ⟨w2.heap.size, 94, #[fnv g10 l10, fnv g11 l11, fnv g12 l12, fnv g13 l13, fnv g14 l14, fnv g20 l20, fnv g21 l21, fnv g22 l22, fnv g23 l23, fnv g24 l24]⟩ :: (L1 ++ L2), by rw [hk, hw]; rfl, fun p hp => ?_, fun j x hx => ?_⟩, B2.alloc B2.size _⟩
  · simp only [List.mem_cons, List.mem_append] at hp
    rcases hp with rfl | hp | hp
    · exact ⟨Whole.new w2 _ _, capF⟩
    · exact C1 p hp
    · exact C2 p hp
  · rw [hk] at hx
    match j with
    | 0 =>
      cases hx
      exact ⟨_, _, _, _, _, _, _, _, _, _, _, _, rfl, List.mem_cons_self .., ⟨rfl, rfl, rfl, rfl, rfl⟩, h1.1.more (fun p hp => by simp [hp])⟩
    | 1 =>
      cases hx
      exact ⟨_, _, _, _, _, _, _, _, _, _, _, _, rfl, List.mem_cons_self .., ⟨rfl, rfl, rfl, rfl, rfl⟩, h2.1.more (fun p hp => by simp [hp])⟩
    | j + 2 => simp at hx
theorem flds3 {k : Int} {x1 x2 x3 : Fl} {w w1 w2 w3 : World} {g10 g11 g12 g13 g14 g20 g21 g22 g23 g24 g30 g31 g32 g33 g34 : Nat} {l10 l11 l12 l13 l14 l20 l21 l22 l23 l24 l30 l31 l32 l33 l34 : Array Value} {L1 L2 L3 : List Cap} (hk : fieldsK k = some [x1, x2, x3]) (wd : ByteArray) (hw : wd = ⟨(wordK k).toArray⟩)
    (h1 : FldAt x1 (fnv g10 l10) (fnv g11 l11) (fnv g12 l12) (fnv g13 l13) (fnv g14 l14) L1 ∧ Caps w1 L1 ∧ Below w.heap.size w w1)
    (h2 : FldAt x2 (fnv g20 l20) (fnv g21 l21) (fnv g22 l22) (fnv g23 l23) (fnv g24 l24) L2 ∧ Caps w2 L2 ∧ Below w1.heap.size w1 w2)
    (h3 : FldAt x3 (fnv g30 l30) (fnv g31 l31) (fnv g32 l32) (fnv g33 l33) (fnv g34 l34) L3 ∧ Caps w3 L3 ∧ Below w2.heap.size w2 w3)
    : FldsR k w (w3.alloc (.cells #[fnv g10 l10, fnv g11 l11, fnv g12 l12, fnv g13 l13, fnv g14 l14, fnv g20 l20, fnv g21 l21, fnv g22 l22, fnv g23 l23, fnv g24 l24, fnv g30 l30, fnv g31 l31, fnv g32 l32, fnv g33 l33, fnv g34 l34] 94)) (.returned (.tuple #[.string wd, .slice (some ⟨w3.heap.size, 0, none⟩) 3 3, .bool true])) := by
  have ba := (Below.refl w3.heap.size w3).alloc (Nat.le_refl _) (.cells #[fnv g10 l10, fnv g11 l11, fnv g12 l12, fnv g13 l13, fnv g14 l14, fnv g20 l20, fnv g21 l21, fnv g22 l22, fnv g23 l23, fnv g24 l24, fnv g30 l30, fnv g31 l31, fnv g32 l32, fnv g33 l33, fnv g34 l34] 94)
  have B1 := h1.2.2
  have B2 := B1.trans (h2.2.2.mono B1.size)
  have B3 := B2.trans (h3.2.2.mono B2.size)
  have C1 := (((h1.2.1.keep h2.2.2).keep h3.2.2)).keep ba
  have C2 := ((h2.2.1.keep h3.2.2)).keep ba
  have C3 := (h3.2.1).keep ba
  refine ⟨⟨some ⟨w3.heap.size, 0, none⟩, ⟨w3.heap.size, 94, #[fnv g10 l10, fnv g11 l11, fnv g12 l12, fnv g13 l13, fnv g14 l14, fnv g20 l20, fnv g21 l21, fnv g22 l22, fnv g23 l23, fnv g24 l24, fnv g30 l30, fnv g31 l31, fnv g32 l32, fnv g33 l33, fnv g34 l34]⟩ :: (L1 ++ L2 ++ L3), by rw [hk, hw]; rfl, fun p hp => ?_, fun j x hx => ?_⟩, B3.alloc B3.size _⟩
  · simp only [List.mem_cons, List.mem_append, List.append_assoc] at hp
    rcases hp with rfl | hp | hp | hp
    · exact ⟨Whole.new w3 _ _, capF⟩
    · exact C1 p hp
    · exact C2 p hp
    · exact C3 p hp
  · rw [hk] at hx
    match j with
    | 0 =>
      cases hx
      exact ⟨_, _, _, _, _, _, _, _, _, _, _, _, rfl, List.mem_cons_self .., ⟨rfl, rfl, rfl, rfl, rfl⟩, h1.1.more (fun p hp => by simp [hp])⟩
    | 1 =>
      cases hx
      exact ⟨_, _, _, _, _, _, _, _, _, _, _, _, rfl, List.mem_cons_self .., ⟨rfl, rfl, rfl, rfl, rfl⟩, h2.1.more (fun p hp => by simp [hp])⟩
    | 2 =>
      cases hx
      exact ⟨_, _, _, _, _, _, _, _, _, _, _, _, rfl, List.mem_cons_self .., ⟨rfl, rfl, rfl, rfl, rfl⟩, h3.1.more (fun p hp => by simp [hp])⟩
    | j + 3 => simp at hx
set_option maxHeartbeats 2000000 in
theorem fields_1 (w : World) : Calls Tryz.prog 48 #[.int .i64 1] w fun e w' => FldsR 1 w w' e := by
  go_enter Tryz.func48, Tryz.ntmps48
  go_wp2_with (first
    | (go_at_call 102; refine (effF_any w).mono ?_; rintro e w1 ⟨⟨g10, l10, g11, l11, g12, l12, g13, l13, g14, l14, L1, rfl, F, C⟩, hb⟩; have H1 := Lib.hid (And.intro F (And.intro C hb)); clear F C hb)
    | (go_at_call 103; refine (keyF_any w1).mono ?_; rintro e w2 ⟨⟨g20, l20, g21, l21, g22, l22, g23, l23, g24, l24, L2, rfl, F, C⟩, hb⟩; have H2 := Lib.hid (And.intro F (And.intro C hb)); clear F C hb)
    | (go_at_call 104; refine (deltaF_any w2).mono ?_; rintro e w3 ⟨⟨g30, l30, g31, l31, g32, l32, g33, l33, g34, l34, L3, rfl, F, C⟩, hb⟩; have H3 := Lib.hid (And.intro F (And.intro C hb)); clear F C hb))
  refine bodyPost_ret (v := .tuple #[.string ⟨#[101, 102, 102, 101, 99, 116]⟩, .slice (some ⟨w3.heap.size, 0, none⟩) 3 3, .bool true]) (by simp [results, Tryz.results48, go_sem]) rfl ?_
  exact flds3 rfl _ rfl H1.out H2.out H3.out
set_option maxHeartbeats 2000000 in
theorem fields_2 (w : World) : Calls Tryz.prog 48 #[.int .i64 2] w fun e w' => FldsR 2 w w' e := by
  go_enter Tryz.func48, Tryz.ntmps48
  go_wp2_with (first
    | (go_at_call 105; refine (callF_any w).mono ?_; rintro e w1 ⟨⟨g10, l10, g11, l11, g12, l12, g13, l13, g14, l14, L1, rfl, F, C⟩, hb⟩; have H1 := Lib.hid (And.intro F (And.intro C hb)); clear F C hb)
    | (go_at_call 103; refine (keyF_any w1).mono ?_; rintro e w2 ⟨⟨g20, l20, g21, l21, g22, l22, g23, l23, g24, l24, L2, rfl, F, C⟩, hb⟩; have H2 := Lib.hid (And.intro F (And.intro C hb)); clear F C hb))
  refine bodyPost_ret (v := .tuple #[.string ⟨#[114, 101, 97, 100]⟩, .slice (some ⟨w2.heap.size, 0, none⟩) 2 2, .bool true]) (by simp [results, Tryz.results48, go_sem]) rfl ?_
  exact flds2 rfl _ rfl H1.out H2.out
set_option maxHeartbeats 2000000 in
theorem fields_3 (w : World) : Calls Tryz.prog 48 #[.int .i64 3] w fun e w' => FldsR 3 w w' e := by
  go_enter Tryz.func48, Tryz.ntmps48
  go_wp2_with (first
    | (go_at_call 106; refine (moveF_any w).mono ?_; rintro e w1 ⟨⟨g10, l10, g11, l11, g12, l12, g13, l13, g14, l14, L1, rfl, F, C⟩, hb⟩; have H1 := Lib.hid (And.intro F (And.intro C hb)); clear F C hb)
    | (go_at_call 107; refine (rangeF_any w1).mono ?_; rintro e w2 ⟨⟨g20, l20, g21, l21, g22, l22, g23, l23, g24, l24, L2, rfl, F, C⟩, hb⟩; have H2 := Lib.hid (And.intro F (And.intro C hb)); clear F C hb))
  refine bodyPost_ret (v := .tuple #[.string ⟨#[111, 117, 116]⟩, .slice (some ⟨w2.heap.size, 0, none⟩) 2 2, .bool true]) (by simp [results, Tryz.results48, go_sem]) rfl ?_
  exact flds2 rfl _ rfl H1.out H2.out
set_option maxHeartbeats 2000000 in
theorem fields_4 (w : World) : Calls Tryz.prog 48 #[.int .i64 4] w fun e w' => FldsR 4 w w' e := by
  go_enter Tryz.func48, Tryz.ntmps48
  go_wp2_with (first
    | (go_at_call 106; refine (moveF_any w).mono ?_; rintro e w1 ⟨⟨g10, l10, g11, l11, g12, l12, g13, l13, g14, l14, L1, rfl, F, C⟩, hb⟩; have H1 := Lib.hid (And.intro F (And.intro C hb)); clear F C hb)
    | (go_at_call 107; refine (rangeF_any w1).mono ?_; rintro e w2 ⟨⟨g20, l20, g21, l21, g22, l22, g23, l23, g24, l24, L2, rfl, F, C⟩, hb⟩; have H2 := Lib.hid (And.intro F (And.intro C hb)); clear F C hb)
    | (go_at_call 108; refine (dataF_any w2).mono ?_; rintro e w3 ⟨⟨g30, l30, g31, l31, g32, l32, g33, l33, g34, l34, L3, rfl, F, C⟩, hb⟩; have H3 := Lib.hid (And.intro F (And.intro C hb)); clear F C hb))
  refine bodyPost_ret (v := .tuple #[.string ⟨#[105, 110]⟩, .slice (some ⟨w3.heap.size, 0, none⟩) 3 3, .bool true]) (by simp [results, Tryz.results48, go_sem]) rfl ?_
  exact flds3 rfl _ rfl H1.out H2.out H3.out
set_option maxHeartbeats 2000000 in
theorem fields_11 (w : World) : Calls Tryz.prog 48 #[.int .i64 11] w fun e w' => FldsR 11 w w' e := by
  go_enter Tryz.func48, Tryz.ntmps48
  go_wp2_with (first
    | (go_at_call 105; refine (callF_any w).mono ?_; rintro e w1 ⟨⟨g10, l10, g11, l11, g12, l12, g13, l13, g14, l14, L1, rfl, F, C⟩, hb⟩; have H1 := Lib.hid (And.intro F (And.intro C hb)); clear F C hb)
    | (go_at_call 109; refine (sagaF_any w1).mono ?_; rintro e w2 ⟨⟨g20, l20, g21, l21, g22, l22, g23, l23, g24, l24, L2, rfl, F, C⟩, hb⟩; have H2 := Lib.hid (And.intro F (And.intro C hb)); clear F C hb)
    | (go_at_call 110; refine (defF_any w2).mono ?_; rintro e w3 ⟨⟨g30, l30, g31, l31, g32, l32, g33, l33, g34, l34, L3, rfl, F, C⟩, hb⟩; have H3 := Lib.hid (And.intro F (And.intro C hb)); clear F C hb))
  refine bodyPost_ret (v := .tuple #[.string ⟨#[115, 116, 97, 114, 116]⟩, .slice (some ⟨w3.heap.size, 0, none⟩) 3 3, .bool true]) (by simp [results, Tryz.results48, go_sem]) rfl ?_
  exact flds3 rfl _ rfl H1.out H2.out H3.out
set_option maxHeartbeats 2000000 in
theorem fields_12 (w : World) : Calls Tryz.prog 48 #[.int .i64 12] w fun e w' => FldsR 12 w w' e := by
  go_enter Tryz.func48, Tryz.ntmps48
  go_wp2_with (first
    | (go_at_call 105; refine (callF_any w).mono ?_; rintro e w1 ⟨⟨g10, l10, g11, l11, g12, l12, g13, l13, g14, l14, L1, rfl, F, C⟩, hb⟩; have H1 := Lib.hid (And.intro F (And.intro C hb)); clear F C hb)
    | (go_at_call 109; refine (sagaF_any w1).mono ?_; rintro e w2 ⟨⟨g20, l20, g21, l21, g22, l22, g23, l23, g24, l24, L2, rfl, F, C⟩, hb⟩; have H2 := Lib.hid (And.intro F (And.intro C hb)); clear F C hb))
  refine bodyPost_ret (v := .tuple #[.string ⟨#[115, 116, 97, 116, 117, 115]⟩, .slice (some ⟨w2.heap.size, 0, none⟩) 2 2, .bool true]) (by simp [results, Tryz.results48, go_sem]) rfl ?_
  exact flds2 rfl _ rfl H1.out H2.out
set_option maxHeartbeats 2000000 in
theorem fields_13 (w : World) : Calls Tryz.prog 48 #[.int .i64 13] w fun e w' => FldsR 13 w w' e := by
  go_enter Tryz.func48, Tryz.ntmps48
  go_wp2_with (first
    | (go_at_call 105; refine (callF_any w).mono ?_; rintro e w1 ⟨⟨g10, l10, g11, l11, g12, l12, g13, l13, g14, l14, L1, rfl, F, C⟩, hb⟩; have H1 := Lib.hid (And.intro F (And.intro C hb)); clear F C hb)
    | (go_at_call 109; refine (sagaF_any w1).mono ?_; rintro e w2 ⟨⟨g20, l20, g21, l21, g22, l22, g23, l23, g24, l24, L2, rfl, F, C⟩, hb⟩; have H2 := Lib.hid (And.intro F (And.intro C hb)); clear F C hb))
  refine bodyPost_ret (v := .tuple #[.string ⟨#[99, 97, 110, 99, 101, 108]⟩, .slice (some ⟨w2.heap.size, 0, none⟩) 2 2, .bool true]) (by simp [results, Tryz.results48, go_sem]) rfl ?_
  exact flds2 rfl _ rfl H1.out H2.out
set_option maxHeartbeats 2000000 in
theorem fields_14 (w : World) : Calls Tryz.prog 48 #[.int .i64 14] w fun e w' => FldsR 14 w w' e := by
  go_enter Tryz.func48, Tryz.ntmps48
  go_wp2_with (first
    | (go_at_call 105; refine (callF_any w).mono ?_; rintro e w1 ⟨⟨g10, l10, g11, l11, g12, l12, g13, l13, g14, l14, L1, rfl, F, C⟩, hb⟩; have H1 := Lib.hid (And.intro F (And.intro C hb)); clear F C hb)
    | (go_at_call 107; refine (rangeF_any w1).mono ?_; rintro e w2 ⟨⟨g20, l20, g21, l21, g22, l22, g23, l23, g24, l24, L2, rfl, F, C⟩, hb⟩; have H2 := Lib.hid (And.intro F (And.intro C hb)); clear F C hb)
    | (go_at_call 111; refine (groupF_any w2).mono ?_; rintro e w3 ⟨⟨g30, l30, g31, l31, g32, l32, g33, l33, g34, l34, L3, rfl, F, C⟩, hb⟩; have H3 := Lib.hid (And.intro F (And.intro C hb)); clear F C hb))
  refine bodyPost_ret (v := .tuple #[.string ⟨#[109, 111, 118, 101]⟩, .slice (some ⟨w3.heap.size, 0, none⟩) 3 3, .bool true]) (by simp [results, Tryz.results48, go_sem]) rfl ?_
  exact flds3 rfl _ rfl H1.out H2.out H3.out
set_option maxHeartbeats 2000000 in
theorem fields_15 (w : World) : Calls Tryz.prog 48 #[.int .i64 15] w fun e w' => FldsR 15 w w' e := by
  go_enter Tryz.func48, Tryz.ntmps48
  go_wp2_with (first
    | (go_at_call 112; refine (itemF_any w).mono ?_; rintro e w1 ⟨⟨g10, l10, g11, l11, g12, l12, g13, l13, g14, l14, L1, rfl, F, C⟩, hb⟩; have H1 := Lib.hid (And.intro F (And.intro C hb)); clear F C hb)
    | (go_at_call 113; refine (resF_any w1).mono ?_; rintro e w2 ⟨⟨g20, l20, g21, l21, g22, l22, g23, l23, g24, l24, L2, rfl, F, C⟩, hb⟩; have H2 := Lib.hid (And.intro F (And.intro C hb)); clear F C hb)
    | (go_at_call 108; refine (dataF_any w2).mono ?_; rintro e w3 ⟨⟨g30, l30, g31, l31, g32, l32, g33, l33, g34, l34, L3, rfl, F, C⟩, hb⟩; have H3 := Lib.hid (And.intro F (And.intro C hb)); clear F C hb))
  refine bodyPost_ret (v := .tuple #[.string ⟨#[114, 101, 115, 117, 108, 116]⟩, .slice (some ⟨w3.heap.size, 0, none⟩) 3 3, .bool true]) (by simp [results, Tryz.results48, go_sem]) rfl ?_
  exact flds3 rfl _ rfl H1.out H2.out H3.out
theorem fields_0 (w : World) : Calls Tryz.prog 48 #[.int .i64 0] w fun e w' => FldsR 0 w w' e := by
  go_enter Tryz.func48, Tryz.ntmps48
  go_wp2
  refine bodyPost_ret (v := .tuple #[.string ⟨#[110, 111, 111, 112]⟩, .slice none 0 0, .bool true]) (by simp [results, Tryz.results48, go_sem]) rfl ?_
  exact flds_nil w rfl _ rfl _ rfl
theorem fields_no (k : Int) (w : World) (h : k ≠ 0 ∧ k ≠ 1 ∧ k ≠ 2 ∧ k ≠ 3 ∧ k ≠ 4 ∧ k ≠ 11 ∧ k ≠ 12 ∧ k ≠ 13 ∧ k ≠ 14 ∧ k ≠ 15) : Calls Tryz.prog 48 #[.int .i64 k] w fun e w' => FldsR k w w' e := by
  obtain ⟨h0, h1, h2, h3, h4, h5, h6, h7, h8, h9⟩ := h
  have hf : fieldsK k = none := by unfold fieldsK; simp [h0, h1, h2, h3, h4, h5, h6, h7, h8, h9]
  have hw : wordK k = [] := by unfold wordK; simp [h0, h1, h2, h3, h4, h5, h6, h7, h8, h9]
  have HF := Lib.hid (flds_nil (k := k) w (by rw [hf]; rfl) ⟨#[]⟩ (by rw [hw]) false (by rw [hf]; rfl))
  have e0 : (k == 0) = false := by rw [beq_eq_false_iff_ne]; exact h0
  have e1 : (k == 1) = false := by rw [beq_eq_false_iff_ne]; exact h1
  have e2 : (k == 2) = false := by rw [beq_eq_false_iff_ne]; exact h2
  have e3 : (k == 3) = false := by rw [beq_eq_false_iff_ne]; exact h3
  have e4 : (k == 4) = false := by rw [beq_eq_false_iff_ne]; exact h4
  have e5 : (k == 11) = false := by rw [beq_eq_false_iff_ne]; exact h5
  have e6 : (k == 12) = false := by rw [beq_eq_false_iff_ne]; exact h6
  have e7 : (k == 13) = false := by rw [beq_eq_false_iff_ne]; exact h7
  have e8 : (k == 14) = false := by rw [beq_eq_false_iff_ne]; exact h8
  have e9 : (k == 15) = false := by rw [beq_eq_false_iff_ne]; exact h9
  clear h0 h1 h2 h3 h4 h5 h6 h7 h8 h9 hf hw
  go_enter Tryz.func48, Tryz.ntmps48
  go_wp2
  refine bodyPost_ret (v := .tuple #[.string ⟨#[]⟩, .slice none 0 0, .bool false]) (by simp [results, Tryz.results48, go_sem]) rfl ?_
  exact HF.out
theorem fields_any (k : Int) (w : World) : Calls Tryz.prog 48 #[.int .i64 k] w fun e w' => FldsR k w w' e := by
  by_cases h0 : k = 0
  · subst h0; exact fields_0 w
  by_cases h1 : k = 1
  · subst h1; exact fields_1 w
  by_cases h2 : k = 2
  · subst h2; exact fields_2 w
  by_cases h3 : k = 3
  · subst h3; exact fields_3 w
  by_cases h4 : k = 4
  · subst h4; exact fields_4 w
  by_cases h11 : k = 11
  · subst h11; exact fields_11 w
  by_cases h12 : k = 12
  · subst h12; exact fields_12 w
  by_cases h13 : k = 13
  · subst h13; exact fields_13 w
  by_cases h14 : k = 14
  · subst h14; exact fields_14 w
  by_cases h15 : k = 15
  · subst h15; exact fields_15 w
  exact fields_no k w ⟨h0, h1, h2, h3, h4, h11, h12, h13, h14, h15⟩
end Go.Proofs.YtgjnmfmbheejoaaGreatDoor
