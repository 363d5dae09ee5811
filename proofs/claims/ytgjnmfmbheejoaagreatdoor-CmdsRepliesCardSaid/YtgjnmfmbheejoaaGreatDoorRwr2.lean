/- The reference's writers of bytes: texts, and the bytes. Condition: what is written is no longer than a machine's integer can say. -/
import Derived.Test.YtgjnmfmbheejoaaGreatDoorRwr
import Derived.Lib.SmallJoins
namespace Go.Proofs.YtgjnmfmbheejoaaGreatDoor
open Go.RowKit Go.Shelf

theorem conv_str (s : ByteArray) (W : World) : (convert 9 22 (.string s)).run Tryz.prog W = .ok (.slice (some ⟨W.heap.size, 0, none⟩) s.size (grownCap W s.size 0 5)) (Lib.bytesWorld W 5 s) :=
  Lib.run_convert_string_bytes (P := Tryz.prog) W 9 22 5 s Tryz.underlying9 Tryz.underlying22 Tryz.underlying5
theorem slB_conv (s : ByteArray) (W : World) : SlB (Lib.bytesWorld W 5 s) (some ⟨W.heap.size, 0, none⟩) s.size s.data.toList := by
  refine ⟨by rw [← Lib.size_eq], fun i c hi => ⟨_, _, rfl, ?_⟩⟩
  have hlt : i < s.size := by rw [Lib.size_eq]; exact (List.getElem?_eq_some_iff.1 hi).1
  rw [Nat.zero_add, Lib.bytesWorld_cell W 5 s i hlt]
  unfold u8V
  rw [List.getD_eq_getElem?_getD, hi]
  rfl
theorem below_conv (s : ByteArray) (W : World) : Below W.heap.size W (Lib.bytesWorld W 5 s) := Joins.below_bytesWorld _ W _ s (Nat.le_refl _)
set_option maxHeartbeats 2000000 in
theorem rtext_w (C base : Nat) (s : ByteArray) (l : List UInt8) (w : World) (h : WrQ w base C l) (hs : s.size ≤ 1000000000) (hl : l.length ≤ 100000000000) :
    Calls Tryz.prog 70 #[.pointer (some ⟨C, 0, none⟩), .string s] w fun e w' => e = .returned (.tuple #[]) ∧ WrQ w' base C (l ++ txB s.data.toList) ∧ WrK w w' base C := by
  have hlen : s.data.toList.length = s.size := by rw [← Lib.size_eq]
  have N := Lib.hid (rnumber_any s.size w (by omega))
  have HL : Hid ((uvB s.size).length ≤ 10) := Lib.hid (uvB_len10 (by omega))
  have HB : Hid (base ≤ w.heap.size) := Lib.hid (by have := h.lt; have := h.1; omega)
  have hcv := conv_str s
  have HE : Hid (l ++ txB s.data.toList = (l ++ uvB s.size) ++ s.data.toList) := Lib.hid (by unfold txB; rw [hlen, List.append_assoc])
  have H := Lib.hid h
  clear h hlen
  go_enter Tryz.func70, Tryz.ntmps70
  go_upto_region 1 with (first
    | (go_at_call 129; refine N.out.mono ?_; rintro e w1 ⟨⟨v1, rfl, ho1⟩, hB⟩; obtain ⟨A1, c1, rfl, hc1⟩ := own_slice ho1; have HA := Lib.hid (radd_any C base A1 _ c1 l (uvB s.size) w1 (H.out.keep hB) (SlB.of_own ho1) (by have := HL.out; omega) (by have := HL.out; omega)); have HK := Lib.hid (WrK.of_below (C := C) hB HB.out); clear ho1 hB hc1)
    | (go_at_call 128; refine HA.out.mono ?_; rintro e w2 ⟨rfl, hP, hK⟩))
  have HA2 := Lib.hid (fun c => radd_any C base (some ⟨w2.heap.size, 0, none⟩) s.size c (l ++ uvB s.size) s.data.toList (Lib.bytesWorld w2 5 s) (hP.keep (below_conv s w2)) (slB_conv s w2) (by omega) (by have := HL.out; rw [List.length_append]; omega))
  have HK2 := Lib.hid (HK.out.trans (hK.trans (WrK.of_below (C := C) (below_conv s w2) (by have := hP.lt; have := hP.1; omega))))
  clear hP hK hs hl
  go_wp2_with (go_at_call 128; refine (HA2.out _).mono ?_; rintro e w3 ⟨rfl, hP3, hK3⟩)
  go_end0
  exact ⟨rfl, by rw [HE.out]; exact hP3, HK2.out.trans hK3⟩
set_option maxHeartbeats 1000000 in
theorem rbytes_w (C base : Nat) (l : List UInt8) (w : World) (h : WrQ w base C l) (hl : l.length ≤ 1000000000000) :
    Calls Tryz.prog 72 #[.pointer (some ⟨C, 0, none⟩)] w fun e w' => (∃ v, e = .returned v ∧ w'.ownsRow w.heap.size 5 1 v l.length (bV l)) ∧ Below w.heap.size w w' := by
  obtain ⟨hb, v, hC, hown⟩ := id h
  have V := Lib.hid (wvalid_any C v w hC)
  obtain ⟨A, c, rfl, _⟩ := own_slice hown
  have c1 := (hC.alloc (.cells #[] 5)).cell 1
  simp only [List.getElem?_toArray, List.getElem?_cons_succ, List.getElem?_cons_zero] at c1
  have h2 := (SlB.of_own hown).keep ((Below.refl _ w).alloc (Nat.le_refl _) (.cells #[] 5))
  have hm : (w.alloc (.cells #[] 5)).ownsRow w.heap.size 5 1 (.slice (some ⟨w.heap.size, 0, none⟩) 0 0) 0 [] := World.ownsRow_made _ _ _ (Nat.le_refl _) (Nat.zero_le _) rfl
  obtain ⟨v', w', hrun, hown', hgrow⟩ := run_app_src _ A l.length c l h2 hl hm (by omega) (by simp)
  have HR := Lib.hid hrun
  rw [Nat.zero_add, List.nil_append] at hown'
  have HF : Hid (w'.ownsRow w.heap.size 5 1 v' l.length (bV l) ∧ Below w.heap.size w w') := Lib.hid ⟨hown', ((Below.refl _ w).alloc (Nat.le_refl _) _).grown hgrow (by simp) (fun k e => by simp [Value.ownBlock] at e; omega)⟩
  generalize l.length = N at HR HF c1 ⊢
  clear hrun hown' hgrow hm h2 h hC hown hl
  go_enter Tryz.func72, Tryz.ntmps72
  go_wp2_with (first
    | (go_at_call 131; refine V.out.mono ?_; rintro e w1 ⟨rfl, rfl⟩)
    | (at_builtin; refine wpList_append_run rfl (.tmp 6) (.tmp 10) 22 22 rfl rfl rfl HR.out ?_))
  go_ret
  exact ⟨⟨_, rfl, HF.out.1⟩, HF.out.2⟩
set_option maxHeartbeats 1000000 in
theorem rlen_w (C base : Nat) (l : List UInt8) (w : World) (h : WrQ w base C l) (hl : l.length ≤ 1000000000000) :
    Calls Tryz.prog 71 #[.pointer (some ⟨C, 0, none⟩)] w fun e w' => e = .returned (.int .i64 (l.length : Int)) ∧ Below w.heap.size w w' := by
  have B := Lib.hid (rbytes_w C base l w h hl)
  generalize l.length = N at B ⊢
  clear h hl
  go_enter Tryz.func71, Tryz.ntmps71
  go_wp2_with (go_at_call 72; refine B.out.mono ?_; rintro e w1 ⟨⟨v1, rfl, ho⟩, hB⟩; obtain ⟨A1, c1, rfl, hc1⟩ := own_slice ho)
  go_ret
  exact ⟨rfl, hB⟩
end Go.Proofs.YtgjnmfmbheejoaaGreatDoor
