/- strings.Builder at this seat: WriteString, Len, String. Conditions: the builder's own. -/
import Derived.Test.YtojodekmmkemgaaGreatDoorScPall
namespace Go.Proofs.YtojodekmmkemgaaGreatDoor
open Go.RowKit Go.Shelf

abbrev BdI (B b : Nat) (bs : List Value) (w : World) : Prop := Lib.IsBuilder 75 5 B b bs w
theorem wstr_any (B b : Nat) (bs : List Value) (s : ByteArray) (w : World) (h : BdI B b bs w) (hlen : bs.length + s.size ≤ 140737488355328) (hBw : B ≤ w.heap.size) :
    Calls Tryz.prog 40 #[.pointer (some ⟨b, 0, none⟩), .string s] w fun e w' => e = .returned (.tuple #[.int .i64 s.size, .nilIface]) ∧ (Lib.BuilderAt 75 5 B b (.pointer (some ⟨b, 0, none⟩)) (bs ++ Lib.strCells s) w' ∧ Below B w w') :=
  Any.Builder_WriteString (P := Tryz.prog) (ρ := Tryz.lays156_ren) { Tryz.lays156 with } Tryz.Builder_Extra_156 B b bs s w h hlen hBw
theorem blen_any (B b : Nat) (bs : List Value) (w : World) (h : BdI B b bs w) :
    Calls Tryz.prog 42 #[.pointer (some ⟨b, 0, none⟩)] w fun e w' => e = .returned (.int .i64 bs.length) ∧ w' = w :=
  Any.Builder_Len (P := Tryz.prog) (ρ := Tryz.lays105_ren) { Tryz.lays105 with } B b bs w h
theorem bstr_any (B b : Nat) (l : List UInt8) (w : World) (h : BdI B b (Lib.byteCells l) w) (hBw : B ≤ w.heap.size) :
    Calls Tryz.prog 43 #[.pointer (some ⟨b, 0, none⟩)] w fun e w' => e = .returned (.string ⟨l.toArray⟩) ∧ Below B w w' :=
  Any.Builder_String_any (P := Tryz.prog) (ρ := Tryz.lays156_ren) { Tryz.lays156 with } Tryz.Builder_Extra_156 B b l w h hBw
theorem bcopy_any (B b : Nat) (bs : List Value) (w : World) (h : BdI B b bs w) :
    Calls Tryz.prog 79 #[.pointer (some ⟨b, 0, none⟩)] w fun e w' => e = .returned (.tuple #[]) ∧ (Lib.BuilderAt 75 5 B b (.pointer (some ⟨b, 0, none⟩)) bs w' ∧ Below B w w') :=
  Any.Builder_copyCheck (P := Tryz.prog) (ρ := Tryz.lays156_ren) { Tryz.lays156 with } { Tryz.Builder_Extra_156 with } B b bs w h
theorem infoB : (Tryz.prog.info? 5).map (fun i => (i.zero, i.size, i.bytes)) = some (some (.int .u8 0), 1, 1) := by kernel_rfl
set_option maxRecDepth 100000 in
set_option maxHeartbeats 4000000 in
theorem wbyte_any (B b : Nat) (bs : List Value) (c : Int) (w : World) (h : BdI B b bs w) (hlen : bs.length + 1 ≤ 1000000000) (hBw : B ≤ w.heap.size) :
    Calls Tryz.prog 41 #[.pointer (some ⟨b, 0, none⟩), .int .u8 c] w fun e w' => e = .returned .nilIface ∧ (Lib.BuilderAt 75 5 B b (.pointer (some ⟨b, 0, none⟩)) (bs ++ [.int .u8 c]) w' ∧ Below B w w') := by
  have CC := Lib.hid (bcopy_any B b bs w h)
  have HL := Lib.hid hlen
  have HBw := Lib.hid hBw
  clear h hlen hBw
  go_enter Tryz.func41, Tryz.ntmps41
  go_upto_region 2 with (go_at_call 79; refine CC.out.mono ?_; rintro e w1 ⟨rfl, hba, hb1⟩; have HA := Lib.hid hba; have B1 := Lib.hid hb1; clear hba hb1)
  obtain ⟨hB, v, hbk, hown, hne⟩ := HA.out
  have W1 : Whole w1 b 75 #[.pointer (some ⟨b, 0, none⟩), v] := hbk
  have ba : Below w1.heap.size w1 (w1.alloc (.cells #[.int .u8 c] 5)) := (Below.refl _ _).alloc (Nat.le_refl _) _
  have hown2 := hown.kept (gbelow ba) (Classical.em _)
  obtain ⟨i, hi, hz0, hz1, hz2⟩ := info_parts infoB
  obtain ⟨v', w', hrun, h4, h5, _, h6⟩ := run_append_own_at (P := Tryz.prog) (w1.alloc (.cells #[.int .u8 c] 5)) B 23 23 5 i (.int .u8 0) 1 1 Tryz.underlying23 hi hz0 hz1 hz2 rfl (by decide) v bs.length bs hown2 ⟨w1.heap.size, 0, none⟩ 1 1 [.int .u8 c] rfl (news_at w1 5 [.int .u8 c] w1.heap.size rfl) (by intro u hu; obtain rfl := List.mem_singleton.1 hu; rfl) (by unfold maxLen; have := HL.out; omega) (by have := HL.out; omega) (by have := HBw.out; have := B1.out.size; have := ba.size; omega)
  obtain ⟨g9, cap9, rfl, _, _⟩ := h4.form (by omega)
  have W2 := (W1.keep ba).grown h5 (own_ne hown2 (W1.keep ba) (by decide))
  have hne' : (Value.slice (some ⟨g9, 0, none⟩) (bs.length + 1) cap9).ownBlock ≠ some b := fun e => by
    rcases h6 with h6 | h6
    · exact hne (h6.symm.trans e)
    · have h7 := Option.some.inj (h6.symm.trans e)
      have h8 := W1.lt
      have h9 := ba.size
      omega
  have FIN : Hid (Lib.BuilderAt 75 5 B b (.pointer (some ⟨b, 0, none⟩)) (bs ++ [.int .u8 c]) (w'.setCell ⟨b, 1, none⟩ (.slice (some ⟨g9, 0, none⟩) (bs.length + 1) cap9)) ∧ Below B w (w'.setCell ⟨b, 1, none⟩ (.slice (some ⟨g9, 0, none⟩) (bs.length + 1) cap9))) := Lib.hid ⟨⟨hB, _, W2.put 1 (.slice (some ⟨g9, 0, none⟩) (bs.length + 1) cap9), by
      have := h4.kept (grown_set (World.grownBy.refl w' (some b)) 1 (.slice (some ⟨g9, 0, none⟩) (bs.length + 1) cap9)) (.inr hne')
      rw [List.length_append]
      exact this, hne'⟩, ((B1.out.trans (ba.mono (Nat.le_trans HBw.out B1.out.size))).grown h5 (Nat.le_trans HBw.out (Nat.le_trans B1.out.size ba.size)) (fun k e => (hown2.lt k e).1)).setCell (p := ⟨b, 1, none⟩) hB _⟩
  have HR := Lib.hid hrun
  have c1 : w1.cell? ⟨b, 1, none⟩ = some v := W1.cell 1
  have c2 : w'.cell? ⟨b, 1, none⟩ = some v := W2.cell 1
  have f2 : w'.frozen? ⟨b, 1, none⟩ = false := W2.fr 1
  obtain ⟨A, cc, rfl, _⟩ := own_slice2 hown
  clear hB hbk hown hne W1 ba hown2 hrun h4 h5 h6 W2 hne' hi hz0 hz1 hz2 HA
  go_wp2_with (at_builtin; refine wpList_append_run rfl (.tmp 11) (.tmp 13) 23 23 rfl rfl rfl HR.out ?_)
  go_ret
  exact ⟨rfl, FIN.out⟩
end Go.Proofs.YtojodekmmkemgaaGreatDoor
