/- PrintAll. Conditions: the program's own variables lie as its start lays them; at most 10^12 operations. -/
import Derived.Test.YtojodekmmkemgaaGreatDoorScBd
import Derived.Test.YtojodekmmkemgaaGreatDoorScPr
namespace Go.Proofs.YtojodekmmkemgaaGreatDoor
open Go.RowKit Go.Shelf

theorem catL_len {l : List Ov} (h : ∀ o ∈ l, opOk o) : (catL l).length ≤ 2001 * l.length := by
  induction l with
  | nil => exact Nat.le_refl _
  | cons o l ih =>
    rw [catL_cons, List.length_append, List.length_cons, List.length_cons]
    have h1 := textO_len (h o (by simp))
    have h2 := ih (fun x hx => h x (by simp [hx]))
    omega
theorem catL_snoc (l : List Ov) (o : Ov) : catL (l ++ [o]) = catL l ++ textO o ++ [10] := by
  rw [catL_app, catL_cons, show catL [] = [] from rfl, List.append_assoc]
theorem wrongL_zero {l : List Ov} (h : wrongL l = 0) : l.length ≤ 2000 ∧ ∀ o ∈ l, opOk o := by
  unfold wrongL at h
  split at h
  · cases h
  · split at h
    · exact ⟨by omega, by assumption⟩
    · cases h
theorem bd_keep {B b : Nat} {bs : List Value} {w w' : World} (h : BdI B b bs w) (hb : Below w.heap.size w w') : BdI B b bs w' := by
  rcases h with ⟨h1, v, h2, h3, h4⟩ | ⟨h1, v, h2, h3, h4⟩
  · exact Or.inl ⟨h1, v, (show Whole w b _ _ from h2).keep hb, h3.kept (gbelow hb) (Classical.em _), h4⟩
  · exact Or.inr ⟨h1, v, (show Whole w b _ _ from h2).keep hb, h3.kept (gbelow hb) (Classical.em _), h4⟩
set_option maxRecDepth 100000 in
set_option maxHeartbeats 2000000 in
theorem prall_any (A : Option Addr) (n c : Nat) (l : List Oq) (w : World) (hE : DfE w) (hs : SlO w A l) (hn : n = l.length) (hb : n ≤ 1000000000000) :
    Calls Tryz.prog 12 #[.slice A n c] w fun e w' => e = .returned (.tuple #[.string ⟨(prAll (l.map (·.o))).1.toArray⟩, .int .i64 (prAll (l.map (·.o))).2]) ∧ Below w.heap.size w w' := by
  have CK := Lib.hid (checked_any A n c l w hs hn hb)
  by_cases h0 : wrongL (l.map (·.o)) = 0
  case neg =>
    obtain ⟨z, hz⟩ : ∃ z, z = wrongL (l.map (·.o)) := ⟨_, rfl⟩
    rw [← hz] at CK h0
    rw [prAll_no hz.symm h0]
    have e0 : (z == 0) = false := beq_eq_false_iff_ne.2 h0
    clear hz hs hn hb hE
    go_enter Tryz.func12, Tryz.ntmps12
    go_wp2_with (go_at_call 39; refine CK.out.mono ?_; rintro e w1 ⟨rfl, hB⟩)
    go_ret2
    exact ⟨rfl, hB⟩
  rw [h0] at CK
  have HZ := Lib.hid (wrongL_zero h0)
  have HW := Lib.hid h0
  have HS := Lib.hid hs
  have HN := Lib.hid hn
  have HE := Lib.hid hE
  have HB := Lib.hid hb
  have hn2 : n ≤ 2000 := by have := HZ.out.1; rw [List.length_map] at this; omega
  clear hs hn hE h0 hb
  go_enter Tryz.func12, Tryz.ntmps12
  go_upto_region 5 with (go_at_call 39; refine CK.out.mono ?_; rintro e w1 ⟨rfl, hB⟩; have B1 := Lib.hid hB; clear hB)
  have B2 := Lib.hid (B1.out.alloc B1.out.size (.cells #[.pointer none, .slice none 0 0] 75))
  have I2 : Hid (BdI w.heap.size w1.heap.size (Lib.byteCells (catL ((l.map (·.o)).take 0))) (w1.alloc (.cells #[.pointer none, .slice none 0 0] 75))) := Lib.hid (Or.inl ⟨B1.out.size, .slice none 0 0, World.alloc_heap_new w1 _, World.ownsRow_nil _ _ _ _, by simp [Value.ownBlock]⟩)
  generalize w1.alloc (.cells #[.pointer none, .slice none 0 0] 75) = w2 at B2 I2 ⊢
  generalize w1.heap.size = R at I2 ⊢
  go_wp2_with fail
  go_loopw [17] (fun i wr => ∃ k : Nat, k ≤ n ∧ i = .int .i64 k ∧ Hid (Below w.heap.size w wr ∧ BdI w.heap.size R (Lib.byteCells (catL ((l.map (·.o)).take k))) wr)) (fun i _ => n - (intOf i).toNat)
  case atStart => exact ⟨0, Nat.zero_le _, rfl, Lib.hid ⟨B2.out, I2.out⟩⟩
  case round =>
    obtain ⟨k, hk', rfl, H0⟩ := hrel
    by_cases hlt : k < n
    · obtain ⟨q, hq⟩ : ∃ q, l[k]? = some q := ⟨_, List.getElem?_eq_getElem (by rw [← HN.out]; exact hlt)⟩
      obtain ⟨g, o, rfl, hr, hi⟩ := (HS.out.keep H0.out.1) k q hq
      have ok : opOk q.o := HZ.out.2 q.o (List.mem_map.2 ⟨q, List.mem_of_getElem? hq, rfl⟩)
      have hsn : (l.map (·.o)).take (k + 1) = (l.map (·.o)).take k ++ [q.o] := by rw [List.take_add_one, List.getElem?_map, hq]; rfl
      have HC : Hid ((catL ((l.map (·.o)).take k)).length ≤ 4002000) := Lib.hid (by
        have h1 := catL_len (l := (l.map (·.o)).take k) (fun o ho => HZ.out.2 o (List.mem_of_mem_take ho))
        have h2 : ((l.map (·.o)).take k).length ≤ k := by rw [List.length_take]; omega
        omega)
      have HR := Lib.hid hr
      have BX : Hid (Below wr.heap.size wr (wr.alloc (.cells (qL q).toArray 34))) := Lib.hid ((Below.refl _ _).alloc (Nat.le_refl _) _)
      have RW : Hid (Whole (wr.alloc (.cells (qL q).toArray 34)) wr.heap.size 34 (qL q).toArray) := Lib.hid (Whole.new wr _ _)
      have IN := Lib.hid (hi.keep BX.out)
      have TX := txtO_yes ok
      have CO := ckO_yes ok
      have PR := fun (W : World) (hW : DfE W) (hin : OpIn W q.o q.A q.n q.m) => oprint_any q.o q.A q.n q.m W hW hin
      rw [TX, CO] at PR
      have PR : Hid (∀ W : World, DfE W → OpIn W q.o q.A q.n q.m → Calls Tryz.prog 22 #[.agg (qL q).toArray] W fun e w' => e = .returned (.tuple #[.string ⟨(textO q.o).toArray⟩, .int .i64 0]) ∧ Below W.heap.size W w') := Lib.hid PR
      have TL := Lib.hid (textO_len ok)
      have HSN := Lib.hid hsn
      have all : (qL q).toArray.all (·.oneCell') = true := all10 q.o q.A q.n q.m
      have inf : (Tryz.prog.info? 34).map (·.size) = some (qL q).toArray.size := info10 q.o q.A q.n q.m
      have HX : Hid (Below w.heap.size w (wr.alloc (.cells (qL q).toArray 34)) ∧ BdI w.heap.size R (Lib.byteCells (catL ((l.map (·.o)).take k))) wr) := Lib.hid ⟨H0.out.1.alloc H0.out.1.size _, H0.out.2⟩
      clear hq hr hi ok hsn TX CO
      have HCT : Hid (catL ((l.map (·.o)).take (k + 1)) = catL ((l.map (·.o)).take k) ++ textO q.o ++ [10]) := Lib.hid (by rw [HSN.out, catL_snoc])
      generalize textO q.o = tx at PR TL HCT
      go_wp2_with (first
        | (refine wpList_load_mid rfl 34 (.tmp 19) rfl g (o + k * 10) rfl (qL q) _ HR.out Tryz.underlying34 rfl (infoq q) ?_)
        | (refine wpList_store_row rfl 34 (.tmp 7) (.tmp 20) rfl _ (qL q).toArray rfl rfl 34 _ (heap_alloc_new _ _) inf rfl all ?_; rw [World.setRow_alloc_new])
        | (refine wpList_load_row rfl 34 (.tmp 7) rfl wr.heap.size rfl 34 (qL q).toArray (0, 0) _ RW.out Tryz.underlying34 rfl inf ?_)
        | (go_at_call 22; refine (PR.out _ (HE.out.keep HX.out.1) IN.out).mono ?_; rintro e w4 ⟨rfl, hb4⟩; have B4 := Lib.hid (HX.out.1.trans (hb4.mono HX.out.1.size)); have D4 := Lib.hid (bd_keep (bd_keep HX.out.2 BX.out) hb4); clear hb4 PR)
        | (go_at_call 40; refine (wstr_any w.heap.size R _ ⟨tx.toArray⟩ w4 D4.out (by rw [Lib.byteCells_length, Lib.size_mk]; have := HC.out; have := TL.out; omega) B4.out.size).mono ?_; rintro e w5 ⟨rfl, hd5, hb5⟩; have D5 := Lib.hid hd5; have B5 := Lib.hid (B4.out.trans hb5); clear hd5 hb5)
        | (go_at_call 41; refine (wbyte_any w.heap.size R _ 10 w5 (Or.inr D5.out) (by rw [List.length_append, Lib.byteCells_length, Lib.strCells_length, Lib.size_mk]; have := HC.out; have := TL.out; omega) B5.out.size).mono ?_; rintro e w6 ⟨rfl, hd6, hb6⟩; have D6 := Lib.hid hd6; have B6 := Lib.hid (B5.out.trans hb6); clear hd6 hb6))
      go_roundw
      case rel => exact ⟨k + 1, by omega, by go_num, Lib.hid ⟨B6.out, Or.inr (by
        have := D6.out
        rw [HCT.out, show Lib.byteCells (catL ((l.map (·.o)).take k) ++ tx ++ [10]) = Lib.byteCells (catL ((l.map (·.o)).take k)) ++ Lib.strCells ⟨tx.toArray⟩ ++ [.int .u8 10] by unfold Lib.byteCells Lib.strCells; rw [List.map_append, List.map_append]; rfl]
        exact this)⟩⟩
      case measure => simp [intOf]; omega
    · obtain rfl : k = n := by omega
      have hfull : (l.map (·.o)).take k = l.map (·.o) := List.take_of_length_le (by rw [List.length_map]; have := HN.out; omega)
      have HD : Hid (Below w.heap.size w wr ∧ BdI w.heap.size R (Lib.byteCells (catL (l.map (·.o)))) wr) := Lib.hid (by have := H0.out; rw [hfull] at this; exact this)
      have BL := Lib.hid (blen_any w.heap.size R _ wr HD.out.2)
      have BS := Lib.hid (bstr_any w.heap.size R _ wr HD.out.2 HD.out.1.size)
      rw [Lib.byteCells_length] at BL
      clear H0 hfull
      by_cases hlong : 65536 < (catL (l.map (·.o))).length
      · have HP := Lib.hid (prAll_long HW.out hlong)
        have h6 : (65536 : Int) < ((catL (l.map (·.o))).length : Int) := by omega
        clear hlong BS
        generalize (catL (l.map (·.o))).length = N at BL h6
        go_wp2_with (go_at_call 42; refine BL.out.mono ?_; rintro e w7 ⟨rfl, rfl⟩)
        go_ret2
        rw [HP.out]
        exact ⟨rfl, HD.out.1⟩
      · have HP := Lib.hid (prAll_yes HW.out (by omega))
        have h6 : ¬ ((65536 : Int) < ((catL (l.map (·.o))).length : Int)) := by omega
        clear hlong
        generalize (catL (l.map (·.o))).length = N at BL h6
        generalize catL (l.map (·.o)) = T at BS HD HP ⊢
        go_wp2_with (first
          | (go_at_call 42; refine BL.out.mono ?_; rintro e w7 ⟨rfl, rfl⟩)
          | (go_at_call 43; refine BS.out.mono ?_; rintro e w8 ⟨rfl, hb8⟩))
        go_ret2
        rw [HP.out]
        exact ⟨rfl, HD.out.1.trans hb8⟩
end Go.Proofs.YtojodekmmkemgaaGreatDoor
