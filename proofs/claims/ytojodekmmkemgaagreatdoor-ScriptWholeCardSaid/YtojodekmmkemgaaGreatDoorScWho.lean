/- Merged by program: ScPut, ScSpA, ScWhP, LScWho. -/
import Derived.Test.YtojodekmmkemgaaGreatDoorScChk
import Derived.Test.YtojodekmmkemgaaGreatDoorShelfH
import Derived.Shelf.Spec.SlicesInsert
import Derived.Shelf.Spec.SlicesInsertGrow
import Derived.Lib.SplitLaws
import Derived.Lib.IndexBytes
import Derived.Test.YtojodekmmkemgaaGreatDoorScNums
import Derived.Test.YtojodekmmkemgaaGreatDoorScSam
import Derived.Test.YtojodekmmkemgaaGreatDoorScPrA
import Derived.Test.YtojodekmmkemgaaGreatDoorScPall
import Derived.Test.YtojodekmmkemgaaGreatDoorScWk
import Derived.Great.Walk
namespace Go.Proofs.YtojodekmmkemgaaGreatDoor
section
open Go.RowKit Go.Shelf

theorem whole_cells : ∀ (vs : List Value) (o : Nat) (W : World) (g : Nat) (t : TypeId) (cur : Array Value), Whole W g t cur → o + vs.length ≤ cur.size →
    ∃ cur', Whole (W.setCells g o vs) g t cur' ∧ cur'.size = cur.size ∧ ∀ j, cur'[j]? = if o ≤ j ∧ j < o + vs.length then vs[j - o]? else cur[j]?
  | [], o, W, g, t, cur, h, _ => ⟨cur, h, rfl, fun j => by rw [if_neg (by simp only [List.length_nil]; omega)]⟩
  | v :: r, o, W, g, t, cur, h, hl => by
    rw [List.length_cons] at hl
    obtain ⟨c', h2, h3, h4⟩ := whole_cells r (o + 1) (W.setCell ⟨g, o, none⟩ v) g t (cur.setIfInBounds o v) (h.put o v) (by rw [Array.size_setIfInBounds]; omega)
    refine ⟨c', h2, by rw [h3, Array.size_setIfInBounds], fun j => ?_⟩
    rw [h4 j, List.length_cons]
    by_cases hj : j = o
    · subst hj
      rw [if_neg (by omega), if_pos (by omega), Nat.sub_self, List.getElem?_cons_zero, Array.getElem?_setIfInBounds, if_pos rfl, if_pos (by omega)]
    · by_cases h5 : o + 1 ≤ j ∧ j < o + 1 + r.length
      · rw [if_pos h5, if_pos (by omega), show j - o = j - (o + 1) + 1 by omega, List.getElem?_cons_succ]
      · rw [if_neg h5, if_neg (by omega), Array.getElem?_setIfInBounds, if_neg (fun e => hj e.symm)]
theorem below_cells {B g : Nat} {w0 : World} (hg : B ≤ g) : ∀ (vs : List Value) (o : Nat) (W : World), Below B w0 W → Below B w0 (W.setCells g o vs)
  | [], _, _, h => h
  | v :: r, o, _, h => below_cells hg r (o + 1) _ (h.setCell (p := ⟨g, o, none⟩) hg v)
/-- Texts in a row of the call's own. -/
structure PcS (B : Nat) (w0 : World) (v : Value) (ws : List ByteArray) (W : World) : Prop where
  bl : Below B w0 W
  row : ∃ (g c : Nat) (cur : Array Value), v = .slice (some ⟨g, 0, none⟩) ws.length c ∧ B ≤ g ∧ Whole W g 9 cur ∧ cur.size = c ∧ ws.length ≤ c ∧ c ≤ 9223372036854775807 ∧ ∀ (j : Nat) t, ws[j]? = some t → cur[j]? = some (.string t)
theorem PcS.keep {B : Nat} {w0 W W' : World} {v : Value} {ws : List ByteArray} (h : PcS B w0 v ws W) (hB : B ≤ W.heap.size) (hb : Below W.heap.size W W') : PcS B w0 v ws W' := by
  obtain ⟨g, c, cur, h1, h2, h3, h4⟩ := h.row
  exact ⟨h.bl.trans (hb.mono hB), g, c, cur, h1, h2, h3.keep hb, h4⟩
theorem sV_one (ws : List ByteArray) : ∀ u ∈ ws.map sV, u.oneCell' = true := fun u hu => by
  obtain ⟨t, _, rfl⟩ := List.mem_map.1 hu
  rfl
theorem put_get {ws : List ByteArray} {i j : Nat} {m t : ByteArray} (hi : i < ws.length) (h : (ws.take i ++ m :: ws.drop i)[j]? = some t) : (j < i ∧ ws[j]? = some t) ∨ (j = i ∧ t = m) ∨ (i < j ∧ j < ws.length + 1 ∧ ws[j - 1]? = some t) := by
  have hl : (ws.take i).length = i := by rw [List.length_take]; omega
  by_cases h1 : j < i
  · left
    rw [List.getElem?_append_left (by omega), List.getElem?_take, if_pos h1] at h
    exact ⟨h1, h⟩
  · rw [List.getElem?_append_right (by omega), hl] at h
    by_cases h2 : j = i
    · subst h2
      rw [Nat.sub_self, List.getElem?_cons_zero] at h
      exact Or.inr (Or.inl ⟨rfl, (Option.some.inj h).symm⟩)
    · right; right
      rw [show j - i = (j - i - 1) + 1 by omega, List.getElem?_cons_succ, List.getElem?_drop, show i + (j - i - 1) = j - 1 by omega] at h
      have := (List.getElem?_eq_some_iff.1 h).1
      exact ⟨by omega, by omega, h⟩
set_option maxHeartbeats 2000000 in
theorem insert_any (B : Nat) (w0 w : World) (v : Value) (ws : List ByteArray) (i : Nat) (m : ByteArray) (vb : Nat) (h : PcS B w0 v ws w) (hv : Whole w vb 9 #[.string m]) (hB : B ≤ w.heap.size) (hne : ∀ a n c, v = .slice (some a) n c → vb ≠ a.block) (hi : i < ws.length) (hl : ws.length ≤ 1000) :
    Calls Tryz.prog 17 #[v, .int .i64 (i : Int), .slice (some ⟨vb, 0, none⟩) 1 1] w fun e w' => ∃ v', e = .returned v' ∧ PcS B w0 v' (ws.take i ++ m :: ws.drop i) w' := by
  obtain ⟨g, c, cur, rfl, hBg, hw, hsz, hle, hc63, hc⟩ := h.row
  have hlen : (ws.take i ++ m :: ws.drop i).length = ws.length + 1 := by
    rw [List.length_append, List.length_cons, List.length_take, List.length_drop]; omega
  have hml : (ws.map sV).length = ws.length := List.length_map _
  have hcs : ∀ j u, (ws.map sV)[j]? = some u → w.cell? ⟨g, 0 + j, none⟩ = some u := fun j u hj => by
    rw [List.getElem?_map, Option.map_eq_some_iff] at hj
    obtain ⟨t, ht, rfl⟩ := hj
    rw [Nat.zero_add, hw.cell]
    exact hc j t ht
  have hvs : ∀ j u, ([sV m] : List Value)[j]? = some u → w.cell? ⟨vb, 0 + j, none⟩ = some u := fun j u hj => by
    rw [Nat.zero_add, hv.cell]
    simpa [sV] using hj
  have h1v : ∀ u ∈ ([sV m] : List Value), u.oneCell' = true := fun u hu => by rw [List.mem_singleton.1 hu]; rfl
  have hvne : vb ≠ g := hne _ _ _ rfl
  by_cases hroom : ws.length + 1 ≤ c
  · have hsa : w.shape? vb = some (9, 1) := by have h1 : w.heap[vb]? = _ := hv; unfold World.shape?; rw [h1]; rfl
    have hsb : w.shape? g = some (9, c) := by have h1 : w.heap[g]? = _ := hw; unfold World.shape?; rw [h1]; dsimp only; rw [hsz]
    have S := Any2.slices_Insert_string_shift Tryz.insertS g 0 ws.length c i vb 0 1 1 (ws.map sV) [sV m] w hi (by decide) hroom hc63 hvne hml rfl hcs
      (fun j hj => by rw [Nat.zero_add, hw.cell, Array.getElem?_eq_getElem (by omega)]; rfl) (fun j _ => by rw [Nat.zero_add]; exact hw.fr j) hvs (sV_one ws) h1v 9 9 1 c hsa hsb (by omega) (hv.fr 0) (hv.fr 1)
    refine S.mono ?_
    rintro e w' ⟨rfl, rfl⟩
    have hwd : Whole w.drew g 9 cur := hw
    obtain ⟨cur1, hw1, hs1, he1⟩ := whole_cells ((ws.map sV).drop i) (0 + (i + 1)) w.drew g 9 cur hwd (by rw [List.length_drop, hml]; omega)
    obtain ⟨cur2, hw2, hs2, he2⟩ := whole_cells [sV m] (0 + i) _ g 9 cur1 hw1 (by rw [List.length_singleton]; omega)
    refine ⟨_, rfl, below_cells hBg _ _ _ (below_cells hBg _ _ _ h.bl.drew), g, c, cur2, by rw [hlen], hBg, hw2, by omega, by omega, hc63, fun j t hj => ?_⟩
    rw [he2 j, he1 j, List.length_singleton, List.length_drop, hml]
    rcases put_get hi hj with ⟨h1, h2⟩ | ⟨rfl, rfl⟩ | ⟨h1, h2, h3⟩
    · rw [if_neg (by omega), if_neg (by omega)]
      exact hc j t h2
    · rw [if_pos (by omega), show j - (0 + j) = 0 by omega]
      rfl
    · rw [if_neg (by omega), if_pos (by omega), List.getElem?_drop, show i + (j - (0 + (i + 1))) = j - 1 by omega, List.getElem?_map, h3]
      rfl
  · have hge := grownCap_ge w (ws.length + 1) c 9
    have hmx := grownCap_le_maxLen w (ws.length + 1) c 9 (by unfold maxLen; omega)
    unfold maxLen at hmx
    have S := Any2.slices_Insert_string_grow Tryz.insertS g 0 ws.length c i vb 0 1 1 (ws.map sV) [sV m] w hi (by decide) hle (by omega) (by omega) hml rfl hcs hvs (sV_one ws) h1v
    refine S.mono ?_
    rintro e w' ⟨rfl, rfl⟩
    obtain ⟨K, hK⟩ : ∃ K, K = grownCap w (ws.length + 1) c 9 := ⟨_, rfl⟩
    rw [← hK] at hge hmx
    obtain ⟨A0, hA0⟩ : ∃ A0 : Array Value, A0 = ((ws.map sV).take i).toArray ++ Builtin.zeroCells (Value.string ⟨#[]⟩).cells (ws.length + 1 - i) ++ Builtin.zeroCells (Value.string ⟨#[]⟩).cells (K - (ws.length + 1)) := ⟨_, rfl⟩
    have hti : ((ws.map sV).take i).length = i := by rw [List.length_take, hml]; omega
    have hAs : A0.size = K := by
      rw [hA0, Array.size_append, Array.size_append, size_zeroCells, size_zeroCells, List.size_toArray, hti]
      show i + (ws.length + 1 - i) * 1 + (K - (ws.length + 1)) * 1 = K
      omega
    have hAg : ∀ j, j < i → A0[j]? = (ws.map sV)[j]? := fun j hj => by
      rw [hA0, Array.append_assoc, Array.getElem?_append_left (by rw [List.size_toArray, hti]; exact hj), List.getElem?_toArray, List.getElem?_take, if_pos hj]
    have hwn : Whole (w.alloc (.cells A0 9)).drew w.heap.size 9 A0 := Whole.new w 9 A0
    obtain ⟨cur1, hw1, hs1, he1⟩ := whole_cells [sV m] i _ w.heap.size 9 A0 hwn (by rw [List.length_singleton]; omega)
    obtain ⟨cur2, hw2, hs2, he2⟩ := whole_cells ((ws.map sV).drop i) (i + 1) _ w.heap.size 9 cur1 (show Whole (((w.alloc (.cells A0 9)).drew.setCells w.heap.size i [sV m]).drew) w.heap.size 9 cur1 from hw1) (by rw [List.length_drop, hml]; omega)
    rw [hA0] at hw2
    rw [hK] at hw2
    refine ⟨_, rfl, below_cells hB _ _ _ (below_cells hB _ _ _ (h.bl.alloc hB _).drew).drew, w.heap.size, K, cur2, by rw [hlen, hK]; rfl, hB, hw2, by omega, by omega, by omega, fun j t hj => ?_⟩
    rw [he2 j, he1 j, List.length_singleton, List.length_drop, hml]
    rcases put_get hi hj with ⟨h1, h2⟩ | ⟨rfl, rfl⟩ | ⟨h1, h2, h3⟩
    · rw [if_neg (by omega), if_neg (by omega), hAg j h1, List.getElem?_map, h2]
      rfl
    · rw [if_neg (by omega), if_pos (by omega), Nat.sub_self]
      rfl
    · rw [if_pos (by omega), List.getElem?_drop, show i + (j - (i + 1)) = j - 1 by omega, List.getElem?_map, h3]
      rfl
end
section
open Go.RowKit Go.Shelf

theorem idx_line : ∀ (q r : List UInt8), (10 : UInt8) ∉ q → Lib.index (q ++ 10 :: r) [10] = q.length
  | [], r, _ => by
    show Lib.index (10 :: r) [10] = 0
    rw [Lib.index]
    simp [List.isPrefixOf]
  | b :: q, r, h => by
    have hb : b ≠ 10 := fun e => h (by rw [e]; exact List.mem_cons_self ..)
    have ih := idx_line q r (fun e => h (List.mem_cons_of_mem _ e))
    have hp : ([10] : List UInt8).isPrefixOf (b :: (q ++ 10 :: r)) = false := by simp [List.isPrefixOf, Ne.symm hb]
    have hx : Lib.index (b :: (q ++ 10 :: r)) [10] = if Lib.index (q ++ 10 :: r) [10] == -1 then -1 else Lib.index (q ++ 10 :: r) [10] + 1 := by rw [Lib.index, hp]; simp
    rw [List.cons_append, hx, ih, if_neg (by intro e; have := beq_iff_eq.1 e; omega), List.length_cons]
    omega
theorem split_end : ∀ qs : List (List UInt8), (∀ l ∈ qs, (10 : UInt8) ∉ l) → Lib.splitK [10] 1 qs.length (endL qs) = piecesL qs
  | [], _ => rfl
  | q :: qs, h => by
    have hq := h q (List.mem_cons_self ..)
    have ih := split_end qs (fun l hl => h l (List.mem_cons_of_mem _ hl))
    rw [endL_cons, List.length_cons, Lib.splitK, idx_line q _ hq, if_neg (by intro e; have := beq_iff_eq.1 e; omega)]
    show (q ++ 10 :: endL qs).take (q.length + 1) :: Lib.splitK [10] 1 qs.length ((q ++ 10 :: endL qs).drop (q.length + 1)) = _
    rw [show q ++ 10 :: endL qs = (q ++ [10]) ++ endL qs by simp, List.take_left' (by simp), List.drop_left' (by simp), ih]
    rfl
theorem count_lines {qs : List (List UInt8)} (h : ∀ l ∈ qs, (10 : UInt8) ∉ l) : Lib.count (endL qs) [10] = qs.length := by
  rw [Lib.count_one]
  exact count_end qs h
set_option maxHeartbeats 1000000 in
theorem splitAfter_any (s : ByteArray) (qs : List (List UInt8)) (w : World) (hE : DfE w) (hs : s.data.toList = endL qs) (hq : ∀ l ∈ qs, (10 : UInt8) ∉ l) (hz : s.size ≤ 1000000) :
    Calls Tryz.prog 16 #[.string s, .string ⟨#[10]⟩] w fun e w' => ∃ ws : List ByteArray, ws.map (·.data.toList) = piecesL qs ∧ e = .returned (.slice (some ⟨w.heap.size, 0, none⟩) ws.length ws.length) ∧ w' = w.alloc (.cells (ws.map sV).toArray 9) := by
  obtain ⟨m, hm⟩ : ∃ m, w.cell? ⟨0, 0, none⟩ = some (.int .i64 m) := Tryz.laysM147.s1_3 w hE.sh
  have hcb : Lib.countB s ⟨#[10]⟩ = qs.length := by
    show Lib.count s.data.toList [10] = _
    rw [hs, count_lines hq]
  have hle := Lib.countB_le ⟨#[10]⟩ (by decide) s.size s (Nat.le_refl _)
  have G := Tryz.strings_genSplit s ⟨#[10]⟩ 1 (-1) (qs.length + 1) m w (by omega) hm (by decide) (by decide) (by decide) (by decide) (by rw [hcb] at hle ⊢; rw [if_pos (by decide)]; omega)
  obtain ⟨ws, hws⟩ : ∃ ws, ws = Lib.splitB ⟨#[10]⟩ 1 (qs.length + 1 - 1) s := ⟨_, rfl⟩
  rw [← hws] at G
  have hd : ws.map (·.data.toList) = piecesL qs := by
    rw [hws, Lib.splitB_data, hs]
    exact split_end qs hq
  have hl : ws.length = qs.length + 1 := by
    have := congrArg List.length hd
    rw [List.length_map, piecesL_len] at this
    exact this
  rw [← hl, Lib.cellsOf_full] at G
  have G := Lib.hid G
  clear hcb hle hm hws hl hs hq hE hz
  go_enter Tryz.func16, Tryz.ntmps16
  go_wp2_with (go_at_call 49; refine G.out.mono ?_; rintro e w1 ⟨rfl, rfl⟩)
  go_ret
  exact ⟨ws, hd, rfl, rfl⟩
end
section
open Go.RowKit Go.Shelf

/-- Operations so far, in a row of the call's own. -/
structure PwI (wL : World) (l : List Oq) (v : Value) (W : World) : Prop where
  bl : Below wL.heap.size wL W
  own : W.ownsRow wL.heap.size 34 10 v l.length (l.flatMap qL)
  ins : ∀ q ∈ l, OpIn W q.o q.A q.n q.m
  ne : ∀ q ∈ l, ∀ a : Addr, q.A = some a → q.o.d.s ≠ [] → some a.block ≠ v.ownBlock
  le : l.length ≤ 2000
theorem PwI.keep {wL W W' : World} {l : List Oq} {v : Value} (h : PwI wL l v W) (hb : Below W.heap.size W W') : PwI wL l v W' :=
  ⟨h.bl.trans (hb.mono h.bl.size), h.own.kept (gbelow hb) (Classical.em _), fun q hq => (h.ins q hq).keep hb, h.ne, h.le⟩
theorem PwI.app {wL W : World} {l : List Oq} {v : Value} (h : PwI wL l v W) (q : Oq) (hq : OpIn W q.o q.A q.n q.m) (hne : ∀ a : Addr, q.A = some a → q.o.d.s ≠ [] → some a.block ≠ v.ownBlock) (hl : l.length < 2000) :
    ∃ v' w', (Builtin.append_ #[24, 24] 24 #[v, .slice (some ⟨W.heap.size, 0, none⟩) 1 1]).run Tryz.prog (W.alloc (.cells (oA q.o q.A q.n q.m) 34)) = .ok v' w' ∧ PwI wL (l ++ [q]) v' w' := by
  have ba := (Below.refl W.heap.size W).alloc (Nat.le_refl _) (.cells (oA q.o q.A q.n q.m) 34)
  have K := h.keep ba
  have hin := hq.keep ba
  obtain ⟨v', w', hrun, h2, h3, h4⟩ := run_app_op (W.alloc (.cells (oA q.o q.A q.n q.m) 34)) wL.heap.size v l.length (l.flatMap qL) K.own ⟨W.heap.size, 0, none⟩ 1 1 (qL q) (by rw [qL_len]) (fun j u hu => by
      have ha : (⟨W.heap.size, 0, none⟩ : Addr).add j = ⟨W.heap.size, j, none⟩ := by unfold Addr.add; split <;> simp_all
      rw [ha, (Whole.new W 34 (oA q.o q.A q.n q.m)).cell, ← Array.getElem?_toList]
      exact hu) (fun u hu => by
      have h10 := all10 q.o q.A q.n q.m
      rw [Array.all_eq_true_iff_forall_mem] at h10
      exact h10 u (by unfold qL at hu; simpa using hu)) (by omega) K.bl.size
  refine ⟨v', w', hrun, K.bl.grown h3 K.bl.size (fun k e => (K.own.lt k e).1), ?_, fun p hp => ?_, fun p hp a ha hs => ?_, ?_⟩
  · rw [List.length_append, List.flatMap_append]
    simpa using h2
  · rcases List.mem_append.1 hp with hp | hp
    · exact ⟨(K.ins p hp).d.grown h3 (fun a ha hs => K.ne p hp a ha hs), (K.ins p hp).z⟩
    · rw [List.mem_singleton.1 hp]
      exact ⟨hin.d.grown h3 hne, hin.z⟩
  · rcases List.mem_append.1 hp with hp | hp
    · rcases h4 with e | e
      · rw [e]; exact K.ne p hp a ha hs
      · rw [e]
        have := slD_lt (K.ins p hp).d.s a ha hs
        intro e2
        have := Option.some.inj e2
        omega
    · rw [List.mem_singleton.1 hp] at ha hs
      rcases h4 with e | e
      · rw [e]; exact hne a ha hs
      · rw [e]
        have := slD_lt hin.d.s a ha hs
        intro e2
        have := Option.some.inj e2
        omega
  · rw [List.length_append, List.length_singleton]; omega
theorem join_none : ∀ xs : List (List UInt8), Lib.join xs [] = xs.flatten
  | [] => rfl
  | [a] => by simp [Lib.join, List.intercalate]
  | a :: b :: l => by
    have ih := join_none (b :: l)
    simp [Lib.join, List.intercalate] at ih ⊢
    exact ih
theorem trim_end (qs : List (List UInt8)) : Lib.trimSuffix (endL qs) [10] = cutL qs := by
  by_cases h : qs = []
  · subst h; rfl
  · rw [endL_last h]
    unfold Lib.trimSuffix
    rw [if_pos (by simp [Lib.hasSuffix])]
    rw [List.length_append, List.length_singleton, Nat.add_sub_cancel, List.take_left' rfl]
theorem cutL_le (qs : List (List UInt8)) : (cutL qs).length ≤ (endL qs).length := by
  unfold cutL
  rw [List.length_dropLast]
  omega
theorem endL_put (qs : List (List UInt8)) (m : List UInt8) (i : Nat) : (endL (qs.take i ++ m :: qs.drop i)).length = (endL qs).length + m.length + 1 := by
  rw [endL_app, endL_cons, List.length_append, List.length_append, List.length_cons]
  have h : (endL qs).length = (endL (qs.take i)).length + (endL (qs.drop i)).length := by
    conv => lhs; rw [← List.take_append_drop i qs, endL_app, List.length_append]
  omega
theorem moreS_len (k : Nat) : (moreS k).length ≤ 8 := by
  match k with
  | 0 | 1 | 2 => decide
  | k + 3 => show ([35, 116, 105, 99, 107, 32, 57, 57] : List UInt8).length ≤ 8; decide
def lineV : Array Value := ((List.range 4).map fun i : Nat => Value.string ⟨(moreS i ++ [10]).toArray⟩).toArray
theorem lineV_get (k : Nat) (h : k < 4) : lineV[k]? = some (.string ⟨(moreS k ++ [10]).toArray⟩) := by
  unfold lineV
  rw [List.getElem?_toArray, List.getElem?_map, List.getElem?_range h]
  rfl
theorem cut_toB (p : Option Addr) (q M c : Nat) (h1 : q ≤ c) (w : World) : (Instr.slice 23 (.slice p M c) none (some (.int .i64 (q : Int))) none).run Tryz.prog w = .ok (.slice p q c) w := by
  have hs : (sizeOf (Tryz.prog.elem 23)).run Tryz.prog w = .ok 1 w := by kernel_rfl
  have hu : Tryz.prog.underlying 23 = some (.slice (Tryz.prog.elem 23)) := by kernel_rfl
  rw [run_slice_h w 23 _ M c hu .i64 (q : Int) (by omega) (by omega), hs]
  show Result.ok (sliced _ 0 q c 1) w = _
  cases p with
  | none => simp [sliced]
  | some a => simp [sliced, Addr.add]
/-- The pieces of a text with lines put in. -/
structure PcQ (ops : List Ov) (j : Nat) (ws : List ByteArray) (qs : List (List UInt8)) : Prop where
  pc : ws.map (·.data.toList) = piecesL qs
  fl : qs.filter (fun l => !passL l) = ops.map textO
  ln : ∀ l ∈ qs, (10 : UInt8) ∉ l
  le : qs.length ≤ 40 + j
  sz : (endL qs).length ≤ 38000 + 10 * j
theorem PcQ.len {ops : List Ov} {j : Nat} {ws : List ByteArray} {qs : List (List UInt8)} (h : PcQ ops j ws qs) : ws.length = qs.length + 1 := by
  have := congrArg List.length h.pc
  rwa [List.length_map, piecesL_len] at this
theorem PcQ.put {ops : List Ov} {j : Nat} {ws : List ByteArray} {qs : List (List UInt8)} (h : PcQ ops j ws qs) (i r : Nat) (hi : i < ws.length) (m : ByteArray) (hm : m.data.toList = moreS r ++ [10]) :
    PcQ ops (j + 1) (ws.take i ++ m :: ws.drop i) (qs.take i ++ moreS r :: qs.drop i) := by
  have hl := h.len
  have h8 := moreS_len r
  refine ⟨?_, by rw [filter_put (moreS_pass r)]; exact h.fl, line_put (moreS_line r) h.ln i, ?_, by rw [endL_put]; have := h.sz; omega⟩
  · rw [List.map_append, List.map_cons, List.map_take, List.map_drop, h.pc, hm]
    exact pieces_put qs (moreS r) i (by omega)
  · rw [List.length_append, List.length_cons, List.length_take, List.length_drop]
    have := h.le
    omega
end
section
open Go.RowKit Go.Shelf

set_option maxRecDepth 100000 in
set_option maxHeartbeats 16000000 in
theorem scriptWhole_any (A : Option Addr) (n c : Nat) (l : List No) (Ab : Option Addr) (nb cb : Nat) (lb : List UInt8) (w : World) (hE : DfE w) (hs : SlN w A l) (hn : l.length = n) (hnc : n ≤ c) (hn63 : n ≤ 9223372036854775807) (hb : SlB w Ab nb lb) (hbc : nb ≤ cb) (hb63 : nb ≤ 9223372036854775807) :
    Calls Tryz.prog 3 #[.slice A n c, .slice Ab nb cb] w fun e w' => e = .returned (.bool true) ∧ Below w.heap.size w w' := by
  have HE := Lib.hid (fun (W : World) (hb : Below w.heap.size w W) => hE.keep hb)
  have WK := Lib.hid (fun (W : World) (hb : Below w.heap.size w W) => works_any W (hE.keep hb))
  obtain ⟨z, hz⟩ : ∃ z : Nat, z = min n 40 := ⟨_, rfl⟩
  have hz40 : z ≤ 40 := by omega
  have hzn : z ≤ n := by omega
  have hmin : (min (n : Int) 40) = (z : Int) := by omega
  have hcut := cut_toN A z n c (by omega)
  obtain ⟨y, hy⟩ : ∃ y : Nat, y = min nb 20 := ⟨_, rfl⟩
  have hy20 : y ≤ 20 := by omega
  have hynb : y ≤ nb := by omega
  have hmin2 : (min (nb : Int) 20) = (y : Int) := by omega
  have hcut2 := cut_toB Ab y nb cb (by omega)
  have HOK := Lib.hid (opsN_ok (slN_z hs))
  have HS := Lib.hid hs
  have HBS := Lib.hid hb
  have HL := Lib.hid (And.intro hn (And.intro hzn hz40))
  have HY := Lib.hid (And.intro hynb hy20)
  have HC2 := Lib.hid (And.intro hmin2 hcut2)
  clear hE hs hn hnc hn63 hz hy hb hbc hb63 hzn hynb hmin2 hcut2
  go_enter Tryz.func3, Tryz.ntmps3
  go_wp2_with fail
  clear hcut hmin
  go_loopw [5, 24] (fun v i wr => ∃ (j : Nat) (L : List Oq), j ≤ z ∧ i = .int .i64 j ∧ Hid (PwI w L v wr ∧ L.map (·.o) = opsN l j)) (fun _ i _ => z - (intOf i).toNat)
  case atStart => exact ⟨0, [], Nat.zero_le _, rfl, Lib.hid ⟨⟨Below.refl _ _, ⟨rfl, Or.inl ⟨rfl, rfl⟩⟩, (fun q h => by cases h), (fun q h => by cases h), Nat.zero_le _⟩, rfl⟩⟩
  case round =>
    obtain ⟨j, L, hj, rfl, HI⟩ := hrel
    obtain ⟨A5, c5, rfl, hmc⟩ := own_slice2 HI.out.1.own
    obtain ⟨m, hm⟩ : ∃ m, m = L.length := ⟨_, rfl⟩
    have HM := Lib.hid hm
    rw [← hm] at HI hmc ⊢
    have hmj : m = j := by
      have := congrArg List.length HI.out.2
      rw [List.length_map, opsN_len (by have := HL.out.1; have := HL.out.2.1; omega)] at this
      omega
    clear hm
    by_cases hlt : j < z
    · obtain ⟨x, hx⟩ : ∃ x, l[j]? = some x := ⟨_, List.getElem?_eq_getElem (by have := HL.out.1; have := HL.out.2.1; omega)⟩
      obtain ⟨hzx, g, o, rfl, hr⟩ := (HS.out.keep HI.out.1.bl) j x hx
      have HR := Lib.hid hr
      have hltI : (j : Int) < (z : Int) := by omega
      have hj0 : (0 : Int) ≤ (j : Int) := by omega
      obtain ⟨cc, hcc⟩ : ∃ cc, cc = madeO x := ⟨_, rfl⟩
      have BX : Hid (Below wr.heap.size wr (wr.alloc (.cells (nLo x).toArray 27))) := Lib.hid ((Below.refl _ _).alloc (Nat.le_refl _) _)
      have RW : Hid (Whole (wr.alloc (.cells (nLo x).toArray 27)) wr.heap.size 27 (nLo x).toArray) := Lib.hid (Whole.new wr _ _)
      have MX := made_any x (wr.alloc (.cells (nLo x).toArray 27)) hzx
      unfold MdO at MX
      rw [← hcc, ← nLo_arr x] at MX
      have MX := Lib.hid MX
      have HNX : Hid (opsN l (j + 1) = opsN l j ++ [cc]) := Lib.hid (by rw [opsN_next hx, hcc])
      have HLT : Hid (L.length < 2000) := Lib.hid (by rw [← HM.out]; omega)
      have HFR : Hid (∀ k, some k = (Value.slice A5 m c5).ownBlock → k < (wr.alloc (.cells (nLo x).toArray 27)).heap.size) := Lib.hid (fun k e => Nat.lt_of_lt_of_le (HI.out.1.own.lt k e.symm).2 BX.out.size)
      have all := nLo_one x
      have inf := nLo_inf x
      have infq := nLo_info x
      have hwj : IntKind.i64.wrap ((j : Int) + 1) = (j : Int) + 1 := IntWalk.i64_in _ (by omega)
      clear hx hr hzx hcc hmj
      go_wp2_with (first
        | (refine wpList_load_mid rfl 27 (.tmp 26) rfl g (o + j * 7) rfl (nLo x) _ HR.out Tryz.underlying27 rfl infq ?_)
        | (refine wpList_store_row rfl 27 (.tmp 7) (.tmp 27) rfl _ (nLo x).toArray rfl rfl 27 _ (heap_alloc_new _ _) inf rfl all ?_; rw [World.setRow_alloc_new])
        | (refine wpList_load_row rfl 27 (.tmp 7) rfl wr.heap.size rfl 27 (nLo x).toArray (0, 0) _ RW.out Tryz.underlying27 rfl inf ?_)
        | (go_at_call 11; refine MX.out.mono ?_; rintro e w3 ⟨A3, n3, m3, rfl, hi, hb, hf⟩; obtain ⟨v', w', hrun, hpl⟩ := ((HI.out.1.keep BX.out).keep hb).app ⟨cc, A3, n3, m3⟩ hi (fun a ha _ e => by have := hf a ha; have := HFR.out a.block e; omega) HLT.out; have R := Lib.hid hrun; have HPL := Lib.hid hpl; clear hi hb hf hrun hpl MX)
        | (refine Great.wpList_buildSliceTo (by rfl) 24 34 1 #[(0, .tmp 30)] (by rfl) w3.heap.size rfl (some 31) (by rfl) Tryz.underlying24 (oA cc A3 n3 m3) (by kernel_rfl) ?_)
        | (at_builtin; refine wpList_append_run rfl (.tmp 28) (.tmp 31) 24 24 rfl rfl rfl R.out ?_))
      go_roundw
      case rel => exact ⟨j + 1, L ++ [(⟨cc, A3, n3, m3⟩ : Oq)], by omega, by go_num, Lib.hid ⟨HPL.out, by rw [List.map_append, HNX.out, HI.out.2]; rfl⟩⟩
      case measure => simp [intOf]; omega
    · obtain rfl : j = z := by omega
      subst hmj
      have hnj : ¬ ((m : Int) < (m : Int)) := by omega
      obtain ⟨ops, hops⟩ : ∃ ops, ops = opsN l m := ⟨_, rfl⟩
      have hok : ∀ o ∈ ops, opOk o := by rw [hops]; exact HOK.out m
      have hlen : ops.length = m := by rw [hops]; exact opsN_len (by have := HL.out.1; have := HL.out.2.1; omega)
      have hLo : L.map (·.o) = ops := by rw [hops]; exact HI.out.2
      have hcat := catL_len9 hok
      have hpr : prAll ops = (catL ops, 0) := prAll_yes (wrongL_ok (by omega) hok) (by omega)
      obtain ⟨tx, htx⟩ : ∃ t : ByteArray, t = ⟨(catL ops).toArray⟩ := ⟨_, rfl⟩
      have htl : tx.data.toList = catL ops := by rw [htx]
      have htz : tx.size ≤ 38000 := by rw [Lib.size_eq, htl]; omega
      have HSL : Hid (SlO wr A5 L) := Lib.hid (slO_own (n := m) (by have h := HI.out.1.own; rw [← HM.out] at h; exact h) HM.out.symm HI.out.1.ins)
      have B1 := Lib.hid HI.out.1.bl
      have PR := prall_any A5 m c5 L wr (HE.out wr B1.out) HSL.out HM.out (by omega)
      rw [hLo, hpr, ← htx] at PR
      have PR := Lib.hid PR
      have htop : paTop tx.data.toList = (ops, 0, 0) := by
        unfold paTop
        rw [if_neg (by rw [← Lib.size_eq]; omega), htl, paAll_cat hok (by omega)]
      have hqs : ∀ q ∈ ops.map textO, (10 : UInt8) ∉ q := fun q hq => by
        obtain ⟨o, ho, rfl⟩ := List.mem_map.1 hq
        exact textO_line (hok o ho)
      have hte : tx.data.toList = endL (ops.map textO) := by rw [htl, catL_end]
      have PA := Lib.hid (fun (W : World) (hW : DfE W) => (pall_any tx W hW (by omega)).mono (R' := fun e w' => ∃ (l2 : List Oq) (A2 : Option Addr) (c2 : Nat), e = .returned (.tuple #[.slice A2 m c2, .int .i64 0, .int .i64 0]) ∧ l2.map (·.o) = ops ∧ l2.length = m ∧ SlO w' A2 l2 ∧ Below W.heap.size W w') (fun e w' ⟨l2, A2, c2, m2, er, he, hp, hs2, _, hb⟩ => by
        rw [htop] at hp
        obtain ⟨h5, h6⟩ := Prod.mk.inj hp
        obtain ⟨h6, h7⟩ := Prod.mk.inj h6
        have h8 : l2.length = m := by have := congrArg List.length h5; rw [List.length_map] at this; omega
        rw [← h6, ← h7, h8] at he
        exact ⟨l2, A2, c2, he, h5.symm, h8, hs2, hb⟩))
      have CT := Lib.hid (fun (W : World) => (Tryz.strings_Count_one tx 10 W).mono (R' := fun e w' => e = .returned (.int .i64 (m : Int)) ∧ w' = W) (fun e w' ⟨he, hw⟩ => ⟨by
        rw [he]
        show Ending.returned (.int .i64 ((tx.data.toList.count 10 : Nat) : Int)) = _
        rw [hte, count_end _ hqs, List.length_map, hlen], hw⟩))
      have SP := Lib.hid (fun (W : World) (hW : DfE W) => splitAfter_any tx (ops.map textO) W hW hte hqs (by omega))
      have HQ0 : Hid (∀ ws : List ByteArray, ws.map (·.data.toList) = piecesL (ops.map textO) → PcQ ops 0 ws (ops.map textO)) := Lib.hid (fun ws h => ⟨h, filter_texts ops hok, hqs, by rw [List.length_map]; omega, by rw [← hte, ← Lib.size_eq]; omega⟩)
      have HO := Lib.hid (And.intro hok (And.intro hlen hLo))
      clear HI hops hok hlen hLo hcat hpr htx htl htz htop hqs hte hmc hlt
      go_upto_region 8 with (go_at_call 12; refine PR.out.mono ?_; rintro e w2 ⟨rfl, hb⟩; have I2 := Lib.hid (And.intro (B1.out.trans (hb.mono B1.out.size)) (HSL.out.keep hb)); clear hb PR)
      clear B1 HSL
      go_upto_region 9 with (go_at_call 13; refine (PA.out w2 (HE.out w2 I2.out.1)).mono ?_; rintro e w3 ⟨l2, A2, c2, rfl, ho2, hl2, hs2, hb⟩; have I3 := Lib.hid (And.intro (I2.out.1.trans (hb.mono I2.out.1.size)) (And.intro (I2.out.2.keep hb) hs2)); have HO2 := Lib.hid (And.intro ho2 hl2); clear ho2 hl2 hs2 hb)
      clear I2
      have SM := Lib.hid (same_any A2 A5 m c2 c5 l2 L w3 I3.out.2.2 I3.out.2.1 HO2.out.2 (by rw [HO2.out.1, HO.out.2.2]) (by omega))
      have hmm : ((m : Int) == (m : Int)) = true := beq_self_eq_true _
      go_upto_if 67 with (first
        | (go_at_call 14; refine SM.out.mono ?_; rintro e w4 ⟨rfl, hb⟩; have I4 := Lib.hid (And.intro (I3.out.1.trans (hb.mono I3.out.1.size)) (I3.out.2.1.keep hb)); have CT := Lib.hid (CT.out w4); clear hb SM)
        | (go_at_call 15; refine CT.out.mono ?_; rintro e w5 ⟨rfl, hw5⟩; rw [hw5]; clear hw5))
      clear I3 CT
      go_upto_region 12 with (go_at_call 16; refine (SP.out w4 (HE.out w4 I4.out.1)).mono ?_; rintro e w6 ⟨ws, hws, rfl, rfl⟩; have HW6 := Lib.hid hws; clear hws SP)
      have b6 := (Below.refl w4.heap.size w4).alloc (Nat.le_refl _) (.cells (ws.map sV).toArray 9)
      have HQ := Lib.hid (HQ0.out ws HW6.out)
      have J6 : Hid (PcS w4.heap.size w4 (.slice (some ⟨w4.heap.size, 0, none⟩) ws.length ws.length) ws (w4.alloc (.cells (ws.map sV).toArray 9))) := Lib.hid ⟨b6, w4.heap.size, ws.length, (ws.map sV).toArray, rfl, Nat.le_refl _, Whole.new w4 _ _, by simp, Nat.le_refl _, by have := HQ.out.len; have := HQ.out.le; omega, fun j t hj => by rw [List.getElem?_toArray, List.getElem?_map, hj]; rfl⟩
      clear b6
      obtain ⟨v0, hv0⟩ : ∃ v, v = Value.slice (some ⟨w4.heap.size, 0, none⟩) ws.length ws.length := ⟨_, rfl⟩
      rw [← hv0] at J6 ⊢
      clear hv0
      generalize w4.alloc (.cells (ws.map sV).toArray 9) = w6 at J6 ⊢
      have hcut2 := HC2.out.2
      have hmin2 := HC2.out.1
      go_wp2_with fail
      clear hcut2 hmin2
      go_loopw [13, 76] (fun v i wr => ∃ (j : Nat) (ws : List ByteArray) (qs : List (List UInt8)), j ≤ y ∧ i = .int .i64 j ∧ Hid (PcS w4.heap.size w4 v ws wr ∧ PcQ ops j ws qs)) (fun _ i _ => y - (intOf i).toNat)
      case atStart => exact ⟨0, ws, ops.map textO, Nat.zero_le _, rfl, Lib.hid ⟨J6.out, HQ.out⟩⟩
      case round =>
        obtain ⟨j, ws, qs, hj, rfl, HJ⟩ := hrel
        obtain ⟨g, cg, cur, rfl, hBg, hwg, _⟩ := HJ.out.1.row
        obtain ⟨N, hN⟩ : ∃ N, N = ws.length := ⟨_, rfl⟩
        have HN := Lib.hid hN
        have hwl := HJ.out.2.len
        have hql := HJ.out.2.le
        have hy2 := HY.out.2
        rw [← hN] at HJ ⊢
        have hN1 : 1 ≤ N := by omega
        have hN70 : N ≤ 70 := by omega
        clear hN hwl hql
        have BW := Lib.hid (I4.out.1.trans (HJ.out.1.bl.mono I4.out.1.size))
        by_cases hlt : j < y
        · obtain ⟨b, hb⟩ : ∃ b, lb[j]? = some b := ⟨_, List.getElem?_eq_getElem (by have := HBS.out.1; have := HY.out.1; omega)⟩
          obtain ⟨g1, o1, rfl, xx⟩ := (HBS.out.keep BW.out).2 j b hb
          have x0 : wr.cell? ⟨g1, o1 + j, none⟩ = some (.int .u8 (b.toNat : Int)) := xx
          clear xx
          have hbl : b.toNat < 256 := b.toNat_lt
          obtain ⟨r, hr⟩ : ∃ r : Nat, r = b.toNat % 4 := ⟨_, rfl⟩
          obtain ⟨i, hi⟩ : ∃ i : Nat, i = b.toNat % N := ⟨_, rfl⟩
          have hr4 : r < 4 := by omega
          have hiN : i < N := by rw [hi]; exact Nat.mod_lt _ hN1
          have htr : ((b.toNat : Nat) : Int).tmod 4 = (r : Int) := by rw [Int.tmod_eq_emod_of_nonneg (by omega)]; omega
          have hti : ((b.toNat : Nat) : Int).tmod (N : Int) = (i : Int) := by rw [Int.tmod_eq_emod_of_nonneg (by omega), hi]; first | exact (Int.natCast_emod _ _).symm | exact (Int.ofNat_emod _ _).symm | exact (Int.natCast_mod _ _).symm
          have hwb : IntKind.i64.wrap ((b.toNat : Nat) : Int) = ((b.toNat : Nat) : Int) := IntWalk.i64_in _ (by omega)
          have hnz : ((N : Int) == 0) = false := by rw [beq_eq_false_iff_ne]; omega
          have hnz2 : ¬ ((N : Int) = 0) := by omega
          obtain ⟨lm, hlm⟩ : ∃ t : ByteArray, t = ⟨(moreS r ++ [10]).toArray⟩ := ⟨_, rfl⟩
          have HLM : Hid (lm.data.toList = moreS r ++ [10]) := Lib.hid (by rw [hlm])
          have NP : (wr.alloc (.cells lineV 9)).cell? ⟨wr.heap.size, r, none⟩ = some (.string lm) := by
            rw [(Whole.new wr 9 lineV).cell, hlm]
            exact lineV_get r hr4
          have hltI : (j : Int) < (y : Int) := by omega
          have hj0 : (0 : Int) ≤ (j : Int) := by omega
          have hr0 : ¬ ((4 : Int) ≤ (r : Int)) := by omega
          have hr1 : ¬ ((r : Int) < 0) := by omega
          have hr2 : (0 : Int) ≤ (r : Int) := by omega
          have hr3 : (r : Int) < 4 := by omega
          have hwj : IntKind.i64.wrap ((j : Int) + 1) = (j : Int) + 1 := IntWalk.i64_in _ (by omega)
          have J7 : Hid (PcS w4.heap.size w4 (.slice (some ⟨g, 0, none⟩) N cg) ws (wr.alloc (.cells lineV 9)) ∧ g < (wr.alloc (.cells lineV 9)).heap.size) := Lib.hid ⟨HJ.out.1.keep HJ.out.1.bl.size ((Below.refl _ _).alloc (Nat.le_refl _) _), by have := hwg.lt; rw [World.size_alloc]; omega⟩
          have HQQ := Lib.hid HJ.out.2
          have HIN := Lib.hid hiN
          clear hb hr hi hlm hwg HJ hr4 hiN hbl
          go_upto_region 16 with (refine Great.wpList_buildSliceTo rfl 43 9 4 _ rfl wr.heap.size rfl (some 80) rfl Tryz.underlying43 lineV (by kernel_rfl) ?_)
          clear NP x0 hr0 hr1 hr2 hr3 htr
          generalize wr.alloc (.cells lineV 9) = w10 at J7 ⊢
          have ba := (Below.refl w10.heap.size w10).alloc (Nat.le_refl _) (.cells #[.string lm] 9)
          have INS := insert_any w4.heap.size w4 (w10.alloc (.cells #[.string lm] 9)) (.slice (some ⟨g, 0, none⟩) N cg) ws i lm w10.heap.size (J7.out.1.keep J7.out.1.bl.size ba) (Whole.new w10 _ _) (Nat.le_trans J7.out.1.bl.size ba.size) (fun a n c e => by cases e; exact Nat.ne_of_gt J7.out.2) (by rw [← HN.out]; exact HIN.out) (by rw [← HN.out]; omega)
          have INS := Lib.hid INS
          clear ba
          go_wp2_with (go_at_call 17; refine INS.out.mono ?_; rintro e w11 ⟨v', rfl, hpc⟩; have HPC := Lib.hid hpc; clear hpc INS)
          go_roundw
          case rel => exact ⟨j + 1, ws.take i ++ lm :: ws.drop i, qs.take i ++ moreS r :: qs.drop i, by omega, by go_num, Lib.hid ⟨HPC.out, HQQ.out.put i r (by rw [← HN.out]; exact HIN.out) lm HLM.out⟩⟩
          case measure => simp [intOf]; omega
        · obtain rfl : j = y := by omega
          have hnj2 : ¬ ((j : Int) < (j : Int)) := by omega
          have hjn : Lib.join (ws.map (·.data.toList)) [] = endL qs := by rw [HJ.out.2.pc, join_none, pieces_flat]
          have hez : (endL qs).length ≤ 38200 := by have := HJ.out.2.sz; omega
          obtain ⟨tj, htj⟩ : ∃ t : ByteArray, t = ⟨(endL qs).toArray⟩ := ⟨_, rfl⟩
          obtain ⟨tk, htk⟩ : ∃ t : ByteArray, t = ⟨(cutL qs).toArray⟩ := ⟨_, rfl⟩
          have JN := Tryz.strings_Join g 0 cg ws ⟨#[]⟩ wr (fun j t hj => by
            obtain ⟨g', c', cur', e, _, hw', _, _, _, hc'⟩ := HJ.out.1.row
            cases e
            rw [Nat.zero_add, hw'.cell]
            exact hc' j t hj) hwg.lt (by rw [← HN.out]; omega) (by
            obtain ⟨g', c', cur', e, _, _, _, hle, _⟩ := HJ.out.1.row
            cases e
            exact hle) (by show (Lib.join (ws.map (·.data.toList)) []).length ≤ _; rw [hjn]; omega)
          rw [show (⟨#[]⟩ : ByteArray).data.toList = [] from rfl, hjn, ← htj, ← HN.out] at JN
          have JN := Lib.hid JN
          have TS := fun (W : World) => Tryz.strings_TrimSuffix tj ⟨#[10]⟩ W (by rw [htj, Lib.size_mk]; omega)
          rw [show Lib.trimSuffix tj.data.toList (⟨#[10]⟩ : ByteArray).data.toList = cutL qs by rw [htj]; exact trim_end qs, ← htk] at TS
          have TS := Lib.hid TS
          have htop : paTop tk.data.toList = (ops, 0, 0) := by
            have h1 := cutL_le qs
            unfold paTop
            rw [htk]
            rw [if_neg (by show ¬ 65536 < (cutL qs).length; omega)]
            exact paAll_put HJ.out.2.fl HO.out.1 (by rw [HO.out.2.1]; omega) HJ.out.2.ln
          have hkz : tk.size ≤ 65536 := by rw [htk, Lib.size_mk]; have := cutL_le qs; omega
          have PB := Lib.hid (fun (W : World) (hW : DfE W) => (pall_any tk W hW hkz).mono (R' := fun e w' => ∃ (l2 : List Oq) (A2 : Option Addr) (c2 : Nat), e = .returned (.tuple #[.slice A2 m c2, .int .i64 0, .int .i64 0]) ∧ l2.map (·.o) = ops ∧ l2.length = m ∧ SlO w' A2 l2 ∧ Below W.heap.size W w') (fun e w' ⟨l2, A2, c2, m2, er, he, hp, hs2, _, hb⟩ => by
            rw [htop] at hp
            obtain ⟨h5, h6⟩ := Prod.mk.inj hp
            obtain ⟨h6, h7⟩ := Prod.mk.inj h6
            have h8 : l2.length = m := by have := congrArg List.length h5; rw [List.length_map] at this; have := HO.out.2.1; omega
            rw [← h6, ← h7, h8] at he
            exact ⟨l2, A2, c2, he, h5.symm, h8, hs2, hb⟩))
          have S10 := Lib.hid (I4.out.2.keep HJ.out.1.bl)
          clear hjn hez htj htk htop hkz HJ hwg hBg hlt
          go_upto_region 19 with (first
            | (go_at_call 19; refine JN.out.mono ?_; rintro e w12 ⟨rfl, hb⟩; have K12 := Lib.hid (And.intro (BW.out.trans (hb.mono BW.out.size)) (S10.out.keep hb)); clear hb JN)
            | (go_at_call 18; refine (TS.out _).mono ?_; rintro e w13 ⟨rfl, hw13⟩; rw [hw13]; clear hw13 TS)
            | (go_at_call 13; refine (PB.out w12 (HE.out w12 K12.out.1)).mono ?_; rintro e w14 ⟨l3, A3, c3, rfl, ho3, hl3, hs3, hb⟩; have K14 := Lib.hid (And.intro (K12.out.1.trans (hb.mono K12.out.1.size)) (And.intro (K12.out.2.keep hb) hs3)); have HO3 := Lib.hid (And.intro ho3 hl3); clear ho3 hl3 hs3 hb))
          have SM := Lib.hid (same_any A3 A5 m c3 c5 l3 L w14 K14.out.2.2 K14.out.2.1 HO3.out.2 (by rw [HO3.out.1, HO.out.2.2]) (by omega))
          go_wp2_with (first
            | (go_at_call 14; refine SM.out.mono ?_; rintro e w15 ⟨rfl, hb⟩; have B15 := Lib.hid (K14.out.1.trans (hb.mono K14.out.1.size)); have W1 := Lib.hid (WK.out w15 B15.out); clear hb SM)
            | (go_at_call 20; refine W1.out.mono ?_; rintro e w16 ⟨rfl, hb⟩; have BF := Lib.hid (B15.out.trans (hb.mono B15.out.size)); clear hb))
          go_ret
          exact ⟨rfl, BF.out⟩
end
end Go.Proofs.YtojodekmmkemgaaGreatDoor
