/- A definition read from its text, by the reference. Condition: a text is no longer than a million bytes. -/
import Derived.Test.YtgeljnjcpkmlmaaGreatDoorDfWds
import Derived.Test.YtgeljnjcpkmlmaaGreatDoorDfRDec
import Derived.Deep.RegionHeld3
namespace Go.Proofs.YtgeljnjcpkmlmaaGreatDoor
open Go.RowKit Go.Shelf

def rS (w : ByteArray) : Sp := rStep w.data.toList
theorem rp_words {l : List UInt8} {W : List ByteArray} (hw : wlB W = wordsR l) {d0 : Dv} (hd : defOk d0) (ht : textD d0 = l) : wlB W = wordsD d0 := by rw [hw, ← ht, wordsR_text hd]
theorem rp_short {l : List UInt8} {W : List ByteArray} (hw : wlB W = wordsR l) (hl : W.length < 4) : ∀ d0, defOk d0 → textD d0 ≠ l := fun d0 hd ht => by
  have h := congrArg List.length (rp_words hw hd ht)
  unfold wlB at h
  rw [List.length_map, wordsD_len] at h
  have := hd.2.2.2.2.2.1
  omega
theorem rp_cut {l : List UInt8} {W : List ByteArray} (hw : wlB W = wordsR l) {i : Nat} {x : ByteArray} (hi : W[3 + i]? = some x) (hc : cutAt x.data.toList = x.data.toList.length) : ∀ d0, defOk d0 → textD d0 ≠ l := fun d0 hd ht => by
  have h := rp_words hw hd ht
  have h1 : (wlB W)[3 + i]? = some x.data.toList := by unfold wlB; rw [List.getElem?_map, hi]; rfl
  rw [h] at h1
  unfold wordsD at h1
  rw [show 3 + i = i + 1 + 1 + 1 by omega] at h1
  simp only [List.getElem?_cons_succ, List.getElem?_map, Option.map_eq_some_iff] at h1
  obtain ⟨p, hp, he⟩ := h1
  have := (rStep_spW (hd.2.2.2.2.2.2.2.all (List.mem_of_getElem? hp))).1
  rw [he] at this
  omega
theorem rp_eq {l : List UInt8} {W : List ByteArray} (hw : wlB W = wordsR l) {x0 x1 x2 : ByteArray} (h0 : W[0]? = some x0) (h1 : W[1]? = some x1) (h2 : W[2]? = some x2) {d0 : Dv} (hd : defOk d0) (ht : textD d0 = l) :
    (⟨x0, (small (numR x1.data.toList) : Nat), (small (numR x2.data.toList) : Nat), (W.drop 3).map rS⟩ : Dv) = d0 := by
  have h := rp_words hw hd ht
  match W, h0, h1, h2 with
  | a :: b :: c :: R, h0, h1, h2 =>
    cases h0; cases h1; cases h2
    unfold wlB wordsD at h
    simp only [List.map_cons, List.cons.injEq] at h
    obtain ⟨e0, e1, e2, e3⟩ := h
    obtain ⟨g1, g2, g3, g4, g5, g6, g7, g8⟩ := hd
    have m1 := numR_dgs (a := d0.r) g2 (by omega)
    have m2 := numR_dgs (a := d0.dl) g4 (by omega)
    obtain ⟨n', r', dl', s'⟩ := d0
    dsimp only at *
    rw [e1, e2]
    have hs : R.map rS = s' := by
      have h9 : (R.map (fun x => x.data.toList)).map rStep = s' := by
        rw [e3, List.map_map]
        conv => rhs; rw [← List.map_id s']
        exact List.map_congr_left fun p hp => (rStep_spW (g8.all hp)).2
      rw [← h9, List.map_map]
      rfl
    have hn : x0 = n' := by rw [← ba_eta x0, e0, ba_eta]
    have k1 : ((small (numR (dgs r')) : Nat) : Int) = r' := by unfold small; omega
    have k2 : ((small (numR (dgs dl')) : Nat) : Int) = dl' := by unfold small; omega
    rw [k1, k2, hn]
    show (⟨n', r', dl', R.map rS⟩ : Dv) = _
    rw [hs]
theorem numGo_le : ∀ (l : List UInt8) (a : Nat), a ≤ 1152921504606846979 → numGo a l ≤ 1152921504606846979
  | [], a, h => h
  | c :: l, a, h => by
    rw [numGo]
    split
    · split
      · rename_i h1 h2
        have := isDig_lt h2
        refine numGo_le l _ ?_
        unfold isDig at h2
        simp at h2
        omega
      · exact numGo_le l a h
    · exact h
theorem numR_le (l : List UInt8) : numR l ≤ 1152921504606846979 := numGo_le l 0 (by omega)
theorem cut_at {l : List UInt8} {q : Nat} (h1 : ∀ (j : Nat) c, j < q → l[j]? = some c → isSg c = false) (h2 : q = l.length ∨ ∃ c, l[q]? = some c ∧ isSg c = true) : cutAt l = q := by
  unfold cutAt
  induction l generalizing q with
  | nil => rcases h2 with h | ⟨c, h, _⟩ <;> simp_all
  | cons a l ih =>
    cases q with
    | zero =>
      rcases h2 with h | ⟨c, h, hs⟩
      · simp at h
      · cases h; simp [hs]
    | succ q =>
      have ha := h1 0 a (by omega) rfl
      have := ih (q := q) (fun j c hj hc => h1 (j + 1) c (by omega) hc) (by
        rcases h2 with h | ⟨c, h, hs⟩
        · exact Or.inl (by simpa using h)
        · exact Or.inr ⟨c, h, hs⟩)
      simp [ha, this]
theorem wGo_le : ∀ (l w x : List UInt8), x ∈ wGo w l → x.length ≤ w.length + l.length
  | [], w, x, h => by rw [wGo] at h; simp at h; rw [h]; simp
  | a :: l, w, x, h => by
    rw [wGo] at h
    split at h
    · rcases List.mem_cons.1 h with rfl | h
      · omega
      · have := wGo_le l [] x h
        simp at this ⊢; omega
    · have := wGo_le l _ x h
      simp at this ⊢; omega
theorem wordsR_le (l x : List UInt8) (h : x ∈ wordsR l) : x.length ≤ l.length := by
  have := wGo_le l [] x (List.mem_of_mem_take h)
  simpa using this
/-- What the reference holds in memory while it reads a text: its result, its definition, the words. -/
structure RpM (w W : World) (G D : Nat) (ws : List ByteArray) (dv : Array Value) : Prop where
  d : Whole W D 24 dv
  r : Whole W w.heap.size 24 #[.string ⟨#[]⟩, .int .i64 0, .int .i64 0, .slice none 0 0]
  b : Below w.heap.size w W
  o1 : w.heap.size < D
  g : ∀ (k : Nat) x, ws[k]? = some x → W.cell? ⟨G, k, none⟩ = some (.string x)
  o2 : G < D
theorem RpM.other {w W W2 : World} {G D : Nat} {ws : List ByteArray} {dv : Array Value} {row : Option Nat} (h : RpM w W G D ws dv) (hg : W.grownBy W2 row) (hr : ∀ k, row = some k → D < k) : RpM w W2 G D ws dv := by
  have a := h.o1
  have b := h.o2
  exact ⟨h.d.grown hg (fun e => by have := hr D e.symm; omega), h.r.grown hg (fun e => by have := hr _ e.symm; omega), h.b.grown hg h.b.size (fun k e => by have := hr k e; omega), a, fun k x hx => gcell (h.g k x hx) hg (fun e => by have := hr G e.symm; omega), b⟩
theorem RpM.keep {w W W2 : World} {G D : Nat} {ws : List ByteArray} {dv : Array Value} (h : RpM w W G D ws dv) (hb : Below W.heap.size W W2) : RpM w W2 G D ws dv := h.other (gbelow hb) (by simp)
theorem RpM.put {w W : World} {G D : Nat} {ws : List ByteArray} {dv : Array Value} (h : RpM w W G D ws dv) (i : Nat) (v : Value) : RpM w (W.setCell ⟨D, i, none⟩ v) G D ws (dv.setIfInBounds i v) := by
  have a := h.o1
  have b := h.o2
  have hg := grown_set (World.grownBy.refl W (some D)) i v
  exact ⟨h.d.put i v, h.r.grown hg (fun e => by cases e; omega), h.b.grown hg h.b.size (fun k e => by cases e; omega), a, fun k x hx => gcell (h.g k x hx) hg (fun e => by have e2 : G = D := (by simpa using e); omega), b⟩
theorem rp_pack {w w7 : World} {G D B0 k : Nat} {ws : List ByteArray} {x y z v : Value} {xs : List Value} (hM : RpM w w7 G D ws #[x, y, z, v]) (hO : w7.ownsRow B0 37 2 v k xs) (hD : D < B0) (hB : B0 ≤ w7.heap.size) (hk : k ≤ 1000) (ky : ByteArray) (iv : Int) :
    (w7.alloc (.cells #[.string ky, .int .i64 iv] 37)).cell? ⟨D, 3, none⟩ = some v ∧
    ∃ (A' : Option Addr) (c' : Nat) (w8 : World), Hid ((Builtin.append_ #[22, 22] 22 #[v, .slice (some ⟨w7.heap.size, 0, none⟩) 1 1]).run Tryz.prog (w7.alloc (.cells #[.string ky, .int .i64 iv] 37)) = .ok (.slice A' (k + 1) c') w8) ∧ w8.cell? ⟨D, 3, none⟩ = some v ∧ w8.frozen? ⟨D, 3, none⟩ = false ∧ Hid (∀ (j : Nat) x, ws[j]? = some x → w8.cell? ⟨G, j, none⟩ = some (.string x)) ∧
      Hid (RpM w (w8.setCell ⟨D, 3, none⟩ (.slice A' (k + 1) c')) G D ws #[x, y, z, .slice A' (k + 1) c'] ∧ (w8.setCell ⟨D, 3, none⟩ (.slice A' (k + 1) c')).ownsRow B0 37 2 (.slice A' (k + 1) c') (k + 1) (xs ++ [.string ky, .int .i64 iv]) ∧ B0 ≤ (w8.setCell ⟨D, 3, none⟩ (.slice A' (k + 1) c')).heap.size) := by
  have M7a := hM.keep ((Below.refl _ w7).alloc (Nat.le_refl _) (.cells #[.string ky, .int .i64 iv] 37))
  obtain ⟨v', w8, hrun, hown, hgr⟩ := run_app_step (w7.alloc (.cells #[.string ky, .int .i64 iv] 37)) B0 v k xs (hO.alloc _) ⟨w7.heap.size, 0, none⟩ 1 1 [.string ky, .int .i64 iv] rfl (news_at w7 _ [.string ky, .int .i64 iv] _ rfl) (by simp [Value.oneCell']) (by omega) (by simp; omega)
  obtain ⟨A', c', rfl, _⟩ := own_slice2 hown
  have hvb : ∀ j, v.ownBlock = some j → D < j := fun j e => Nat.lt_of_lt_of_le hD (hO.lt j e).1
  have M8 := M7a.other hgr hvb
  have g9 := grown_set (World.grownBy.refl w8 (some D)) 3 (.slice A' (k + 1) c')
  refine ⟨M7a.d.cell 3, A', c', w8, hrun, M8.d.cell 3, M8.d.fr 3, Lib.hid M8.g, ⟨?_, hown.kept g9 (Or.inr (fun e => by have := (hown.lt D e).1; omega)), ?_⟩⟩
  · have := M8.put 3 (.slice A' (k + 1) c')
    simpa using this
  · have := hgr.size
    simp only [World.size_alloc] at this
    simp [World.setCell]; omega
theorem rS_eq {x : ByteArray} {q : Nat} (hc : cutAt x.data.toList = q) : rS x = ⟨x.extract 0 q, if x.data.toList[q]? = some 45 then -((numR (x.extract (q + 1) x.size).data.toList : Nat) : Int) else (numR (x.extract (q + 1) x.size).data.toList : Nat)⟩ := by
  unfold rS rStep
  have h1 : (x.extract 0 q).data.toList = x.data.toList.take q := by rw [extract_list]; simp
  have h2 : (x.extract (q + 1) x.size).data.toList = x.data.toList.drop (q + 1) := by rw [extract_list, List.take_of_length_le (by rw [List.length_drop, ← Lib.size_eq]; omega)]
  rw [hc, h2, ← h1, ba_eta]
theorem rS_z {x : ByteArray} (hx : x.size ≤ 1000000) : SpZ (rS x) := by
  obtain ⟨q, hq⟩ : ∃ q, cutAt x.data.toList = q := ⟨_, rfl⟩
  rw [rS_eq hq]
  have := numR_le (x.extract (q + 1) x.size).data.toList
  have h3 : (x.extract 0 q).size ≤ x.size := by rw [ByteArray.size_extract]; omega
  refine ⟨?_, ?_, ?_⟩
  · dsimp only; omega
  · dsimp only; split <;> omega
  · dsimp only; split <;> omega
theorem rS_next {W : List ByteArray} {i : Nat} {x : ByteArray} (hi : W[i]? = some x) (h3 : 3 ≤ i) {p : Sp} (hp : rS x = p) : ((W.drop 3).take (i + 1 - 3)).map rS = ((W.drop 3).take (i - 3)).map rS ++ [p] := by
  rw [show i + 1 - 3 = i - 3 + 1 by omega, List.take_add_one, List.getElem?_drop, show 3 + (i - 3) = i by omega, hi, ← hp]
  simp
end Go.Proofs.YtgeljnjcpkmlmaaGreatDoor
