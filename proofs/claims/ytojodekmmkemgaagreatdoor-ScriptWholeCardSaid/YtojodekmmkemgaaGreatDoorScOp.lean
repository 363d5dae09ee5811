/- An operation read by the reader. Conditions: the line is short; the program's own variables lie as its start lays them. -/
import Derived.Test.YtojodekmmkemgaaGreatDoorScNum
import Derived.Test.YtojodekmmkemgaaGreatDoorPs2
namespace Go.Proofs.YtojodekmmkemgaaGreatDoor
open Go.RowKit Go.Shelf

theorem part_any (o : Option (List UInt8)) (R : Nat) (w : World) (hsh : w.ShapedOpen Tryz.prog) (hl : ∀ l, o = some l → l.length ≤ 1000000) (h : RdO w R o) :
    Calls Tryz.prog 100 #[.pointer (some ⟨R, 0, none⟩)] w fun e w' => ((partW (some o)).2 = none ∧ e = .panicked [pvM] ∧ GR R w w') ∨ (∃ p o', partW (some o) = (p, some o') ∧ e = .returned (.string ⟨p.toArray⟩) ∧ RdO w' R o' ∧ GR R w w') := by
  cases o with
  | none => exact (part_no R w h).mono (fun e w' ⟨he, hw⟩ => Or.inl ⟨rfl, he, by rw [← hw]; exact World.grownBy.refl w _⟩)
  | some l => exact (part_yes l R w hsh (hl l rfl) h).mono (fun e w' ⟨he, hr, hg⟩ => Or.inr ⟨_, _, rfl, he, hr, hg⟩)
theorem all_any (o : Option (List UInt8)) (R : Nat) (w : World) (h : RdO w R o) :
    Calls Tryz.prog 104 #[.pointer (some ⟨R, 0, none⟩)] w fun e w' => ((allW (some o)).2 = none ∧ e = .panicked [pvM] ∧ GR R w w') ∨ (∃ l, o = some l ∧ e = .returned (.string ⟨l.toArray⟩) ∧ RdO w' R none ∧ GR R w w') := by
  cases o with
  | none => exact (all_no R w h).mono (fun e w' ⟨he, hw⟩ => Or.inl ⟨rfl, he, by rw [← hw]; exact World.grownBy.refl w _⟩)
  | some l => exact (all_yes l R w h).mono (fun e w' ⟨he, hr, hg⟩ => Or.inr ⟨l, rfl, he, hr, hg⟩)
theorem num_any (o : Option (List UInt8)) (R : Nat) (w : World) (hsh : w.ShapedOpen Tryz.prog) (hl : ∀ l, o = some l → l.length ≤ 1000000) (h : RdO w R o) :
    Calls Tryz.prog 102 #[.pointer (some ⟨R, 0, none⟩)] w fun e w' => ((numW (some o)).2 = none ∧ e = .panicked [pvM] ∧ GR R w w') ∨ (∃ (v : Nat) (o' : Option (List UInt8)), numW (some o) = (v, some o') ∧ e = .returned (.int .i64 (v : Int)) ∧ RdO w' R o' ∧ GR R w w') := by
  cases o with
  | none => exact (num_no1 R w h).mono (fun e w' ⟨he, hw⟩ => Or.inl ⟨by unfold numW; split <;> rfl, he, by rw [← hw]; exact World.grownBy.refl w _⟩)
  | some l =>
    by_cases hn : numT (firstW l)
    · exact (num_yes l R w hsh (hl l rfl) h hn).mono (fun e w' ⟨he, hr, hg⟩ => Or.inr ⟨_, _, by unfold numW; rw [if_pos (show numT (partW (some (some l))).1 from hn)]; rfl, he, hr, hg⟩)
    · exact (num_no2 l R w hsh (hl l rfl) h hn).mono (fun e w' ⟨he, hg⟩ => Or.inl ⟨by unfold numW; rw [if_neg (show ¬ numT (partW (some (some l))).1 from hn)], he, hg⟩)
theorem rest_len {l r : List UInt8} (h : restW l = some r) : r.length ≤ l.length := by
  have := congrArg List.length (cutW_back l)
  rw [h, List.length_append] at this
  simp only [sepL, List.length_cons] at this
  omega
theorem part_len {st : Option (List UInt8)} {p : List UInt8} {o' : Option (List UInt8)} (h : partW (some st) = (p, some o')) {K : Nat} (hl : ∀ l, st = some l → l.length ≤ K) : p.length ≤ K ∧ ∀ l, o' = some l → l.length ≤ K := by
  cases st with
  | none => cases h
  | some l =>
    have h : (firstW l, some (restW l)) = (p, some o') := h
    obtain ⟨h1, h2⟩ := Prod.mk.inj h
    have h2 := Option.some.inj h2
    have hl := hl l rfl
    refine ⟨?_, fun r hr => ?_⟩
    · have := congrArg List.length (cutW_back l)
      rw [List.length_append] at this
      rw [← h1]
      omega
    · have := rest_len (h2.trans hr)
      omega
theorem num_len {st : Option (List UInt8)} {v : Nat} {o' : Option (List UInt8)} (h : numW (some st) = (v, some o')) {K : Nat} (hl : ∀ l, st = some l → l.length ≤ K) : v ≤ 9999999 ∧ ∀ l, o' = some l → l.length ≤ K := by
  have h1 := numW_dec (st := some st) (o := o') (by rw [h])
  rw [h] at h1
  refine ⟨h1.2, fun l hr => ?_⟩
  have h2 := Option.some.inj h1.1
  subst h2
  have := hl _ rfl
  subst hr
  rw [List.length_append] at this
  simp only [sepL, List.length_cons] at this
  omega
/-- What op holds in memory. -/
structure OpS (w : World) (R V O : Nat) (cc : Ov) (A : Option Addr) (n m : Nat) (st : Option (List UInt8)) (W : World) : Prop where
  g : GR R w W
  rd : RdO W R st
  wr : Whole W V 34 (oA (zeroO 0 0) none 0 0)
  wo : Whole W O 34 (oA cc A n m)
  d : DefAt W A n m cc.d
  dn : ∀ a : Addr, A = some a → cc.d.s ≠ [] → a.block ≠ R ∧ a.block ≠ V ∧ a.block ≠ O
  ho : V < O
  hv : w.heap.size ≤ V
  hR : R < w.heap.size
  fr : ∀ a : Addr, A = some a → w.heap.size ≤ a.block
theorem gr_far {A B C : World} {R O : Nat} (h : GR R A B) (hg : B.grownBy C (some O)) (ho : A.heap.size ≤ O) : GR R A C :=
  ⟨hg.os.trans h.os, hg.tape.trans h.tape, hg.output.trans h.output, Nat.le_trans h.size hg.size, fun b hb hr => (hg.block b (Nat.lt_of_lt_of_le hb h.size) (fun e => by have := Option.some.inj e; omega)).trans (h.block b hb hr)⟩
theorem OpS.keep {w W W' : World} {R V O : Nat} {cc : Ov} {A : Option Addr} {n m : Nat} {st : Option (List UInt8)} (h : OpS w R V O cc A n m st W) (hb : Below W.heap.size W W') : OpS w R V O cc A n m st W' :=
  ⟨gr_trans h.g (gr_below hb), h.rd.keep hb, h.wr.keep hb, h.wo.keep hb, h.d.keep hb, h.dn, h.ho, h.hv, h.hR, h.fr⟩
theorem OpS.read {w W W' : World} {R V O : Nat} {cc : Ov} {A : Option Addr} {n m : Nat} {st st' : Option (List UInt8)} (h : OpS w R V O cc A n m st W) (hg : GR R W W') (hr : RdO W' R st') : OpS w R V O cc A n m st' W' := by
  have h1 := h.ho
  have h2 := h.hv
  have h3 := h.hR
  exact ⟨gr_trans h.g hg, hr, h.wr.grown hg (fun e => by have := Option.some.inj e; omega), h.wo.grown hg (fun e => by have := Option.some.inj e; omega), h.d.grown hg (fun a ha hs e => (h.dn a ha hs).1 (Option.some.inj e)), h.dn, h.ho, h.hv, h.hR, h.fr⟩
theorem OpS.turn {w W W' : World} {R V O : Nat} {cc cc2 : Ov} {A A2 : Option Addr} {n m n2 m2 : Nat} {st : Option (List UInt8)} (h : OpS w R V O cc A n m st W) (hg : W.grownBy W' (some O)) (hw : Whole W' O 34 (oA cc2 A2 n2 m2)) (hd : DefAt W A2 n2 m2 cc2.d) (hn : ∀ a : Addr, A2 = some a → cc2.d.s ≠ [] → a.block ≠ R ∧ a.block ≠ V ∧ a.block ≠ O) (hf : ∀ a : Addr, A2 = some a → w.heap.size ≤ a.block) : OpS w R V O cc2 A2 n2 m2 st W' := by
  have h1 := h.ho
  have h2 := h.hv
  have h3 := h.hR
  exact ⟨gr_far h.g hg (by omega), h.rd.grown hg (fun e => by have := Option.some.inj e; omega), h.wr.grown hg (fun e => by have := Option.some.inj e; omega), hw, hd.grown hg (fun a ha hs e => (hn a ha hs).2.2 (Option.some.inj e)), hn, h.ho, h.hv, h.hR, hf⟩
theorem OpS.put_n {w W : World} {R V O : Nat} {cc : Ov} {A : Option Addr} {n m : Nat} {st : Option (List UInt8)} (h : OpS w R V O cc A n m st W) (v : Int) : OpS w R V O { cc with n := v } A n m st (W.setCell ⟨O, 1, none⟩ (.int .i64 v)) :=
  h.turn (grown_set (World.grownBy.refl W (some O)) 1 _) (h.wo.put 1 (.int .i64 v)) h.d h.dn h.fr
theorem OpS.put_m {w W : World} {R V O : Nat} {cc : Ov} {A : Option Addr} {n m : Nat} {st : Option (List UInt8)} (h : OpS w R V O cc A n m st W) (v : Int) : OpS w R V O { cc with m := v } A n m st (W.setCell ⟨O, 2, none⟩ (.int .i64 v)) :=
  h.turn (grown_set (World.grownBy.refl W (some O)) 2 _) (h.wo.put 2 (.int .i64 v)) h.d h.dn h.fr
theorem OpS.put_key {w W : World} {R V O : Nat} {cc : Ov} {A : Option Addr} {n m : Nat} {st : Option (List UInt8)} (h : OpS w R V O cc A n m st W) (v : ByteArray) : OpS w R V O { cc with key := v } A n m st (W.setCell ⟨O, 3, none⟩ (.string v)) :=
  h.turn (grown_set (World.grownBy.refl W (some O)) 3 _) (h.wo.put 3 (.string v)) h.d h.dn h.fr
theorem OpS.put_rng {w W : World} {R V O : Nat} {cc : Ov} {A : Option Addr} {n m : Nat} {st : Option (List UInt8)} (h : OpS w R V O cc A n m st W) (f t : ByteArray) : OpS w R V O { cc with f := f, t := t } A n m st ((W.setCell ⟨O, 4, none⟩ (.string f)).setCell ⟨O, 5, none⟩ (.string t)) :=
  h.turn (grown_set (grown_set (World.grownBy.refl W (some O)) 4 _) 5 _) ((h.wo.put 4 (.string f)).put 5 (.string t)) h.d h.dn h.fr
theorem OpS.put_def {w W : World} {R V O : Nat} {cc : Ov} {A A2 : Option Addr} {n m n2 m2 : Nat} {st : Option (List UInt8)} (h : OpS w R V O cc A n m st W) (d : Dv) (hd : DefAt W A2 n2 m2 d) (hn : ∀ a : Addr, A2 = some a → d.s ≠ [] → a.block ≠ R ∧ a.block ≠ V ∧ a.block ≠ O) (hf : ∀ a : Addr, A2 = some a → w.heap.size ≤ a.block) : OpS w R V O { cc with d := d } A2 n2 m2 st ((((W.setCell ⟨O, 6, none⟩ (.string d.n)).setCell ⟨O, 7, none⟩ (.int .i64 d.r)).setCell ⟨O, 8, none⟩ (.int .i64 d.dl)).setCell ⟨O, 9, none⟩ (.slice A2 n2 m2)) :=
  h.turn (grown_set (grown_set (grown_set (grown_set (World.grownBy.refl W (some O)) 6 _) 7 _) 8 _) 9 _) ((((h.wo.put 6 (.string d.n)).put 7 (.int .i64 d.r)).put 8 (.int .i64 d.dl)).put 9 (.slice A2 n2 m2)) hd hn hf
theorem results_row1 {P : Program} {fn : Func} {p : Tmp} {ty : TypeId} (h : fn.results = #[.cell p ty]) (tmps : Array Value) (w : World) (g : Nat) (t : TypeId) (cs : Array Value) (fr : Nat × Nat) (d : TypeDesc)
    (hp : tmps.getD p undef = .pointer (some ⟨g, 0, none⟩)) (hg : w.heap[g]? = some (.cells cs t fr))
    (hu : P.underlying ty = some d) (hd : (match d with | .struct _ | .array _ _ => true | _ => false) = true) (hi : (P.info? ty).map (·.size) = some cs.size) :
    (results fn tmps).run P w = .ok (.agg cs) w := by
  have hp' : tmps[p]?.getD undef = .pointer (some ⟨g, 0, none⟩) := by simpa using hp
  simp [results, h, hp', asAddr, run_loadVar_row w g t ty cs fr d hg hu hd hi]
theorem sl_not_op {W : World} {B : Nat} {cc : Ov} {A A2 : Option Addr} {n m : Nat} {d : Dv} (hs : SlD W A d.s) (hd : defOk d) (hB : Whole W B 34 (oA cc A2 n m)) (hc : cc.d.n = ⟨#[]⟩) : ∀ a : Addr, A = some a → d.s ≠ [] → a.block ≠ B := by
  rintro a rfl hne e
  obtain ⟨p, hp⟩ : ∃ p, d.s[0]? = some p := by cases hq : d.s with | nil => exact absurd hq hne | cons p s => exact ⟨p, rfl⟩
  obtain ⟨g, o, he, c0, c1⟩ := hs 0 p hp
  cases he
  subst e
  have hst := stOk_parts (hd.2.2.2.2.2.2.2.all (List.mem_of_getElem? hp))
  rw [Nat.zero_mul, Nat.add_zero, hB.cell] at c0
  rw [Nat.zero_mul, Nat.add_zero, hB.cell] at c1
  unfold oA at c0 c1
  rw [hc] at c0 c1
  match o with
  | 0 => cases c0
  | 1 => cases c0
  | 2 => cases c0
  | 3 => cases c1
  | 4 => cases c1
  | 5 => cases c1
  | 6 =>
    have h1 : (⟨#[]⟩ : ByteArray) = p.k := by
      have := Option.some.inj c0
      injection this
    have h2 := hst.1
    rw [← h1] at h2
    exact absurd h2 (by decide)
  | 7 => cases c0
  | 8 => cases c0
  | 9 => cases c0
  | o + 10 => simp at c0
theorem sl_not_rd {W : World} {R : Nat} {st : Option (List UInt8)} {A : Option Addr} {s : List Sp} (hs : SlD W A s) (hr : RdO W R st) : ∀ a : Addr, A = some a → s ≠ [] → a.block ≠ R := by
  rintro a rfl hne e
  obtain ⟨p, hp⟩ : ∃ p, s[0]? = some p := by cases hq : s with | nil => exact absurd hq hne | cons p s => exact ⟨p, rfl⟩
  obtain ⟨g, o, he, c0, c1⟩ := hs 0 p hp
  cases he
  subst e
  obtain ⟨x, b, hx⟩ : ∃ (x : ByteArray) (b : Bool), Whole W g 105 #[.string x, .bool b] := by
    cases st with
    | some l => exact ⟨_, _, hr⟩
    | none =>
      obtain ⟨x, hx⟩ := hr
      exact ⟨_, _, hx⟩
  rw [Nat.zero_mul, Nat.add_zero, hx.cell] at c0
  rw [Nat.zero_mul, Nat.add_zero, hx.cell] at c1
  match o with
  | 0 => cases c1
  | 1 => cases c0
  | o + 2 => simp at c0
theorem numW_none' : (numW none).2 = none := by unfold numW; split <;> rfl
/-- What op answers. -/
def OpRR (s : List UInt8) (R : Nat) (w : World) (e : Ending) (w' : World) : Prop :=
  (goodW s ∧ ∃ A n m, e = .returned (.agg (oA (opW s).1 A n m)) ∧ OpIn w' (opW s).1 A n m ∧ GR R w w' ∧ ∀ a : Addr, A = some a → w.heap.size ≤ a.block) ∨ (¬ goodW s ∧ e = .panicked [pvM] ∧ GR R w w')
theorem op_bad {s : List UInt8} {R : Nat} {w w' : World} (h : ¬ goodW s) (hg : GR R w w') : OpRR s R w (.panicked [pvM]) w' := Or.inr ⟨h, rfl, hg⟩
theorem tail_none (k n : Nat) : (tailW k n none).2.1 = none := by
  have hn : (numW none).2 = none := by unfold numW; split <;> rfl
  unfold tailW
  repeat' split
  · exact hn
  · show (allW (numW none).2).2 = none
    rw [hn]
    rfl
  · rfl
  · show (numW (partW none).2).2 = none
    exact hn
  · rfl
theorem good_of {s : List UInt8} (hk : kindW (firstW s) ≠ 0) {cc : Ov} {st : OS} {er : Int} (e : opW s = (cc, st, er)) : goodW s ↔ st = some none ∧ er = 0 ∧ opOk cc := by
  unfold goodW
  rw [e]
  exact ⟨fun h => h.2, fun h => ⟨hk, h⟩⟩
theorem opok_z {k n : Nat} (hk : k ≤ 12) (hn : n ≤ 9999999) : OpZ (zeroO k n) := ⟨by unfold In64; show _ ∧ (k : Int) ≤ _; constructor <;> first | omega | (show (-9223372036854775808 : Int) ≤ (k : Int); omega), by unfold In64; constructor <;> first | (show (n : Int) ≤ _; omega) | (show (-9223372036854775808 : Int) ≤ (n : Int); omega), in64_0, Nat.zero_le _, Nat.zero_le _, Nat.zero_le _⟩
theorem nat64 {n : Nat} (h : n ≤ 9999999) : In64 (n : Int) := by unfold In64; omega

theorem tail_m {k n : Nat} {st : OS} (hk : k = 6 ∨ k = 9 ∨ k = 10) : tailW k n st = ({ zeroO k n with m := (numW st).1 }, (numW st).2, 0) := by
  unfold tailW
  rw [if_pos hk]
theorem tail_8 {n : Nat} {st : OS} : tailW 8 n st = ({ zeroO 8 n with m := (numW st).1, d := (parV (allW (numW st).2).1).1 }, (allW (numW st).2).2, (parV (allW (numW st).2).1).2) := rfl
theorem tail_11 {n : Nat} {st : OS} : tailW 11 n st = ({ zeroO 11 n with key := ⟨(partW st).1.toArray⟩ }, (partW st).2, 0) := rfl
theorem tail_12 {n : Nat} {st : OS} : tailW 12 n st = ({ zeroO 12 n with f := (rngV (partW st).1).1.1, t := (rngV (partW st).1).1.2, m := (numW (partW st).2).1 }, (numW (partW st).2).2, (rngV (partW st).1).2) := rfl
theorem tail_0 {k n : Nat} {st : OS} (h1 : ¬ (k = 6 ∨ k = 9 ∨ k = 10)) (h2 : k ≠ 8) (h3 : k ≠ 11) (h4 : k ≠ 12) : tailW k n st = (zeroO k n, st, 0) := by
  unfold tailW
  rw [if_neg h1, if_neg h2, if_neg h3, if_neg h4]
theorem op_good {s : List UInt8} {w W : World} {R V O : Nat} {cc : Ov} {A : Option Addr} {n m : Nat} {st : Option (List UInt8)} (h : OpS w R V O cc A n m st W) (hz : OpZ cc) (hg : goodW s) (e : (opW s).1 = cc) : OpRR s R w (.returned (.agg (oA cc A n m))) (W.setRow V (oA cc A n m)) := by
  refine Or.inl ⟨hg, A, n, m, by rw [e], ?_, gr_far h.g (setRow_grown W V _) h.hv, h.fr⟩
  rw [e]
  exact ⟨h.d.grown (setRow_grown W V _) (fun a ha hs e => (h.dn a ha hs).2.1 (Option.some.inj e)), hz⟩
set_option maxRecDepth 100000 in
set_option maxHeartbeats 16000000 in
theorem op_any (s : List UInt8) (R : Nat) (w : World) (HEK : Hid (∀ W, GR R w W → DfE W)) (hl : s.length ≤ 100000) (h : RdO w R (some s)) :
    Calls Tryz.prog 67 #[.pointer (some ⟨R, 0, none⟩)] w fun e w' => OpRR s R w e w' := by
  have hk0 := kindW_or (firstW s)
  have hR := h.lt
  have B0 := Lib.hid ((Below.refl w.heap.size w).alloc (Nat.le_refl _) (.cells (oA (zeroO 0 0) none 0 0) 34))
  have W0 := Lib.hid (Whole.new w 34 (oA (zeroO 0 0) none 0 0))
  have PT := Lib.hid (part_yes s R _ (HEK.out _ (gr_below B0.out)).sh (by omega) (h.keep B0.out))
  have KD := Lib.hid (fun (W : World) => kind_any ⟨(firstW s).toArray⟩ W)
  obtain ⟨k, hkk⟩ : ∃ k : Nat, k = kindW (firstW s) := ⟨_, rfl⟩
  have KD : Hid (∀ W : World, Calls Tryz.prog 99 #[.string ⟨(firstW s).toArray⟩] W fun e w' => e = .returned (.int .i64 (k : Int)) ∧ Below W.heap.size W w') := Lib.hid (by rw [hkk]; exact KD.out)
  have hk12 : k ≤ 12 := by rw [hkk]; rcases hk0 with h | h <;> omega
  obtain ⟨st1, hst1⟩ : ∃ o, o = restW s := ⟨_, rfl⟩
  rw [← hst1] at PT
  have HL1 : Hid (∀ l, st1 = some l → l.length ≤ 1000000) := Lib.hid (fun l hl' => by have := rest_len (hst1.symm.trans hl'); omega)
  have HL1' : Hid (∀ l, st1 = some l → l.length ≤ 100000) := Lib.hid (fun l hl' => by have := rest_len (hst1.symm.trans hl'); omega)
  have HOP : Hid (opW s = tailW k (numW (some st1)).1 (numW (some st1)).2) := Lib.hid (by rw [hkk, hst1]; rfl)
  have HKK := Lib.hid hkk
  have HR := Lib.hid hR
  generalize (⟨(firstW s).toArray⟩ : ByteArray) = fw at PT KD
  clear hk0 hR h hst1 hl hkk
  go_enter Tryz.func67, Tryz.ntmps67
  go_upto_region 1 with fail
  rw [← zero10 0 0]
  generalize w.alloc (.cells (oA (zeroO 0 0) none 0 0) 34) = w1 at B0 W0 PT ⊢
  go_upto_region 2 with (first
    | (go_at_call 100; refine PT.out.mono ?_; rintro e w2 ⟨rfl, hr, hg⟩; have I2 := Lib.hid (And.intro hr hg); clear hr hg PT)
    | (go_at_call 99; refine (KD.out _).mono ?_; rintro e w3 ⟨rfl, hb⟩; have I3 : Hid (OpS w R w.heap.size w3.heap.size (zeroO k 0) none 0 0 st1 (w3.alloc (.cells (oA (zeroO k 0) none 0 0) 34))) := Lib.hid (by
        have ba := (Below.refl w3.heap.size w3).alloc (Nat.le_refl _) (.cells (oA (zeroO k 0) none 0 0) 34)
        have hs2 := I2.out.2.size
        have hs3 := hb.size
        have hv := W0.out.lt
        refine ⟨gr_trans (gr_trans (gr_trans (gr_below B0.out) I2.out.2) (gr_below hb)) (gr_below ba), (I2.out.1.keep hb).keep ba, ((W0.out.grown I2.out.2 (fun e => by have := Option.some.inj e; have := HR.out; omega)).keep hb).keep ba, Whole.new w3 _ _, defAt_zeroO _, (fun a ha => by cases ha), by omega, Nat.le_refl _, HR.out, (fun a ha => by cases ha)⟩); clear hb KD)
    | (refine wpList_store_row rfl 34 (.tmp 3) (.tmp 8) rfl _ (oA (zeroO k 0) none 0 0) rfl rfl 34 _ (heap_alloc_new _ _) (info10 _ _ _ _) rfl (all10 _ _ _ _) ?_; rw [World.setRow_alloc_new]))
  clear I2 B0 W0
  generalize w3.alloc (.cells (oA (zeroO k 0) none 0 0) 34) = w4 at I3 ⊢
  generalize w3.heap.size = O at I3 ⊢
  have y0 : w4.cell? ⟨O, 0, none⟩ = some (.int .i64 (k : Int)) := I3.out.wo.cell 0
  by_cases hkz : k = 0
  · have hp0 : ¬ ((0 : Int) < (k : Int)) := by omega
    have hdk : decide (0 < k) = false := decide_eq_false (by omega)
    have HB : Hid (¬ goodW s) := Lib.hid (fun h => h.1 (by rw [show (partW (some (some s))).1 = firstW s from rfl, ← HKK.out]; exact hkz))
    clear hkz
    go_wp2_with (go_at_call 101; refine (need_no _).mono ?_; rintro e wa ⟨rfl, rfl⟩)
    exact ⟨rfl, op_bad HB.out I3.out.g⟩
  have hp0 : (0 : Int) < (k : Int) := by omega
  have hdk : decide (0 < k) = true := decide_eq_true (by omega)
  have HNZ : Hid (kindW (firstW s) ≠ 0) := Lib.hid (by rw [← HKK.out]; exact hkz)
  have H12 : Hid (k = 1 ∨ k = 2 ∨ k = 3 ∨ k = 4 ∨ k = 5 ∨ k = 6 ∨ k = 7 ∨ k = 8 ∨ k = 9 ∨ k = 10 ∨ k = 11 ∨ k = 12) := Lib.hid (by omega)
  have HK12 := Lib.hid hk12
  clear hkz hk12
  go_upto_region 3 with (go_at_call 101; refine (need_yes _).mono ?_; rintro e wa ⟨rfl, rfl⟩)
  clear y0
  have NM := Lib.hid (num_any st1 R w4 (HEK.out w4 I3.out.g).sh HL1.out I3.out.rd)
  go_upto_region 4 with (go_at_call 102; refine NM.out.mono ?_; rintro e w5 (⟨hnn, rfl, hg⟩ | ⟨n1, st2, hnn, rfl, hr, hg⟩); all_goals (have HN1 := Lib.hid hnn; clear hnn NM); (first | (have I5 := Lib.hid (I3.out.read hg hr); have z1 : w5.cell? ⟨O, 1, none⟩ = some (.int .i64 0) := I5.out.wo.cell 1; have f1 : w5.frozen? ⟨O, 1, none⟩ = false := I5.out.wo.fr 1; clear hg hr) | (have I5 := Lib.hid (gr_trans I3.out.g hg); clear hg)))
  · exact ⟨rfl, op_bad (fun h => by have := h.2.1; rw [HOP.out, HN1.out, tail_none] at this; cases this) I5.out⟩
  have HOP2 : Hid (opW s = tailW k n1 (some st2)) := Lib.hid (by have := HOP.out; rw [HN1.out] at this; exact this)
  have HL2 := Lib.hid (num_len HN1.out HL1'.out)
  clear I3 HOP HN1 HL1 HL1'
  have I6 : Hid (OpS w R w.heap.size O (zeroO k n1) none 0 0 st2 (w5.setCell ⟨O, 1, none⟩ (.int .i64 (n1 : Int)))) := Lib.hid (I5.out.put_n n1)
  clear I5 z1 f1
  generalize w5.setCell ⟨O, 1, none⟩ (.int .i64 (n1 : Int)) = w6 at I6 ⊢
  have y0 : w6.cell? ⟨O, 0, none⟩ = some (.int .i64 (k : Int)) := I6.out.wo.cell 0
  go_upto_region 6 with fail
  clear y0
  have HN2 : Hid (n1 ≤ 9999999) := Lib.hid HL2.out.1
  rcases H12.out with h1 | h1 | h1 | h1 | h1 | h1 | h1 | h1 | h1 | h1 | h1 | h1
  · skip
    have e6 : ((k : Int) == 6) = false := by rw [h1]; rfl
    have e9 : ((k : Int) == 9) = false := by rw [h1]; rfl
    have e10 : ((k : Int) == 10) = false := by rw [h1]; rfl
    have e8 : ((k : Int) == 8) = false := by rw [h1]; rfl
    have e11 : ((k : Int) == 11) = false := by rw [h1]; rfl
    have e12 : ((k : Int) == 12) = false := by rw [h1]; rfl
    have HLX := Lib.hid HL2.out.2
    have HT : Hid (opW s = (zeroO k n1, some st2, 0)) := Lib.hid (by rw [HOP2.out, tail_0 (by omega) (by omega) (by omega) (by omega)])
    have HG := Lib.hid (good_of HNZ.out HT.out)
    clear h1
    cases st2 with
    | some lq =>
      have x1 : w6.cell? ⟨R, 1, none⟩ = some (.bool false) := (show Whole w6 R 105 #[.string ⟨lq.toArray⟩, .bool false] from I6.out.rd).cell 1
      have HB : Hid (¬ goodW s) := Lib.hid (fun h => by have := (HG.out.1 h).1; cases this)
      go_wp2_with (go_at_call 101; refine (need_no _).mono ?_; rintro e wa ⟨rfl, rfl⟩)
      exact ⟨rfl, op_bad HB.out I6.out.g⟩
    | none =>
      have x1 : w6.cell? ⟨R, 1, none⟩ = some (.bool true) := by
        obtain ⟨xq, hxq⟩ := I6.out.rd
        exact hxq.cell 1
      obtain ⟨cc, hcc⟩ : ∃ cc : Ov, cc = zeroO k n1 := ⟨_, rfl⟩
      have I6 : Hid (OpS w R w.heap.size O cc none 0 0 none w6) := Lib.hid (by rw [hcc]; exact I6.out)
      have HZ : Hid (OpZ cc) := Lib.hid (by rw [hcc]; exact opok_z HK12.out HN2.out)
      have HE1 : Hid ((opW s).1 = cc) := Lib.hid (by rw [hcc, HT.out])
      have HG2 : Hid (goodW s ↔ opOk cc) := Lib.hid (by rw [hcc]; exact ⟨fun h => (HG.out.1 h).2.2, fun h => HG.out.2 ⟨rfl, rfl, h⟩⟩)
      have CK := Lib.hid (ocheck_any cc none 0 0 w6 ⟨I6.out.d, HZ.out⟩)
      clear hcc
      by_cases hok : opOk cc
      case neg =>
        have HB : Hid (¬ goodW s) := Lib.hid (fun h => hok (HG2.out.1 h))
        have CK := CK.out
        rw [ckO_no hok] at CK
        have CK := Lib.hid CK
        clear hok
        go_wp2_with (first
          | (refine wpList_load_rowG (by rfl) 34 (.tmp 3) rfl O rfl 34 (oA cc none 0 0) (0, 0) _ I6.out.wo Tryz.underlying34 rfl (info10 _ _ _ _) ?_)
          | (go_at_call 24; refine CK.out.mono ?_; rintro e wc ⟨rfl, hb⟩; have IZ := Lib.hid (I6.out.keep hb); clear hb CK)
          | (go_at_call 101; refine (need_no _).mono ?_; rintro e wa ⟨rfl, rfl⟩))
        exact ⟨rfl, op_bad HB.out IZ.out.g⟩
      have HB : Hid (goodW s) := Lib.hid (HG2.out.2 hok)
      have CK := CK.out
      rw [ckO_yes hok] at CK
      have CK := Lib.hid CK
      clear hok
      go_wp2_with (first
        | (refine wpList_load_rowG (by rfl) 34 (.tmp 3) rfl O rfl 34 (oA cc none 0 0) (0, 0) _ I6.out.wo Tryz.underlying34 rfl (info10 _ _ _ _) ?_)
        | (go_at_call 24; refine CK.out.mono ?_; rintro e wc ⟨rfl, hb⟩; have IZ := Lib.hid (I6.out.keep hb); clear hb CK)
        | (go_at_call 101; refine (need_yes _).mono ?_; rintro e wa ⟨rfl, rfl⟩)
        | (refine wpList_load_row (by rfl) 34 (.tmp 3) rfl O rfl 34 (oA cc none 0 0) (0, 0) _ IZ.out.wo Tryz.underlying34 rfl (info10 _ _ _ _) ?_)
        | (refine wpList_store_row rfl 34 (.tmp 2) (.tmp 68) rfl w.heap.size (oA cc none 0 0) rfl rfl 34 (oA (zeroO 0 0) none 0 0) IZ.out.wr (info10 _ _ _ _) rfl (all10 _ _ _ _) ?_))
      refine bodyPost_ret (results_row1 rfl _ _ w.heap.size 34 (oA cc none 0 0) (0, 0) _ rfl (setRow_heap _ _ _ _ _ _ IZ.out.wr) Tryz.underlying34 rfl (info10 _ _ _ _)) rfl ?_
      exact op_good IZ.out HZ.out HB.out HE1.out
  · skip
    have e6 : ((k : Int) == 6) = false := by rw [h1]; rfl
    have e9 : ((k : Int) == 9) = false := by rw [h1]; rfl
    have e10 : ((k : Int) == 10) = false := by rw [h1]; rfl
    have e8 : ((k : Int) == 8) = false := by rw [h1]; rfl
    have e11 : ((k : Int) == 11) = false := by rw [h1]; rfl
    have e12 : ((k : Int) == 12) = false := by rw [h1]; rfl
    have HLX := Lib.hid HL2.out.2
    have HT : Hid (opW s = (zeroO k n1, some st2, 0)) := Lib.hid (by rw [HOP2.out, tail_0 (by omega) (by omega) (by omega) (by omega)])
    have HG := Lib.hid (good_of HNZ.out HT.out)
    clear h1
    cases st2 with
    | some lq =>
      have x1 : w6.cell? ⟨R, 1, none⟩ = some (.bool false) := (show Whole w6 R 105 #[.string ⟨lq.toArray⟩, .bool false] from I6.out.rd).cell 1
      have HB : Hid (¬ goodW s) := Lib.hid (fun h => by have := (HG.out.1 h).1; cases this)
      go_wp2_with (go_at_call 101; refine (need_no _).mono ?_; rintro e wa ⟨rfl, rfl⟩)
      exact ⟨rfl, op_bad HB.out I6.out.g⟩
    | none =>
      have x1 : w6.cell? ⟨R, 1, none⟩ = some (.bool true) := by
        obtain ⟨xq, hxq⟩ := I6.out.rd
        exact hxq.cell 1
      obtain ⟨cc, hcc⟩ : ∃ cc : Ov, cc = zeroO k n1 := ⟨_, rfl⟩
      have I6 : Hid (OpS w R w.heap.size O cc none 0 0 none w6) := Lib.hid (by rw [hcc]; exact I6.out)
      have HZ : Hid (OpZ cc) := Lib.hid (by rw [hcc]; exact opok_z HK12.out HN2.out)
      have HE1 : Hid ((opW s).1 = cc) := Lib.hid (by rw [hcc, HT.out])
      have HG2 : Hid (goodW s ↔ opOk cc) := Lib.hid (by rw [hcc]; exact ⟨fun h => (HG.out.1 h).2.2, fun h => HG.out.2 ⟨rfl, rfl, h⟩⟩)
      have CK := Lib.hid (ocheck_any cc none 0 0 w6 ⟨I6.out.d, HZ.out⟩)
      clear hcc
      by_cases hok : opOk cc
      case neg =>
        have HB : Hid (¬ goodW s) := Lib.hid (fun h => hok (HG2.out.1 h))
        have CK := CK.out
        rw [ckO_no hok] at CK
        have CK := Lib.hid CK
        clear hok
        go_wp2_with (first
          | (refine wpList_load_rowG (by rfl) 34 (.tmp 3) rfl O rfl 34 (oA cc none 0 0) (0, 0) _ I6.out.wo Tryz.underlying34 rfl (info10 _ _ _ _) ?_)
          | (go_at_call 24; refine CK.out.mono ?_; rintro e wc ⟨rfl, hb⟩; have IZ := Lib.hid (I6.out.keep hb); clear hb CK)
          | (go_at_call 101; refine (need_no _).mono ?_; rintro e wa ⟨rfl, rfl⟩))
        exact ⟨rfl, op_bad HB.out IZ.out.g⟩
      have HB : Hid (goodW s) := Lib.hid (HG2.out.2 hok)
      have CK := CK.out
      rw [ckO_yes hok] at CK
      have CK := Lib.hid CK
      clear hok
      go_wp2_with (first
        | (refine wpList_load_rowG (by rfl) 34 (.tmp 3) rfl O rfl 34 (oA cc none 0 0) (0, 0) _ I6.out.wo Tryz.underlying34 rfl (info10 _ _ _ _) ?_)
        | (go_at_call 24; refine CK.out.mono ?_; rintro e wc ⟨rfl, hb⟩; have IZ := Lib.hid (I6.out.keep hb); clear hb CK)
        | (go_at_call 101; refine (need_yes _).mono ?_; rintro e wa ⟨rfl, rfl⟩)
        | (refine wpList_load_row (by rfl) 34 (.tmp 3) rfl O rfl 34 (oA cc none 0 0) (0, 0) _ IZ.out.wo Tryz.underlying34 rfl (info10 _ _ _ _) ?_)
        | (refine wpList_store_row rfl 34 (.tmp 2) (.tmp 68) rfl w.heap.size (oA cc none 0 0) rfl rfl 34 (oA (zeroO 0 0) none 0 0) IZ.out.wr (info10 _ _ _ _) rfl (all10 _ _ _ _) ?_))
      refine bodyPost_ret (results_row1 rfl _ _ w.heap.size 34 (oA cc none 0 0) (0, 0) _ rfl (setRow_heap _ _ _ _ _ _ IZ.out.wr) Tryz.underlying34 rfl (info10 _ _ _ _)) rfl ?_
      exact op_good IZ.out HZ.out HB.out HE1.out
  · skip
    have e6 : ((k : Int) == 6) = false := by rw [h1]; rfl
    have e9 : ((k : Int) == 9) = false := by rw [h1]; rfl
    have e10 : ((k : Int) == 10) = false := by rw [h1]; rfl
    have e8 : ((k : Int) == 8) = false := by rw [h1]; rfl
    have e11 : ((k : Int) == 11) = false := by rw [h1]; rfl
    have e12 : ((k : Int) == 12) = false := by rw [h1]; rfl
    have HLX := Lib.hid HL2.out.2
    have HT : Hid (opW s = (zeroO k n1, some st2, 0)) := Lib.hid (by rw [HOP2.out, tail_0 (by omega) (by omega) (by omega) (by omega)])
    have HG := Lib.hid (good_of HNZ.out HT.out)
    clear h1
    cases st2 with
    | some lq =>
      have x1 : w6.cell? ⟨R, 1, none⟩ = some (.bool false) := (show Whole w6 R 105 #[.string ⟨lq.toArray⟩, .bool false] from I6.out.rd).cell 1
      have HB : Hid (¬ goodW s) := Lib.hid (fun h => by have := (HG.out.1 h).1; cases this)
      go_wp2_with (go_at_call 101; refine (need_no _).mono ?_; rintro e wa ⟨rfl, rfl⟩)
      exact ⟨rfl, op_bad HB.out I6.out.g⟩
    | none =>
      have x1 : w6.cell? ⟨R, 1, none⟩ = some (.bool true) := by
        obtain ⟨xq, hxq⟩ := I6.out.rd
        exact hxq.cell 1
      obtain ⟨cc, hcc⟩ : ∃ cc : Ov, cc = zeroO k n1 := ⟨_, rfl⟩
      have I6 : Hid (OpS w R w.heap.size O cc none 0 0 none w6) := Lib.hid (by rw [hcc]; exact I6.out)
      have HZ : Hid (OpZ cc) := Lib.hid (by rw [hcc]; exact opok_z HK12.out HN2.out)
      have HE1 : Hid ((opW s).1 = cc) := Lib.hid (by rw [hcc, HT.out])
      have HG2 : Hid (goodW s ↔ opOk cc) := Lib.hid (by rw [hcc]; exact ⟨fun h => (HG.out.1 h).2.2, fun h => HG.out.2 ⟨rfl, rfl, h⟩⟩)
      have CK := Lib.hid (ocheck_any cc none 0 0 w6 ⟨I6.out.d, HZ.out⟩)
      clear hcc
      by_cases hok : opOk cc
      case neg =>
        have HB : Hid (¬ goodW s) := Lib.hid (fun h => hok (HG2.out.1 h))
        have CK := CK.out
        rw [ckO_no hok] at CK
        have CK := Lib.hid CK
        clear hok
        go_wp2_with (first
          | (refine wpList_load_rowG (by rfl) 34 (.tmp 3) rfl O rfl 34 (oA cc none 0 0) (0, 0) _ I6.out.wo Tryz.underlying34 rfl (info10 _ _ _ _) ?_)
          | (go_at_call 24; refine CK.out.mono ?_; rintro e wc ⟨rfl, hb⟩; have IZ := Lib.hid (I6.out.keep hb); clear hb CK)
          | (go_at_call 101; refine (need_no _).mono ?_; rintro e wa ⟨rfl, rfl⟩))
        exact ⟨rfl, op_bad HB.out IZ.out.g⟩
      have HB : Hid (goodW s) := Lib.hid (HG2.out.2 hok)
      have CK := CK.out
      rw [ckO_yes hok] at CK
      have CK := Lib.hid CK
      clear hok
      go_wp2_with (first
        | (refine wpList_load_rowG (by rfl) 34 (.tmp 3) rfl O rfl 34 (oA cc none 0 0) (0, 0) _ I6.out.wo Tryz.underlying34 rfl (info10 _ _ _ _) ?_)
        | (go_at_call 24; refine CK.out.mono ?_; rintro e wc ⟨rfl, hb⟩; have IZ := Lib.hid (I6.out.keep hb); clear hb CK)
        | (go_at_call 101; refine (need_yes _).mono ?_; rintro e wa ⟨rfl, rfl⟩)
        | (refine wpList_load_row (by rfl) 34 (.tmp 3) rfl O rfl 34 (oA cc none 0 0) (0, 0) _ IZ.out.wo Tryz.underlying34 rfl (info10 _ _ _ _) ?_)
        | (refine wpList_store_row rfl 34 (.tmp 2) (.tmp 68) rfl w.heap.size (oA cc none 0 0) rfl rfl 34 (oA (zeroO 0 0) none 0 0) IZ.out.wr (info10 _ _ _ _) rfl (all10 _ _ _ _) ?_))
      refine bodyPost_ret (results_row1 rfl _ _ w.heap.size 34 (oA cc none 0 0) (0, 0) _ rfl (setRow_heap _ _ _ _ _ _ IZ.out.wr) Tryz.underlying34 rfl (info10 _ _ _ _)) rfl ?_
      exact op_good IZ.out HZ.out HB.out HE1.out
  · skip
    have e6 : ((k : Int) == 6) = false := by rw [h1]; rfl
    have e9 : ((k : Int) == 9) = false := by rw [h1]; rfl
    have e10 : ((k : Int) == 10) = false := by rw [h1]; rfl
    have e8 : ((k : Int) == 8) = false := by rw [h1]; rfl
    have e11 : ((k : Int) == 11) = false := by rw [h1]; rfl
    have e12 : ((k : Int) == 12) = false := by rw [h1]; rfl
    have HLX := Lib.hid HL2.out.2
    have HT : Hid (opW s = (zeroO k n1, some st2, 0)) := Lib.hid (by rw [HOP2.out, tail_0 (by omega) (by omega) (by omega) (by omega)])
    have HG := Lib.hid (good_of HNZ.out HT.out)
    clear h1
    cases st2 with
    | some lq =>
      have x1 : w6.cell? ⟨R, 1, none⟩ = some (.bool false) := (show Whole w6 R 105 #[.string ⟨lq.toArray⟩, .bool false] from I6.out.rd).cell 1
      have HB : Hid (¬ goodW s) := Lib.hid (fun h => by have := (HG.out.1 h).1; cases this)
      go_wp2_with (go_at_call 101; refine (need_no _).mono ?_; rintro e wa ⟨rfl, rfl⟩)
      exact ⟨rfl, op_bad HB.out I6.out.g⟩
    | none =>
      have x1 : w6.cell? ⟨R, 1, none⟩ = some (.bool true) := by
        obtain ⟨xq, hxq⟩ := I6.out.rd
        exact hxq.cell 1
      obtain ⟨cc, hcc⟩ : ∃ cc : Ov, cc = zeroO k n1 := ⟨_, rfl⟩
      have I6 : Hid (OpS w R w.heap.size O cc none 0 0 none w6) := Lib.hid (by rw [hcc]; exact I6.out)
      have HZ : Hid (OpZ cc) := Lib.hid (by rw [hcc]; exact opok_z HK12.out HN2.out)
      have HE1 : Hid ((opW s).1 = cc) := Lib.hid (by rw [hcc, HT.out])
      have HG2 : Hid (goodW s ↔ opOk cc) := Lib.hid (by rw [hcc]; exact ⟨fun h => (HG.out.1 h).2.2, fun h => HG.out.2 ⟨rfl, rfl, h⟩⟩)
      have CK := Lib.hid (ocheck_any cc none 0 0 w6 ⟨I6.out.d, HZ.out⟩)
      clear hcc
      by_cases hok : opOk cc
      case neg =>
        have HB : Hid (¬ goodW s) := Lib.hid (fun h => hok (HG2.out.1 h))
        have CK := CK.out
        rw [ckO_no hok] at CK
        have CK := Lib.hid CK
        clear hok
        go_wp2_with (first
          | (refine wpList_load_rowG (by rfl) 34 (.tmp 3) rfl O rfl 34 (oA cc none 0 0) (0, 0) _ I6.out.wo Tryz.underlying34 rfl (info10 _ _ _ _) ?_)
          | (go_at_call 24; refine CK.out.mono ?_; rintro e wc ⟨rfl, hb⟩; have IZ := Lib.hid (I6.out.keep hb); clear hb CK)
          | (go_at_call 101; refine (need_no _).mono ?_; rintro e wa ⟨rfl, rfl⟩))
        exact ⟨rfl, op_bad HB.out IZ.out.g⟩
      have HB : Hid (goodW s) := Lib.hid (HG2.out.2 hok)
      have CK := CK.out
      rw [ckO_yes hok] at CK
      have CK := Lib.hid CK
      clear hok
      go_wp2_with (first
        | (refine wpList_load_rowG (by rfl) 34 (.tmp 3) rfl O rfl 34 (oA cc none 0 0) (0, 0) _ I6.out.wo Tryz.underlying34 rfl (info10 _ _ _ _) ?_)
        | (go_at_call 24; refine CK.out.mono ?_; rintro e wc ⟨rfl, hb⟩; have IZ := Lib.hid (I6.out.keep hb); clear hb CK)
        | (go_at_call 101; refine (need_yes _).mono ?_; rintro e wa ⟨rfl, rfl⟩)
        | (refine wpList_load_row (by rfl) 34 (.tmp 3) rfl O rfl 34 (oA cc none 0 0) (0, 0) _ IZ.out.wo Tryz.underlying34 rfl (info10 _ _ _ _) ?_)
        | (refine wpList_store_row rfl 34 (.tmp 2) (.tmp 68) rfl w.heap.size (oA cc none 0 0) rfl rfl 34 (oA (zeroO 0 0) none 0 0) IZ.out.wr (info10 _ _ _ _) rfl (all10 _ _ _ _) ?_))
      refine bodyPost_ret (results_row1 rfl _ _ w.heap.size 34 (oA cc none 0 0) (0, 0) _ rfl (setRow_heap _ _ _ _ _ _ IZ.out.wr) Tryz.underlying34 rfl (info10 _ _ _ _)) rfl ?_
      exact op_good IZ.out HZ.out HB.out HE1.out
  · skip
    have e6 : ((k : Int) == 6) = false := by rw [h1]; rfl
    have e9 : ((k : Int) == 9) = false := by rw [h1]; rfl
    have e10 : ((k : Int) == 10) = false := by rw [h1]; rfl
    have e8 : ((k : Int) == 8) = false := by rw [h1]; rfl
    have e11 : ((k : Int) == 11) = false := by rw [h1]; rfl
    have e12 : ((k : Int) == 12) = false := by rw [h1]; rfl
    have HLX := Lib.hid HL2.out.2
    have HT : Hid (opW s = (zeroO k n1, some st2, 0)) := Lib.hid (by rw [HOP2.out, tail_0 (by omega) (by omega) (by omega) (by omega)])
    have HG := Lib.hid (good_of HNZ.out HT.out)
    clear h1
    cases st2 with
    | some lq =>
      have x1 : w6.cell? ⟨R, 1, none⟩ = some (.bool false) := (show Whole w6 R 105 #[.string ⟨lq.toArray⟩, .bool false] from I6.out.rd).cell 1
      have HB : Hid (¬ goodW s) := Lib.hid (fun h => by have := (HG.out.1 h).1; cases this)
      go_wp2_with (go_at_call 101; refine (need_no _).mono ?_; rintro e wa ⟨rfl, rfl⟩)
      exact ⟨rfl, op_bad HB.out I6.out.g⟩
    | none =>
      have x1 : w6.cell? ⟨R, 1, none⟩ = some (.bool true) := by
        obtain ⟨xq, hxq⟩ := I6.out.rd
        exact hxq.cell 1
      obtain ⟨cc, hcc⟩ : ∃ cc : Ov, cc = zeroO k n1 := ⟨_, rfl⟩
      have I6 : Hid (OpS w R w.heap.size O cc none 0 0 none w6) := Lib.hid (by rw [hcc]; exact I6.out)
      have HZ : Hid (OpZ cc) := Lib.hid (by rw [hcc]; exact opok_z HK12.out HN2.out)
      have HE1 : Hid ((opW s).1 = cc) := Lib.hid (by rw [hcc, HT.out])
      have HG2 : Hid (goodW s ↔ opOk cc) := Lib.hid (by rw [hcc]; exact ⟨fun h => (HG.out.1 h).2.2, fun h => HG.out.2 ⟨rfl, rfl, h⟩⟩)
      have CK := Lib.hid (ocheck_any cc none 0 0 w6 ⟨I6.out.d, HZ.out⟩)
      clear hcc
      by_cases hok : opOk cc
      case neg =>
        have HB : Hid (¬ goodW s) := Lib.hid (fun h => hok (HG2.out.1 h))
        have CK := CK.out
        rw [ckO_no hok] at CK
        have CK := Lib.hid CK
        clear hok
        go_wp2_with (first
          | (refine wpList_load_rowG (by rfl) 34 (.tmp 3) rfl O rfl 34 (oA cc none 0 0) (0, 0) _ I6.out.wo Tryz.underlying34 rfl (info10 _ _ _ _) ?_)
          | (go_at_call 24; refine CK.out.mono ?_; rintro e wc ⟨rfl, hb⟩; have IZ := Lib.hid (I6.out.keep hb); clear hb CK)
          | (go_at_call 101; refine (need_no _).mono ?_; rintro e wa ⟨rfl, rfl⟩))
        exact ⟨rfl, op_bad HB.out IZ.out.g⟩
      have HB : Hid (goodW s) := Lib.hid (HG2.out.2 hok)
      have CK := CK.out
      rw [ckO_yes hok] at CK
      have CK := Lib.hid CK
      clear hok
      go_wp2_with (first
        | (refine wpList_load_rowG (by rfl) 34 (.tmp 3) rfl O rfl 34 (oA cc none 0 0) (0, 0) _ I6.out.wo Tryz.underlying34 rfl (info10 _ _ _ _) ?_)
        | (go_at_call 24; refine CK.out.mono ?_; rintro e wc ⟨rfl, hb⟩; have IZ := Lib.hid (I6.out.keep hb); clear hb CK)
        | (go_at_call 101; refine (need_yes _).mono ?_; rintro e wa ⟨rfl, rfl⟩)
        | (refine wpList_load_row (by rfl) 34 (.tmp 3) rfl O rfl 34 (oA cc none 0 0) (0, 0) _ IZ.out.wo Tryz.underlying34 rfl (info10 _ _ _ _) ?_)
        | (refine wpList_store_row rfl 34 (.tmp 2) (.tmp 68) rfl w.heap.size (oA cc none 0 0) rfl rfl 34 (oA (zeroO 0 0) none 0 0) IZ.out.wr (info10 _ _ _ _) rfl (all10 _ _ _ _) ?_))
      refine bodyPost_ret (results_row1 rfl _ _ w.heap.size 34 (oA cc none 0 0) (0, 0) _ rfl (setRow_heap _ _ _ _ _ _ IZ.out.wr) Tryz.underlying34 rfl (info10 _ _ _ _)) rfl ?_
      exact op_good IZ.out HZ.out HB.out HE1.out
  · skip
    have e6 : ((k : Int) == 6) = true := by rw [h1]; rfl
    have HLX := Lib.hid HL2.out.2
    have HT0 : Hid (opW s = ({ zeroO k n1 with m := (numW (some st2)).1 }, (numW (some st2)).2, 0)) := Lib.hid (by rw [HOP2.out, tail_m (by omega)])
    have NM := Lib.hid (num_any st2 R w6 (HEK.out w6 I6.out.g).sh (fun l hl => by have := HLX.out l hl; omega) I6.out.rd)
    go_upto_region 18 with (go_at_call 102; refine NM.out.mono ?_; rintro e w7 (⟨hnn, rfl, hg⟩ | ⟨m1, st3, hnn, rfl, hr, hg⟩); all_goals (have HNM := Lib.hid hnn; clear hnn NM); (first | (have IN := Lib.hid (I6.out.read hg hr); have z2 : w7.cell? ⟨O, 2, none⟩ = some (.int .i64 0) := IN.out.wo.cell 2; have f2 : w7.frozen? ⟨O, 2, none⟩ = false := IN.out.wo.fr 2; clear hg hr) | (have IN := Lib.hid (gr_trans I6.out.g hg); clear hg)))
    · exact ⟨rfl, op_bad (fun h => by have := h.2.1; rw [HT0.out] at this; dsimp only at this; rw [HNM.out] at this; cases this) IN.out⟩
    have HT : Hid (opW s = ({ zeroO k n1 with m := m1 }, some st3, 0)) := Lib.hid (by have := HT0.out; rw [HNM.out] at this; exact this)
    have HG := Lib.hid (good_of HNZ.out HT.out)
    have HM := Lib.hid (num_len HNM.out HLX.out).1
    have I7 : Hid (OpS w R w.heap.size O { zeroO k n1 with m := (m1 : Int) } none 0 0 st3 (w7.setCell ⟨O, 2, none⟩ (.int .i64 (m1 : Int)))) := Lib.hid (IN.out.put_m m1)
    clear h1 IN z2 f2 I6 HT0 HLX HNM
    generalize w7.setCell ⟨O, 2, none⟩ (.int .i64 (m1 : Int)) = w8 at I7 ⊢
    cases st3 with
    | some lq =>
      have x1 : w8.cell? ⟨R, 1, none⟩ = some (.bool false) := (show Whole w8 R 105 #[.string ⟨lq.toArray⟩, .bool false] from I7.out.rd).cell 1
      have HB : Hid (¬ goodW s) := Lib.hid (fun h => by have := (HG.out.1 h).1; cases this)
      go_wp2_with (go_at_call 101; refine (need_no _).mono ?_; rintro e wa ⟨rfl, rfl⟩)
      exact ⟨rfl, op_bad HB.out I7.out.g⟩
    | none =>
      have x1 : w8.cell? ⟨R, 1, none⟩ = some (.bool true) := by
        obtain ⟨xq, hxq⟩ := I7.out.rd
        exact hxq.cell 1
      obtain ⟨cc, hcc⟩ : ∃ cc : Ov, cc = { zeroO k n1 with m := (m1 : Int) } := ⟨_, rfl⟩
      have I7 : Hid (OpS w R w.heap.size O cc none 0 0 none w8) := Lib.hid (by rw [hcc]; exact I7.out)
      have HZ : Hid (OpZ cc) := Lib.hid (by rw [hcc]; exact (let z := opok_z HK12.out HN2.out; ⟨z.k, z.n, nat64 HM.out, z.key, z.f, z.t⟩))
      have HE1 : Hid ((opW s).1 = cc) := Lib.hid (by rw [hcc, HT.out])
      have HG2 : Hid (goodW s ↔ opOk cc) := Lib.hid (by rw [hcc]; exact ⟨fun h => (HG.out.1 h).2.2, fun h => HG.out.2 ⟨rfl, rfl, h⟩⟩)
      have CK := Lib.hid (ocheck_any cc none 0 0 w8 ⟨I7.out.d, HZ.out⟩)
      clear hcc
      by_cases hok : opOk cc
      case neg =>
        have HB : Hid (¬ goodW s) := Lib.hid (fun h => hok (HG2.out.1 h))
        have CK := CK.out
        rw [ckO_no hok] at CK
        have CK := Lib.hid CK
        clear hok
        go_wp2_with (first
          | (refine wpList_load_rowG (by rfl) 34 (.tmp 3) rfl O rfl 34 (oA cc none 0 0) (0, 0) _ I7.out.wo Tryz.underlying34 rfl (info10 _ _ _ _) ?_)
          | (go_at_call 24; refine CK.out.mono ?_; rintro e wc ⟨rfl, hb⟩; have IZ := Lib.hid (I7.out.keep hb); clear hb CK)
          | (go_at_call 101; refine (need_no _).mono ?_; rintro e wa ⟨rfl, rfl⟩))
        exact ⟨rfl, op_bad HB.out IZ.out.g⟩
      have HB : Hid (goodW s) := Lib.hid (HG2.out.2 hok)
      have CK := CK.out
      rw [ckO_yes hok] at CK
      have CK := Lib.hid CK
      clear hok
      go_wp2_with (first
        | (refine wpList_load_rowG (by rfl) 34 (.tmp 3) rfl O rfl 34 (oA cc none 0 0) (0, 0) _ I7.out.wo Tryz.underlying34 rfl (info10 _ _ _ _) ?_)
        | (go_at_call 24; refine CK.out.mono ?_; rintro e wc ⟨rfl, hb⟩; have IZ := Lib.hid (I7.out.keep hb); clear hb CK)
        | (go_at_call 101; refine (need_yes _).mono ?_; rintro e wa ⟨rfl, rfl⟩)
        | (refine wpList_load_row (by rfl) 34 (.tmp 3) rfl O rfl 34 (oA cc none 0 0) (0, 0) _ IZ.out.wo Tryz.underlying34 rfl (info10 _ _ _ _) ?_)
        | (refine wpList_store_row rfl 34 (.tmp 2) (.tmp 68) rfl w.heap.size (oA cc none 0 0) rfl rfl 34 (oA (zeroO 0 0) none 0 0) IZ.out.wr (info10 _ _ _ _) rfl (all10 _ _ _ _) ?_))
      refine bodyPost_ret (results_row1 rfl _ _ w.heap.size 34 (oA cc none 0 0) (0, 0) _ rfl (setRow_heap _ _ _ _ _ _ IZ.out.wr) Tryz.underlying34 rfl (info10 _ _ _ _)) rfl ?_
      exact op_good IZ.out HZ.out HB.out HE1.out
  · skip
    have e6 : ((k : Int) == 6) = false := by rw [h1]; rfl
    have e9 : ((k : Int) == 9) = false := by rw [h1]; rfl
    have e10 : ((k : Int) == 10) = false := by rw [h1]; rfl
    have e8 : ((k : Int) == 8) = false := by rw [h1]; rfl
    have e11 : ((k : Int) == 11) = false := by rw [h1]; rfl
    have e12 : ((k : Int) == 12) = false := by rw [h1]; rfl
    have HLX := Lib.hid HL2.out.2
    have HT : Hid (opW s = (zeroO k n1, some st2, 0)) := Lib.hid (by rw [HOP2.out, tail_0 (by omega) (by omega) (by omega) (by omega)])
    have HG := Lib.hid (good_of HNZ.out HT.out)
    clear h1
    cases st2 with
    | some lq =>
      have x1 : w6.cell? ⟨R, 1, none⟩ = some (.bool false) := (show Whole w6 R 105 #[.string ⟨lq.toArray⟩, .bool false] from I6.out.rd).cell 1
      have HB : Hid (¬ goodW s) := Lib.hid (fun h => by have := (HG.out.1 h).1; cases this)
      go_wp2_with (go_at_call 101; refine (need_no _).mono ?_; rintro e wa ⟨rfl, rfl⟩)
      exact ⟨rfl, op_bad HB.out I6.out.g⟩
    | none =>
      have x1 : w6.cell? ⟨R, 1, none⟩ = some (.bool true) := by
        obtain ⟨xq, hxq⟩ := I6.out.rd
        exact hxq.cell 1
      obtain ⟨cc, hcc⟩ : ∃ cc : Ov, cc = zeroO k n1 := ⟨_, rfl⟩
      have I6 : Hid (OpS w R w.heap.size O cc none 0 0 none w6) := Lib.hid (by rw [hcc]; exact I6.out)
      have HZ : Hid (OpZ cc) := Lib.hid (by rw [hcc]; exact opok_z HK12.out HN2.out)
      have HE1 : Hid ((opW s).1 = cc) := Lib.hid (by rw [hcc, HT.out])
      have HG2 : Hid (goodW s ↔ opOk cc) := Lib.hid (by rw [hcc]; exact ⟨fun h => (HG.out.1 h).2.2, fun h => HG.out.2 ⟨rfl, rfl, h⟩⟩)
      have CK := Lib.hid (ocheck_any cc none 0 0 w6 ⟨I6.out.d, HZ.out⟩)
      clear hcc
      by_cases hok : opOk cc
      case neg =>
        have HB : Hid (¬ goodW s) := Lib.hid (fun h => hok (HG2.out.1 h))
        have CK := CK.out
        rw [ckO_no hok] at CK
        have CK := Lib.hid CK
        clear hok
        go_wp2_with (first
          | (refine wpList_load_rowG (by rfl) 34 (.tmp 3) rfl O rfl 34 (oA cc none 0 0) (0, 0) _ I6.out.wo Tryz.underlying34 rfl (info10 _ _ _ _) ?_)
          | (go_at_call 24; refine CK.out.mono ?_; rintro e wc ⟨rfl, hb⟩; have IZ := Lib.hid (I6.out.keep hb); clear hb CK)
          | (go_at_call 101; refine (need_no _).mono ?_; rintro e wa ⟨rfl, rfl⟩))
        exact ⟨rfl, op_bad HB.out IZ.out.g⟩
      have HB : Hid (goodW s) := Lib.hid (HG2.out.2 hok)
      have CK := CK.out
      rw [ckO_yes hok] at CK
      have CK := Lib.hid CK
      clear hok
      go_wp2_with (first
        | (refine wpList_load_rowG (by rfl) 34 (.tmp 3) rfl O rfl 34 (oA cc none 0 0) (0, 0) _ I6.out.wo Tryz.underlying34 rfl (info10 _ _ _ _) ?_)
        | (go_at_call 24; refine CK.out.mono ?_; rintro e wc ⟨rfl, hb⟩; have IZ := Lib.hid (I6.out.keep hb); clear hb CK)
        | (go_at_call 101; refine (need_yes _).mono ?_; rintro e wa ⟨rfl, rfl⟩)
        | (refine wpList_load_row (by rfl) 34 (.tmp 3) rfl O rfl 34 (oA cc none 0 0) (0, 0) _ IZ.out.wo Tryz.underlying34 rfl (info10 _ _ _ _) ?_)
        | (refine wpList_store_row rfl 34 (.tmp 2) (.tmp 68) rfl w.heap.size (oA cc none 0 0) rfl rfl 34 (oA (zeroO 0 0) none 0 0) IZ.out.wr (info10 _ _ _ _) rfl (all10 _ _ _ _) ?_))
      refine bodyPost_ret (results_row1 rfl _ _ w.heap.size 34 (oA cc none 0 0) (0, 0) _ rfl (setRow_heap _ _ _ _ _ _ IZ.out.wr) Tryz.underlying34 rfl (info10 _ _ _ _)) rfl ?_
      exact op_good IZ.out HZ.out HB.out HE1.out
  · skip
    have e6 : ((k : Int) == 6) = false := by rw [h1]; rfl
    have e9 : ((k : Int) == 9) = false := by rw [h1]; rfl
    have e10 : ((k : Int) == 10) = false := by rw [h1]; rfl
    have e8 : ((k : Int) == 8) = true := by rw [h1]; rfl
    have HLX := Lib.hid HL2.out.2
    have HT0 : Hid (opW s = ({ zeroO k n1 with m := (numW (some st2)).1, d := (parV (allW (numW (some st2)).2).1).1 }, (allW (numW (some st2)).2).2, (parV (allW (numW (some st2)).2).1).2)) := Lib.hid (by rw [HOP2.out, h1]; rfl)
    have NM := Lib.hid (num_any st2 R w6 (HEK.out w6 I6.out.g).sh (fun l hl => by have := HLX.out l hl; omega) I6.out.rd)
    go_upto_region 12 with (go_at_call 102; refine NM.out.mono ?_; rintro e w7 (⟨hnn, rfl, hg⟩ | ⟨m1, st3, hnn, rfl, hr, hg⟩); all_goals (have HNM := Lib.hid hnn; clear hnn NM); (first | (have IN := Lib.hid (I6.out.read hg hr); have z2 : w7.cell? ⟨O, 2, none⟩ = some (.int .i64 0) := IN.out.wo.cell 2; have f2 : w7.frozen? ⟨O, 2, none⟩ = false := IN.out.wo.fr 2; clear hg hr) | (have IN := Lib.hid (gr_trans I6.out.g hg); clear hg)))
    · exact ⟨rfl, op_bad (fun h => by have := h.2.1; rw [HT0.out] at this; dsimp only at this; rw [HNM.out] at this; cases this) IN.out⟩
    have HT1 : Hid (opW s = ({ zeroO k n1 with m := m1, d := (parV (allW (some st3)).1).1 }, (allW (some st3)).2, (parV (allW (some st3)).1).2)) := Lib.hid (by have := HT0.out; rw [HNM.out] at this; exact this)
    have HM := Lib.hid (num_len HNM.out HLX.out)
    have I7 : Hid (OpS w R w.heap.size O { zeroO k n1 with m := (m1 : Int) } none 0 0 st3 (w7.setCell ⟨O, 2, none⟩ (.int .i64 (m1 : Int)))) := Lib.hid (IN.out.put_m m1)
    clear h1 IN z2 f2 I6 HT0 HLX HNM
    generalize w7.setCell ⟨O, 2, none⟩ (.int .i64 (m1 : Int)) = w8 at I7 ⊢
    have AL := Lib.hid (all_any st3 R w8 I7.out.rd)
    have DP := fun (l : List UInt8) (hl : l.length ≤ 100000) (W : World) (hg : GR R w W) => defParseF_any ⟨l.toArray⟩ W (by rw [Lib.size_mk]; omega) (HEK.out W hg)
    unfold ParseF dV at DP
    have DP := Lib.hid DP
    go_upto_region 18 with (first
      | (go_at_call 104; refine AL.out.mono ?_; rintro e w9 (⟨hnn, rfl, hg⟩ | ⟨l3, hnn, rfl, hr, hg⟩); all_goals (have HNM := Lib.hid hnn; clear hnn AL); (first | (have I9 := Lib.hid (I7.out.read hg hr); have DPL := Lib.hid (DP.out l3 (HM.out.2 l3 HNM.out) w9 I9.out.g); clear hg hr) | (have I9 := Lib.hid (gr_trans I7.out.g hg); clear hg)))
      | (go_at_call 103; refine DPL.out.mono ?_; rintro e w10 ⟨⟨d1, A1, nn1, mm1, er, rfl, hpr, hda, hfa⟩, hb⟩; have HFA := Lib.hid (fun (a : Addr) (ha : A1 = some a) => Nat.le_trans I9.out.g.size (hfa a ha)); clear hfa; have HPR := Lib.hid (And.intro hpr (And.intro hda hb)); have I10 := Lib.hid (I9.out.keep hb); have z6 : w10.cell? ⟨O, 6, none⟩ = some (.string ⟨#[]⟩) := I10.out.wo.cell 6; have z7 : w10.cell? ⟨O, 7, none⟩ = some (.int .i64 0) := I10.out.wo.cell 7; have z8 : w10.cell? ⟨O, 8, none⟩ = some (.int .i64 0) := I10.out.wo.cell 8; have z9 : w10.cell? ⟨O, 9, none⟩ = some (.slice none 0 0) := I10.out.wo.cell 9; have f6 : w10.frozen? ⟨O, 6, none⟩ = false := I10.out.wo.fr 6; have f7 : w10.frozen? ⟨O, 7, none⟩ = false := I10.out.wo.fr 7; have f8 : w10.frozen? ⟨O, 8, none⟩ = false := I10.out.wo.fr 8; have f9 : w10.frozen? ⟨O, 9, none⟩ = false := I10.out.wo.fr 9; clear hpr hda hb DPL))
    · exact ⟨rfl, op_bad (fun h => by have := h.2.1; rw [HT1.out] at this; dsimp only at this; rw [HNM.out] at this; cases this) I9.out⟩
    have HPV : Hid (parV l3 = (d1, er)) := Lib.hid (parV_of HPR.out.1)
    have HT : Hid (opW s = ({ zeroO k n1 with m := m1, d := d1 }, some none, er)) := Lib.hid (by
      have := HT1.out
      rw [HNM.out, show (allW (some (some l3))).1 = l3 from rfl, HPV.out] at this
      exact this)
    have HG := Lib.hid (good_of HNZ.out HT.out)
    have HDN : Hid (∀ a : Addr, A1 = some a → d1.s ≠ [] → a.block ≠ R ∧ a.block ≠ w.heap.size ∧ a.block ≠ O) := Lib.hid (fun a ha hs => by
      rcases HPR.out.1 with ⟨_, hd, _⟩ | ⟨_, hd, _⟩
      · exact ⟨sl_not_rd HPR.out.2.1.s I10.out.rd a ha hs, sl_not_op HPR.out.2.1.s hd I10.out.wr rfl a ha hs, sl_not_op HPR.out.2.1.s hd I10.out.wo rfl a ha hs⟩
      · rw [hd] at hs
        exact absurd rfl hs)
    have I11 : Hid (OpS w R w.heap.size O { zeroO k n1 with m := (m1 : Int), d := d1 } A1 nn1 mm1 none ((((w10.setCell ⟨O, 6, none⟩ (.string d1.n)).setCell ⟨O, 7, none⟩ (.int .i64 d1.r)).setCell ⟨O, 8, none⟩ (.int .i64 d1.dl)).setCell ⟨O, 9, none⟩ (.slice A1 nn1 mm1))) := Lib.hid (I10.out.put_def d1 HPR.out.2.1 HDN.out HFA.out)
    clear z6 z7 z8 z9 f6 f7 f8 f9 I10 I9 HPR HPV HNM HT1 DP HDN
    generalize (((w10.setCell ⟨O, 6, none⟩ (.string d1.n)).setCell ⟨O, 7, none⟩ (.int .i64 d1.r)).setCell ⟨O, 8, none⟩ (.int .i64 d1.dl)).setCell ⟨O, 9, none⟩ (.slice A1 nn1 mm1) = w11 at I11 ⊢
    by_cases her : er = 0
    case neg =>
      have e0 : (er == 0) = false := beq_eq_false_iff_ne.2 her
      have HB : Hid (¬ goodW s) := Lib.hid (fun h => her (HG.out.1 h).2.1)
      clear her
      go_wp2_with (go_at_call 101; refine (need_no _).mono ?_; rintro e wa ⟨rfl, rfl⟩)
      exact ⟨rfl, op_bad HB.out I11.out.g⟩
    have e0 : (er == 0) = true := by rw [her]; rfl
    have HER := Lib.hid her
    clear her
    have x1 : w11.cell? ⟨R, 1, none⟩ = some (.bool true) := by
      obtain ⟨xq, hxq⟩ := I11.out.rd
      exact hxq.cell 1
    obtain ⟨cc, hcc⟩ : ∃ cc : Ov, cc = { zeroO k n1 with m := (m1 : Int), d := d1 } := ⟨_, rfl⟩
    have I11 : Hid (OpS w R w.heap.size O cc A1 nn1 mm1 none w11) := Lib.hid (by rw [hcc]; exact I11.out)
    have HZ : Hid (OpZ cc) := Lib.hid (by rw [hcc]; exact (let z := opok_z HK12.out HN2.out; ⟨z.k, z.n, nat64 HM.out.1, z.key, z.f, z.t⟩))
    have HE1 : Hid ((opW s).1 = cc) := Lib.hid (by rw [hcc, HT.out])
    have HG2 : Hid (goodW s ↔ opOk cc) := Lib.hid (by rw [hcc]; exact ⟨fun h => (HG.out.1 h).2.2, fun h => HG.out.2 ⟨rfl, HER.out, h⟩⟩)
    have CK := Lib.hid (ocheck_any cc A1 nn1 mm1 w11 ⟨I11.out.d, HZ.out⟩)
    clear hcc
    by_cases hok : opOk cc
    case neg =>
      have HB : Hid (¬ goodW s) := Lib.hid (fun h => hok (HG2.out.1 h))
      have CK := CK.out
      rw [ckO_no hok] at CK
      have CK := Lib.hid CK
      clear hok
      go_wp2_with (first
        | (refine wpList_load_rowG (by rfl) 34 (.tmp 3) rfl O rfl 34 (oA cc A1 nn1 mm1) (0, 0) _ I11.out.wo Tryz.underlying34 rfl (info10 _ _ _ _) ?_)
        | (go_at_call 24; refine CK.out.mono ?_; rintro e wc ⟨rfl, hb⟩; have IZ := Lib.hid (I11.out.keep hb); clear hb CK)
        | (go_at_call 101; refine (need_no _).mono ?_; rintro e wa ⟨rfl, rfl⟩))
      exact ⟨rfl, op_bad HB.out IZ.out.g⟩
    have HB : Hid (goodW s) := Lib.hid (HG2.out.2 hok)
    have CK := CK.out
    rw [ckO_yes hok] at CK
    have CK := Lib.hid CK
    clear hok
    go_wp2_with (first
      | (refine wpList_load_rowG (by rfl) 34 (.tmp 3) rfl O rfl 34 (oA cc A1 nn1 mm1) (0, 0) _ I11.out.wo Tryz.underlying34 rfl (info10 _ _ _ _) ?_)
      | (go_at_call 24; refine CK.out.mono ?_; rintro e wc ⟨rfl, hb⟩; have IZ := Lib.hid (I11.out.keep hb); clear hb CK)
      | (go_at_call 101; refine (need_yes _).mono ?_; rintro e wa ⟨rfl, rfl⟩)
      | (refine wpList_load_row (by rfl) 34 (.tmp 3) rfl O rfl 34 (oA cc A1 nn1 mm1) (0, 0) _ IZ.out.wo Tryz.underlying34 rfl (info10 _ _ _ _) ?_)
      | (refine wpList_store_row rfl 34 (.tmp 2) (.tmp 68) rfl w.heap.size (oA cc A1 nn1 mm1) rfl rfl 34 (oA (zeroO 0 0) none 0 0) IZ.out.wr (info10 _ _ _ _) rfl (all10 _ _ _ _) ?_))
    refine bodyPost_ret (results_row1 rfl _ _ w.heap.size 34 (oA cc A1 nn1 mm1) (0, 0) _ rfl (setRow_heap _ _ _ _ _ _ IZ.out.wr) Tryz.underlying34 rfl (info10 _ _ _ _)) rfl ?_
    exact op_good IZ.out HZ.out HB.out HE1.out
  · skip
    have e6 : ((k : Int) == 6) = false := by rw [h1]; rfl
    have e9 : ((k : Int) == 9) = true := by rw [h1]; rfl
    have HLX := Lib.hid HL2.out.2
    have HT0 : Hid (opW s = ({ zeroO k n1 with m := (numW (some st2)).1 }, (numW (some st2)).2, 0)) := Lib.hid (by rw [HOP2.out, tail_m (by omega)])
    have NM := Lib.hid (num_any st2 R w6 (HEK.out w6 I6.out.g).sh (fun l hl => by have := HLX.out l hl; omega) I6.out.rd)
    go_upto_region 18 with (go_at_call 102; refine NM.out.mono ?_; rintro e w7 (⟨hnn, rfl, hg⟩ | ⟨m1, st3, hnn, rfl, hr, hg⟩); all_goals (have HNM := Lib.hid hnn; clear hnn NM); (first | (have IN := Lib.hid (I6.out.read hg hr); have z2 : w7.cell? ⟨O, 2, none⟩ = some (.int .i64 0) := IN.out.wo.cell 2; have f2 : w7.frozen? ⟨O, 2, none⟩ = false := IN.out.wo.fr 2; clear hg hr) | (have IN := Lib.hid (gr_trans I6.out.g hg); clear hg)))
    · exact ⟨rfl, op_bad (fun h => by have := h.2.1; rw [HT0.out] at this; dsimp only at this; rw [HNM.out] at this; cases this) IN.out⟩
    have HT : Hid (opW s = ({ zeroO k n1 with m := m1 }, some st3, 0)) := Lib.hid (by have := HT0.out; rw [HNM.out] at this; exact this)
    have HG := Lib.hid (good_of HNZ.out HT.out)
    have HM := Lib.hid (num_len HNM.out HLX.out).1
    have I7 : Hid (OpS w R w.heap.size O { zeroO k n1 with m := (m1 : Int) } none 0 0 st3 (w7.setCell ⟨O, 2, none⟩ (.int .i64 (m1 : Int)))) := Lib.hid (IN.out.put_m m1)
    clear h1 IN z2 f2 I6 HT0 HLX HNM
    generalize w7.setCell ⟨O, 2, none⟩ (.int .i64 (m1 : Int)) = w8 at I7 ⊢
    cases st3 with
    | some lq =>
      have x1 : w8.cell? ⟨R, 1, none⟩ = some (.bool false) := (show Whole w8 R 105 #[.string ⟨lq.toArray⟩, .bool false] from I7.out.rd).cell 1
      have HB : Hid (¬ goodW s) := Lib.hid (fun h => by have := (HG.out.1 h).1; cases this)
      go_wp2_with (go_at_call 101; refine (need_no _).mono ?_; rintro e wa ⟨rfl, rfl⟩)
      exact ⟨rfl, op_bad HB.out I7.out.g⟩
    | none =>
      have x1 : w8.cell? ⟨R, 1, none⟩ = some (.bool true) := by
        obtain ⟨xq, hxq⟩ := I7.out.rd
        exact hxq.cell 1
      obtain ⟨cc, hcc⟩ : ∃ cc : Ov, cc = { zeroO k n1 with m := (m1 : Int) } := ⟨_, rfl⟩
      have I7 : Hid (OpS w R w.heap.size O cc none 0 0 none w8) := Lib.hid (by rw [hcc]; exact I7.out)
      have HZ : Hid (OpZ cc) := Lib.hid (by rw [hcc]; exact (let z := opok_z HK12.out HN2.out; ⟨z.k, z.n, nat64 HM.out, z.key, z.f, z.t⟩))
      have HE1 : Hid ((opW s).1 = cc) := Lib.hid (by rw [hcc, HT.out])
      have HG2 : Hid (goodW s ↔ opOk cc) := Lib.hid (by rw [hcc]; exact ⟨fun h => (HG.out.1 h).2.2, fun h => HG.out.2 ⟨rfl, rfl, h⟩⟩)
      have CK := Lib.hid (ocheck_any cc none 0 0 w8 ⟨I7.out.d, HZ.out⟩)
      clear hcc
      by_cases hok : opOk cc
      case neg =>
        have HB : Hid (¬ goodW s) := Lib.hid (fun h => hok (HG2.out.1 h))
        have CK := CK.out
        rw [ckO_no hok] at CK
        have CK := Lib.hid CK
        clear hok
        go_wp2_with (first
          | (refine wpList_load_rowG (by rfl) 34 (.tmp 3) rfl O rfl 34 (oA cc none 0 0) (0, 0) _ I7.out.wo Tryz.underlying34 rfl (info10 _ _ _ _) ?_)
          | (go_at_call 24; refine CK.out.mono ?_; rintro e wc ⟨rfl, hb⟩; have IZ := Lib.hid (I7.out.keep hb); clear hb CK)
          | (go_at_call 101; refine (need_no _).mono ?_; rintro e wa ⟨rfl, rfl⟩))
        exact ⟨rfl, op_bad HB.out IZ.out.g⟩
      have HB : Hid (goodW s) := Lib.hid (HG2.out.2 hok)
      have CK := CK.out
      rw [ckO_yes hok] at CK
      have CK := Lib.hid CK
      clear hok
      go_wp2_with (first
        | (refine wpList_load_rowG (by rfl) 34 (.tmp 3) rfl O rfl 34 (oA cc none 0 0) (0, 0) _ I7.out.wo Tryz.underlying34 rfl (info10 _ _ _ _) ?_)
        | (go_at_call 24; refine CK.out.mono ?_; rintro e wc ⟨rfl, hb⟩; have IZ := Lib.hid (I7.out.keep hb); clear hb CK)
        | (go_at_call 101; refine (need_yes _).mono ?_; rintro e wa ⟨rfl, rfl⟩)
        | (refine wpList_load_row (by rfl) 34 (.tmp 3) rfl O rfl 34 (oA cc none 0 0) (0, 0) _ IZ.out.wo Tryz.underlying34 rfl (info10 _ _ _ _) ?_)
        | (refine wpList_store_row rfl 34 (.tmp 2) (.tmp 68) rfl w.heap.size (oA cc none 0 0) rfl rfl 34 (oA (zeroO 0 0) none 0 0) IZ.out.wr (info10 _ _ _ _) rfl (all10 _ _ _ _) ?_))
      refine bodyPost_ret (results_row1 rfl _ _ w.heap.size 34 (oA cc none 0 0) (0, 0) _ rfl (setRow_heap _ _ _ _ _ _ IZ.out.wr) Tryz.underlying34 rfl (info10 _ _ _ _)) rfl ?_
      exact op_good IZ.out HZ.out HB.out HE1.out
  · skip
    have e6 : ((k : Int) == 6) = false := by rw [h1]; rfl
    have e9 : ((k : Int) == 9) = false := by rw [h1]; rfl
    have e10 : ((k : Int) == 10) = true := by rw [h1]; rfl
    have HLX := Lib.hid HL2.out.2
    have HT0 : Hid (opW s = ({ zeroO k n1 with m := (numW (some st2)).1 }, (numW (some st2)).2, 0)) := Lib.hid (by rw [HOP2.out, tail_m (by omega)])
    have NM := Lib.hid (num_any st2 R w6 (HEK.out w6 I6.out.g).sh (fun l hl => by have := HLX.out l hl; omega) I6.out.rd)
    go_upto_region 18 with (go_at_call 102; refine NM.out.mono ?_; rintro e w7 (⟨hnn, rfl, hg⟩ | ⟨m1, st3, hnn, rfl, hr, hg⟩); all_goals (have HNM := Lib.hid hnn; clear hnn NM); (first | (have IN := Lib.hid (I6.out.read hg hr); have z2 : w7.cell? ⟨O, 2, none⟩ = some (.int .i64 0) := IN.out.wo.cell 2; have f2 : w7.frozen? ⟨O, 2, none⟩ = false := IN.out.wo.fr 2; clear hg hr) | (have IN := Lib.hid (gr_trans I6.out.g hg); clear hg)))
    · exact ⟨rfl, op_bad (fun h => by have := h.2.1; rw [HT0.out] at this; dsimp only at this; rw [HNM.out] at this; cases this) IN.out⟩
    have HT : Hid (opW s = ({ zeroO k n1 with m := m1 }, some st3, 0)) := Lib.hid (by have := HT0.out; rw [HNM.out] at this; exact this)
    have HG := Lib.hid (good_of HNZ.out HT.out)
    have HM := Lib.hid (num_len HNM.out HLX.out).1
    have I7 : Hid (OpS w R w.heap.size O { zeroO k n1 with m := (m1 : Int) } none 0 0 st3 (w7.setCell ⟨O, 2, none⟩ (.int .i64 (m1 : Int)))) := Lib.hid (IN.out.put_m m1)
    clear h1 IN z2 f2 I6 HT0 HLX HNM
    generalize w7.setCell ⟨O, 2, none⟩ (.int .i64 (m1 : Int)) = w8 at I7 ⊢
    cases st3 with
    | some lq =>
      have x1 : w8.cell? ⟨R, 1, none⟩ = some (.bool false) := (show Whole w8 R 105 #[.string ⟨lq.toArray⟩, .bool false] from I7.out.rd).cell 1
      have HB : Hid (¬ goodW s) := Lib.hid (fun h => by have := (HG.out.1 h).1; cases this)
      go_wp2_with (go_at_call 101; refine (need_no _).mono ?_; rintro e wa ⟨rfl, rfl⟩)
      exact ⟨rfl, op_bad HB.out I7.out.g⟩
    | none =>
      have x1 : w8.cell? ⟨R, 1, none⟩ = some (.bool true) := by
        obtain ⟨xq, hxq⟩ := I7.out.rd
        exact hxq.cell 1
      obtain ⟨cc, hcc⟩ : ∃ cc : Ov, cc = { zeroO k n1 with m := (m1 : Int) } := ⟨_, rfl⟩
      have I7 : Hid (OpS w R w.heap.size O cc none 0 0 none w8) := Lib.hid (by rw [hcc]; exact I7.out)
      have HZ : Hid (OpZ cc) := Lib.hid (by rw [hcc]; exact (let z := opok_z HK12.out HN2.out; ⟨z.k, z.n, nat64 HM.out, z.key, z.f, z.t⟩))
      have HE1 : Hid ((opW s).1 = cc) := Lib.hid (by rw [hcc, HT.out])
      have HG2 : Hid (goodW s ↔ opOk cc) := Lib.hid (by rw [hcc]; exact ⟨fun h => (HG.out.1 h).2.2, fun h => HG.out.2 ⟨rfl, rfl, h⟩⟩)
      have CK := Lib.hid (ocheck_any cc none 0 0 w8 ⟨I7.out.d, HZ.out⟩)
      clear hcc
      by_cases hok : opOk cc
      case neg =>
        have HB : Hid (¬ goodW s) := Lib.hid (fun h => hok (HG2.out.1 h))
        have CK := CK.out
        rw [ckO_no hok] at CK
        have CK := Lib.hid CK
        clear hok
        go_wp2_with (first
          | (refine wpList_load_rowG (by rfl) 34 (.tmp 3) rfl O rfl 34 (oA cc none 0 0) (0, 0) _ I7.out.wo Tryz.underlying34 rfl (info10 _ _ _ _) ?_)
          | (go_at_call 24; refine CK.out.mono ?_; rintro e wc ⟨rfl, hb⟩; have IZ := Lib.hid (I7.out.keep hb); clear hb CK)
          | (go_at_call 101; refine (need_no _).mono ?_; rintro e wa ⟨rfl, rfl⟩))
        exact ⟨rfl, op_bad HB.out IZ.out.g⟩
      have HB : Hid (goodW s) := Lib.hid (HG2.out.2 hok)
      have CK := CK.out
      rw [ckO_yes hok] at CK
      have CK := Lib.hid CK
      clear hok
      go_wp2_with (first
        | (refine wpList_load_rowG (by rfl) 34 (.tmp 3) rfl O rfl 34 (oA cc none 0 0) (0, 0) _ I7.out.wo Tryz.underlying34 rfl (info10 _ _ _ _) ?_)
        | (go_at_call 24; refine CK.out.mono ?_; rintro e wc ⟨rfl, hb⟩; have IZ := Lib.hid (I7.out.keep hb); clear hb CK)
        | (go_at_call 101; refine (need_yes _).mono ?_; rintro e wa ⟨rfl, rfl⟩)
        | (refine wpList_load_row (by rfl) 34 (.tmp 3) rfl O rfl 34 (oA cc none 0 0) (0, 0) _ IZ.out.wo Tryz.underlying34 rfl (info10 _ _ _ _) ?_)
        | (refine wpList_store_row rfl 34 (.tmp 2) (.tmp 68) rfl w.heap.size (oA cc none 0 0) rfl rfl 34 (oA (zeroO 0 0) none 0 0) IZ.out.wr (info10 _ _ _ _) rfl (all10 _ _ _ _) ?_))
      refine bodyPost_ret (results_row1 rfl _ _ w.heap.size 34 (oA cc none 0 0) (0, 0) _ rfl (setRow_heap _ _ _ _ _ _ IZ.out.wr) Tryz.underlying34 rfl (info10 _ _ _ _)) rfl ?_
      exact op_good IZ.out HZ.out HB.out HE1.out
  · skip
    have e6 : ((k : Int) == 6) = false := by rw [h1]; rfl
    have e9 : ((k : Int) == 9) = false := by rw [h1]; rfl
    have e10 : ((k : Int) == 10) = false := by rw [h1]; rfl
    have e8 : ((k : Int) == 8) = false := by rw [h1]; rfl
    have e11 : ((k : Int) == 11) = true := by rw [h1]; rfl
    have HLX := Lib.hid HL2.out.2
    have HT0 : Hid (opW s = ({ zeroO k n1 with key := ⟨(partW (some st2)).1.toArray⟩ }, (partW (some st2)).2, 0)) := Lib.hid (by rw [HOP2.out, h1]; rfl)
    have PM := Lib.hid (part_any st2 R w6 (HEK.out w6 I6.out.g).sh (fun l hl => by have := HLX.out l hl; omega) I6.out.rd)
    go_upto_region 18 with (go_at_call 100; refine PM.out.mono ?_; rintro e w7 (⟨hnn, rfl, hg⟩ | ⟨p1, st3, hnn, rfl, hr, hg⟩); all_goals (have HNM := Lib.hid hnn; clear hnn PM); (first | (have IN := Lib.hid (I6.out.read hg hr); have z2 : w7.cell? ⟨O, 3, none⟩ = some (.string ⟨#[]⟩) := IN.out.wo.cell 3; have f2 : w7.frozen? ⟨O, 3, none⟩ = false := IN.out.wo.fr 3; clear hg hr) | (have IN := Lib.hid (gr_trans I6.out.g hg); clear hg)))
    · exact ⟨rfl, op_bad (fun h => by have := h.2.1; rw [HT0.out] at this; dsimp only at this; rw [HNM.out] at this; cases this) IN.out⟩
    obtain ⟨kb, hkb⟩ : ∃ kb : ByteArray, kb = ⟨p1.toArray⟩ := ⟨_, rfl⟩
    have HT : Hid (opW s = ({ zeroO k n1 with key := kb }, some st3, 0)) := Lib.hid (by have := HT0.out; rw [HNM.out] at this; rw [hkb]; exact this)
    have HG := Lib.hid (good_of HNZ.out HT.out)
    have HM : Hid (kb.size ≤ 100000) := Lib.hid (by rw [hkb, Lib.size_mk]; exact (part_len HNM.out HLX.out).1)
    rw [← hkb]
    clear hkb
    have I7 : Hid (OpS w R w.heap.size O { zeroO k n1 with key := kb } none 0 0 st3 (w7.setCell ⟨O, 3, none⟩ (.string kb))) := Lib.hid (IN.out.put_key kb)
    clear h1 IN z2 f2 I6 HT0 HLX HNM
    generalize w7.setCell ⟨O, 3, none⟩ (.string kb) = w8 at I7 ⊢
    cases st3 with
    | some lq =>
      have x1 : w8.cell? ⟨R, 1, none⟩ = some (.bool false) := (show Whole w8 R 105 #[.string ⟨lq.toArray⟩, .bool false] from I7.out.rd).cell 1
      have HB : Hid (¬ goodW s) := Lib.hid (fun h => by have := (HG.out.1 h).1; cases this)
      go_wp2_with (go_at_call 101; refine (need_no _).mono ?_; rintro e wa ⟨rfl, rfl⟩)
      exact ⟨rfl, op_bad HB.out I7.out.g⟩
    | none =>
      have x1 : w8.cell? ⟨R, 1, none⟩ = some (.bool true) := by
        obtain ⟨xq, hxq⟩ := I7.out.rd
        exact hxq.cell 1
      obtain ⟨cc, hcc⟩ : ∃ cc : Ov, cc = { zeroO k n1 with key := kb } := ⟨_, rfl⟩
      have I7 : Hid (OpS w R w.heap.size O cc none 0 0 none w8) := Lib.hid (by rw [hcc]; exact I7.out)
      have HZ : Hid (OpZ cc) := Lib.hid (by rw [hcc]; exact (let z := opok_z HK12.out HN2.out; ⟨z.k, z.n, z.m, by have := HM.out; show kb.size ≤ _; omega, z.f, z.t⟩))
      have HE1 : Hid ((opW s).1 = cc) := Lib.hid (by rw [hcc, HT.out])
      have HG2 : Hid (goodW s ↔ opOk cc) := Lib.hid (by rw [hcc]; exact ⟨fun h => (HG.out.1 h).2.2, fun h => HG.out.2 ⟨rfl, rfl, h⟩⟩)
      have CK := Lib.hid (ocheck_any cc none 0 0 w8 ⟨I7.out.d, HZ.out⟩)
      clear hcc
      by_cases hok : opOk cc
      case neg =>
        have HB : Hid (¬ goodW s) := Lib.hid (fun h => hok (HG2.out.1 h))
        have CK := CK.out
        rw [ckO_no hok] at CK
        have CK := Lib.hid CK
        clear hok
        go_wp2_with (first
          | (refine wpList_load_rowG (by rfl) 34 (.tmp 3) rfl O rfl 34 (oA cc none 0 0) (0, 0) _ I7.out.wo Tryz.underlying34 rfl (info10 _ _ _ _) ?_)
          | (go_at_call 24; refine CK.out.mono ?_; rintro e wc ⟨rfl, hb⟩; have IZ := Lib.hid (I7.out.keep hb); clear hb CK)
          | (go_at_call 101; refine (need_no _).mono ?_; rintro e wa ⟨rfl, rfl⟩))
        exact ⟨rfl, op_bad HB.out IZ.out.g⟩
      have HB : Hid (goodW s) := Lib.hid (HG2.out.2 hok)
      have CK := CK.out
      rw [ckO_yes hok] at CK
      have CK := Lib.hid CK
      clear hok
      go_wp2_with (first
        | (refine wpList_load_rowG (by rfl) 34 (.tmp 3) rfl O rfl 34 (oA cc none 0 0) (0, 0) _ I7.out.wo Tryz.underlying34 rfl (info10 _ _ _ _) ?_)
        | (go_at_call 24; refine CK.out.mono ?_; rintro e wc ⟨rfl, hb⟩; have IZ := Lib.hid (I7.out.keep hb); clear hb CK)
        | (go_at_call 101; refine (need_yes _).mono ?_; rintro e wa ⟨rfl, rfl⟩)
        | (refine wpList_load_row (by rfl) 34 (.tmp 3) rfl O rfl 34 (oA cc none 0 0) (0, 0) _ IZ.out.wo Tryz.underlying34 rfl (info10 _ _ _ _) ?_)
        | (refine wpList_store_row rfl 34 (.tmp 2) (.tmp 68) rfl w.heap.size (oA cc none 0 0) rfl rfl 34 (oA (zeroO 0 0) none 0 0) IZ.out.wr (info10 _ _ _ _) rfl (all10 _ _ _ _) ?_))
      refine bodyPost_ret (results_row1 rfl _ _ w.heap.size 34 (oA cc none 0 0) (0, 0) _ rfl (setRow_heap _ _ _ _ _ _ IZ.out.wr) Tryz.underlying34 rfl (info10 _ _ _ _)) rfl ?_
      exact op_good IZ.out HZ.out HB.out HE1.out
  · skip
    have e6 : ((k : Int) == 6) = false := by rw [h1]; rfl
    have e9 : ((k : Int) == 9) = false := by rw [h1]; rfl
    have e10 : ((k : Int) == 10) = false := by rw [h1]; rfl
    have e8 : ((k : Int) == 8) = false := by rw [h1]; rfl
    have e11 : ((k : Int) == 11) = false := by rw [h1]; rfl
    have e12 : ((k : Int) == 12) = true := by rw [h1]; rfl
    have HLX := Lib.hid HL2.out.2
    have HT00 : Hid (opW s = ({ zeroO k n1 with f := (rngV (partW (some st2)).1).1.1, t := (rngV (partW (some st2)).1).1.2, m := (numW (partW (some st2)).2).1 }, (numW (partW (some st2)).2).2, (rngV (partW (some st2)).1).2)) := Lib.hid (by rw [HOP2.out, h1]; rfl)
    have PM := Lib.hid (part_any st2 R w6 (HEK.out w6 I6.out.g).sh (fun l hl => by have := HLX.out l hl; omega) I6.out.rd)
    have RP : Hid (∀ (p : List UInt8), p.length ≤ 100000 → ∀ W : World, GR R w W → Calls Tryz.prog 105 #[.string ⟨p.toArray⟩] W fun e w' => ∃ fr tr er, e = .returned (.tuple #[.agg #[.string fr, .string tr], .int .i64 er]) ∧ ParRg p fr tr er ∧ Below W.heap.size W w') := Lib.hid (fun p hp W hg => (Rg.parse_any ⟨p.toArray⟩ W (by rw [Lib.size_mk]; omega) (HEK.out W hg).sh).mono (fun e w' ⟨he, hb⟩ => by
      obtain ⟨fr, tr, er, h1, h2⟩ := Rg.parseV_rel p
      exact ⟨fr, tr, er, by rw [he]; exact congrArg _ h1, h2, hb⟩))
    go_upto_region 17 with (first
      | (go_at_call 100; refine PM.out.mono ?_; rintro e w7 (⟨hnn, rfl, hg⟩ | ⟨p1, st3, hnn, rfl, hr, hg⟩); all_goals (have HNP := Lib.hid hnn; clear hnn PM); (first | (have I7 := Lib.hid (I6.out.read hg hr); have RPL := Lib.hid (RP.out p1 (part_len HNP.out HLX.out).1 w7 I7.out.g); clear hg hr) | (have I7 := Lib.hid (gr_trans I6.out.g hg); clear hg)))
      | (go_at_call 105; refine RPL.out.mono ?_; rintro e w8 ⟨fr, tr, er, rfl, hpr, hb⟩; have HPR := Lib.hid hpr; have I8 := Lib.hid (I7.out.keep hb); have z4 : w8.cell? ⟨O, 4, none⟩ = some (.string ⟨#[]⟩) := I8.out.wo.cell 4; have z5 : w8.cell? ⟨O, 5, none⟩ = some (.string ⟨#[]⟩) := I8.out.wo.cell 5; have f4 : w8.frozen? ⟨O, 4, none⟩ = false := I8.out.wo.fr 4; have f5 : w8.frozen? ⟨O, 5, none⟩ = false := I8.out.wo.fr 5; clear hpr hb RPL))
    · exact ⟨rfl, op_bad (fun h => by have := h.2.1; rw [HT00.out] at this; dsimp only at this; rw [HNP.out, numW_none'] at this; cases this) I7.out⟩
    have HSM := Lib.hid ((rngV_rel p1).same HPR.out)
    have HT0 : Hid (opW s = ({ zeroO k n1 with f := fr, t := tr, m := (numW (some st3)).1 }, (numW (some st3)).2, (rngV p1).2)) := Lib.hid (by
      have := HT00.out
      rw [HNP.out] at this
      dsimp only at this
      rw [HSM.out.1, HSM.out.2.1] at this
      exact this)
    have HLY := Lib.hid (part_len HNP.out HLX.out)
    have I9 : Hid (OpS w R w.heap.size O { zeroO k n1 with f := fr, t := tr } none 0 0 st3 ((w8.setCell ⟨O, 4, none⟩ (.string fr)).setCell ⟨O, 5, none⟩ (.string tr))) := Lib.hid (I8.out.put_rng fr tr)
    have HZR : Hid (fr.size ≤ 9223372036854775807 ∧ tr.size ≤ 9223372036854775807) := Lib.hid (by
      rcases HPR.out with ⟨_, hok, _⟩ | ⟨_, hf, ht, _⟩
      · have h1 := Rg.okS_sz (okR_left hok)
        have h2 := Rg.okS_sz (okR_right hok)
        omega
      · rw [hf, ht]
        exact ⟨Nat.zero_le _, Nat.zero_le _⟩)
    clear h1 z4 z5 f4 f5 I6 I7 I8 HT00 HPR RP HLX HNP
    generalize (w8.setCell ⟨O, 4, none⟩ (.string fr)).setCell ⟨O, 5, none⟩ (.string tr) = w9 at I9 ⊢
    have NM := Lib.hid (num_any st3 R w9 (HEK.out w9 I9.out.g).sh (fun l hl => by have := HLY.out.2 l hl; omega) I9.out.rd)
    go_upto_region 18 with (go_at_call 102; refine NM.out.mono ?_; rintro e w10 (⟨hnn, rfl, hg⟩ | ⟨m1, st4, hnn, rfl, hr, hg⟩); all_goals (have HNM := Lib.hid hnn; clear hnn NM); (first | (have IN := Lib.hid (I9.out.read hg hr); have z2 : w10.cell? ⟨O, 2, none⟩ = some (.int .i64 0) := IN.out.wo.cell 2; have f2 : w10.frozen? ⟨O, 2, none⟩ = false := IN.out.wo.fr 2; clear hg hr) | (have IN := Lib.hid (gr_trans I9.out.g hg); clear hg)))
    · exact ⟨rfl, op_bad (fun h => by have := h.2.1; rw [HT0.out] at this; dsimp only at this; rw [HNM.out] at this; cases this) IN.out⟩
    have HT : Hid (opW s = ({ zeroO k n1 with f := fr, t := tr, m := m1 }, some st4, (rngV p1).2)) := Lib.hid (by have := HT0.out; rw [HNM.out] at this; exact this)
    have HG : Hid (goodW s ↔ some st4 = some none ∧ er = 0 ∧ opOk { zeroO k n1 with f := fr, t := tr, m := (m1 : Int) }) := Lib.hid ((good_of HNZ.out HT.out).trans (and_congr Iff.rfl (and_congr HSM.out.2.2 Iff.rfl)))
    have HM := Lib.hid (num_len HNM.out HLY.out.2).1
    have I11 : Hid (OpS w R w.heap.size O { zeroO k n1 with f := fr, t := tr, m := (m1 : Int) } none 0 0 st4 (w10.setCell ⟨O, 2, none⟩ (.int .i64 (m1 : Int)))) := Lib.hid (IN.out.put_m m1)
    clear IN z2 f2 I9 HT0 HNM HLY
    generalize w10.setCell ⟨O, 2, none⟩ (.int .i64 (m1 : Int)) = w11 at I11 ⊢
    by_cases her : er = 0
    case neg =>
      have e0 : (er == 0) = false := beq_eq_false_iff_ne.2 her
      have HB : Hid (¬ goodW s) := Lib.hid (fun h => her (HG.out.1 h).2.1)
      clear her
      go_wp2_with (go_at_call 101; refine (need_no _).mono ?_; rintro e wa ⟨rfl, rfl⟩)
      exact ⟨rfl, op_bad HB.out I11.out.g⟩
    have e0 : (er == 0) = true := by rw [her]; rfl
    have HER := Lib.hid her
    clear her
    cases st4 with
    | some lq =>
      have x1 : w11.cell? ⟨R, 1, none⟩ = some (.bool false) := (show Whole w11 R 105 #[.string ⟨lq.toArray⟩, .bool false] from I11.out.rd).cell 1
      have HB : Hid (¬ goodW s) := Lib.hid (fun h => by have := (HG.out.1 h).1; cases this)
      go_wp2_with (go_at_call 101; refine (need_no _).mono ?_; rintro e wa ⟨rfl, rfl⟩)
      exact ⟨rfl, op_bad HB.out I11.out.g⟩
    | none =>
      have x1 : w11.cell? ⟨R, 1, none⟩ = some (.bool true) := by
        obtain ⟨xq, hxq⟩ := I11.out.rd
        exact hxq.cell 1
      obtain ⟨cc, hcc⟩ : ∃ cc : Ov, cc = { zeroO k n1 with f := fr, t := tr, m := (m1 : Int) } := ⟨_, rfl⟩
      have I11 : Hid (OpS w R w.heap.size O cc none 0 0 none w11) := Lib.hid (by rw [hcc]; exact I11.out)
      have HZ : Hid (OpZ cc) := Lib.hid (by rw [hcc]; exact (let z := opok_z HK12.out HN2.out; ⟨z.k, z.n, nat64 HM.out, z.key, HZR.out.1, HZR.out.2⟩))
      have HE1 : Hid ((opW s).1 = cc) := Lib.hid (by rw [hcc, HT.out])
      have HG2 : Hid (goodW s ↔ opOk cc) := Lib.hid (by rw [hcc]; exact ⟨fun h => (HG.out.1 h).2.2, fun h => HG.out.2 ⟨rfl, HER.out, h⟩⟩)
      have CK := Lib.hid (ocheck_any cc none 0 0 w11 ⟨I11.out.d, HZ.out⟩)
      clear hcc
      by_cases hok : opOk cc
      case neg =>
        have HB : Hid (¬ goodW s) := Lib.hid (fun h => hok (HG2.out.1 h))
        have CK := CK.out
        rw [ckO_no hok] at CK
        have CK := Lib.hid CK
        clear hok
        go_wp2_with (first
          | (refine wpList_load_rowG (by rfl) 34 (.tmp 3) rfl O rfl 34 (oA cc none 0 0) (0, 0) _ I11.out.wo Tryz.underlying34 rfl (info10 _ _ _ _) ?_)
          | (go_at_call 24; refine CK.out.mono ?_; rintro e wc ⟨rfl, hb⟩; have IZ := Lib.hid (I11.out.keep hb); clear hb CK)
          | (go_at_call 101; refine (need_no _).mono ?_; rintro e wa ⟨rfl, rfl⟩))
        exact ⟨rfl, op_bad HB.out IZ.out.g⟩
      have HB : Hid (goodW s) := Lib.hid (HG2.out.2 hok)
      have CK := CK.out
      rw [ckO_yes hok] at CK
      have CK := Lib.hid CK
      clear hok
      go_wp2_with (first
        | (refine wpList_load_rowG (by rfl) 34 (.tmp 3) rfl O rfl 34 (oA cc none 0 0) (0, 0) _ I11.out.wo Tryz.underlying34 rfl (info10 _ _ _ _) ?_)
        | (go_at_call 24; refine CK.out.mono ?_; rintro e wc ⟨rfl, hb⟩; have IZ := Lib.hid (I11.out.keep hb); clear hb CK)
        | (go_at_call 101; refine (need_yes _).mono ?_; rintro e wa ⟨rfl, rfl⟩)
        | (refine wpList_load_row (by rfl) 34 (.tmp 3) rfl O rfl 34 (oA cc none 0 0) (0, 0) _ IZ.out.wo Tryz.underlying34 rfl (info10 _ _ _ _) ?_)
        | (refine wpList_store_row rfl 34 (.tmp 2) (.tmp 68) rfl w.heap.size (oA cc none 0 0) rfl rfl 34 (oA (zeroO 0 0) none 0 0) IZ.out.wr (info10 _ _ _ _) rfl (all10 _ _ _ _) ?_))
      refine bodyPost_ret (results_row1 rfl _ _ w.heap.size 34 (oA cc none 0 0) (0, 0) _ rfl (setRow_heap _ _ _ _ _ _ IZ.out.wr) Tryz.underlying34 rfl (info10 _ _ _ _)) rfl ?_
      exact op_good IZ.out HZ.out HB.out HE1.out
end Go.Proofs.YtojodekmmkemgaaGreatDoor
