/- The steps that words say, collected by the program. Conditions: the words are short; the program's own variables lie as its start lays them. -/
import Derived.Test.YtgeljnjcpkmlmaaGreatDoorDfSeq2
import Derived.Test.YtgeljnjcpkmlmaaGreatDoorSeqA
import Derived.Test.YtgeljnjcpkmlmaaGreatDoorWrt
namespace Go.Proofs.YtgeljnjcpkmlmaaGreatDoor
open Go.RowKit Go.Shelf
attribute [local go_sem] Oper.semAt_some

def itF (Bx : Nat) : Value := .func (.func 96) #[] #[.pointer (some ⟨Bx, 0, none⟩)]
def colAct (Bx Bt C : Nat) (x : Sp) : Act := { tmps := #[.slice none 0 0, itF Bx, .pointer (some ⟨Bt, 0, none⟩), undef, .slice none 0 0, .pointer (some ⟨C, 0, none⟩), itF Bx, .agg #[.string x.k, .int .i64 x.v], undef, undef, undef, undef, undef], defers := [] }
theorem below_nc {n : Nat} {A B : World} (hn : n ≤ A.heap.size) (hg : A.grownBy B none) : Below n A B := ⟨hg.os, hg.tape, hg.output, hg.size, fun k hk => hg.block k (by omega) (by simp)⟩
theorem stC_len (pre : List Sp) : (pre.flatMap stC).length = pre.length * 2 := by
  induction pre with
  | nil => rfl
  | cons p l ih => rw [List.flatMap_cons, List.length_append, ih, List.length_cons]; show 2 + _ = _; omega
set_option maxRecDepth 100000 in
set_option maxHeartbeats 8000000 in
theorem appSeq_any (A : Option Addr) (m c Bx : Nat) (ws : List ByteArray) (w : World) (hE : DfE w) (hb : Boxed w Bx 27 (.slice A m c)) (hs : SlW w A ws) (hm : ws.length = m) (hmb : m ≤ 1000000) (hz : ∀ x ∈ ws, x.size ≤ 1000000) :
    Calls Tryz.prog 95 #[.slice none 0 0, itF Bx] w fun e w' => (∃ v xs, e = .returned v ∧ xs.length = m ∧ StepsK ws xs ∧ w'.ownsRow w.heap.size 37 2 v m (xs.flatMap stC)) ∧ Below w.heap.size w w' := by
  unfold itF
  have HSQ := Lib.hid (steps1_in (8 - 1) (by decide) Bx A m c ws w hE hb hs hm hmb hz)
  clear hE hb hs hz
  refine (callsIn_wide (n := 8)).1 ?_
  refine callsIn_of_wp_marks Tryz.func95 rfl trivial ?_ rfl
  simp only [Tryz.ntmps95, List.size_toArray, List.length_cons, List.length_nil, Nat.reduceAdd, Nat.reduceSub, Array.replicate_succ, Array.replicate_zero, List.push_toArray, List.append_toArray, List.nil_append, List.cons_append]
  gi_wp2
  have X0 := Boxed.new w 22 (.slice none 0 0)
  have K0 := (Below.refl w.heap.size w).alloc (Nat.le_refl _) (.cells #[.slice none 0 0] 22)
  have O0 := World.ownsRow_nil (w.alloc (.cells #[.slice none 0 0] 22)) w.heap.size 37 2
  have hsz : (w.alloc (.cells #[.slice none 0 0] 22)).heap.size = w.heap.size + 1 := by simp
  obtain ⟨W0, hW0⟩ : ∃ W0, w.alloc (.cells #[.slice none 0 0] 22) = W0 := ⟨_, rfl⟩
  rw [hW0] at X0 K0 O0 hsz ⊢
  clear hW0
  refine rangeA rfl (by decide) (gf := 96) (lb := #[.pointer (some ⟨Bx, 0, none⟩)]) rfl trivial (enters_of Tryz.func96 (by kernel_rfl) rfl)
    HSQ.out (fun A B i o hm hi ho => ?mv) (fun h k => Below.trans h k) (fun W q o o' hq ho h1 h2 => ?kb) K0 (fun _ => rfl)
    (fun pre X => (∃ v, Boxed X w.heap.size 22 v ∧ X.ownsRow w.heap.size 37 2 v pre.length (pre.flatMap stC)) ∧ Below w.heap.size w X) (fun _ _ _ => False)
    (fun s A B row hs hg hr => ?own)
    (fun _ _ _ _ _ h _ _ => h) (fun s A B hs hm => ?im) (fun _ _ _ _ h _ => h) ⟨⟨_, X0, O0⟩, K0⟩
    (fun x a2 X => ∃ C, a2 = colAct Bx w.heap.size C x ∧ Whole X C 37 #[.string x.k, .int .i64 x.v]) (fun x a2 s A B row hs hg hr => ?vown) (fun A B hA hg => ?ka) ?assign ?body ?done ?stop
  case mv => exact (hm.block i (Array.getElem?_eq_some_iff.1 hi).1).trans hi
  case kb => exact ⟨rfl, rfl, rfl, by simp [World.putObj], fun k hk => World.putObj_heap_other (by omega)⟩
  case own =>
    obtain ⟨⟨v, h1, h2⟩, h3⟩ := hs
    exact ⟨⟨v, (cells_same hg (fun r e => (hr r e).2) h1).trans h1, own_nc h2 hg (fun r e => (hr r e).2)⟩, h3.grown hg h3.size (fun k e => by have := (hr k e).1; omega)⟩
  case im =>
    obtain ⟨⟨v, h1, h2⟩, h3⟩ := hs
    exact ⟨⟨v, h1.kept (gbelow hm) (by simp), h2.kept (gbelow hm) (Classical.em _)⟩, h3.trans (hm.mono h3.size)⟩
  case vown =>
    obtain ⟨C, rfl, h1⟩ := hs
    exact ⟨C, rfl, (cells_same hg (fun r e => (hr r e).2) h1).trans h1⟩
  case ka => exact below_nc (by omega) hg
  case assign =>
    intro L pre x W K hI hsW hK
    unfold stV
    gi_wp2
    exact hK _ _ (World.grownBy_alloc W _ none) ⟨_, rfl, Whole.new W _ _⟩
  case body =>
    rintro L pre x a2 X ⟨⟨v, hbx, hown⟩, hB⟩ ⟨C, rfl, hC⟩ hlen
    have hB1 := hbx.cell
    have hF1 := hbx.frozen
    have z0 := hC.cell 0
    have z1 := hC.cell 1
    simp only [List.getElem?_toArray, List.getElem?_cons_succ, List.getElem?_cons_zero] at z0 z1
    have Y0 : Below X.heap.size X (X.alloc (.cells #[.string x.k, .int .i64 x.v] 37)) := (Below.refl _ X).alloc (Nat.le_refl _) _
    have hown2 : (X.alloc (.cells #[.string x.k, .int .i64 x.v] 37)).ownsRow w.heap.size 37 2 v pre.length (pre.flatMap stC) := hown.kept (gbelow Y0) (Classical.em _)
    obtain ⟨v', w', hrun, hown', hgrow⟩ := run_app_step (X.alloc (.cells #[.string x.k, .int .i64 x.v] 37)) w.heap.size v pre.length (pre.flatMap stC) hown2 ⟨X.heap.size, 0, none⟩ 1 1 (stC x) rfl (news_at X 37 (stC x) X.heap.size rfl) (by intro u hu; simp [stC] at hu; rcases hu with rfl | rfl <;> rfl) (by omega) (by have := hB.size; have := Y0.size; omega)
    obtain ⟨g9, cap9, rfl, _, _⟩ := hown'.form (by omega)
    have hbx2 := (hbx.kept (gbelow Y0) (by simp)).kept hgrow (own_ne hown2 (show Whole _ _ _ _ from hbx.kept (gbelow Y0) (by simp)) (by decide))
    have e1 := hbx2.cell
    have e2 := hbx2.frozen
    have FIN : Hid (KeepsOthers X (w'.setCell ⟨w.heap.size, 0, none⟩ (.slice (some ⟨g9, 0, none⟩) (pre.length + 1) cap9)) ∧ KpB w.heap.size X (w'.setCell ⟨w.heap.size, 0, none⟩ (.slice (some ⟨g9, 0, none⟩) (pre.length + 1) cap9)) ∧ ((∃ v, Boxed (w'.setCell ⟨w.heap.size, 0, none⟩ (.slice (some ⟨g9, 0, none⟩) (pre.length + 1) cap9)) w.heap.size 22 v ∧ (w'.setCell ⟨w.heap.size, 0, none⟩ (.slice (some ⟨g9, 0, none⟩) (pre.length + 1) cap9)).ownsRow w.heap.size 37 2 v (pre ++ [x]).length ((pre ++ [x]).flatMap stC)) ∧ Below w.heap.size w (w'.setCell ⟨w.heap.size, 0, none⟩ (.slice (some ⟨g9, 0, none⟩) (pre.length + 1) cap9)))) := by
      have KP : Below w.heap.size X (w'.setCell ⟨w.heap.size, 0, none⟩ (.slice (some ⟨g9, 0, none⟩) (pre.length + 1) cap9)) := (((Y0.mono hB.size).grown hgrow (by have := hB.size; have := Y0.size; omega) (fun k e => (hown2.lt k e).1)).setCell (p := ⟨w.heap.size, 0, none⟩) (Nat.le_refl _) _)
      refine Lib.hid ⟨?_, KP, ⟨_, hbx2.set _, ?_⟩, hB.trans KP⟩
      · refine ((KeepsOthers.alloc _ _).trans (KeepsOthers.of_grownBy hgrow fun j o ej hj => ?_)).trans (KeepsOthers.setCell _ _ _)
        rcases hown2.2 with ⟨rfl, _⟩ | ⟨g, cap, cur, rfl, _, hgb, _⟩
        · simp [Value.ownBlock] at ej
        · obtain rfl : g = j := by simpa [Value.ownBlock] using ej
          rw [hgb] at hj; cases hj; rfl
      · have := hown'.kept (grown_set (World.grownBy.refl w' (some w.heap.size)) 0 (.slice (some ⟨g9, 0, none⟩) (pre.length + 1) cap9)) (.inr (own_ne hown' (show Whole _ _ _ _ from hbx2) (by decide)).symm)
        rw [List.length_append, List.flatMap_append]
        simpa using this
    have HR := Lib.hid hrun
    clear hrun hown' hgrow hown2 Y0 hown hbx2 hB hbx hC
    unfold colAct itF
    gi_wp2_with (gi_at_builtin; refine wpListIn_append_run rfl (.tmp 8) (.tmp 10) 22 rfl rfl rfl HR.out ?_)
    exact FIN.out
  case done =>
    rintro D xs W hD ⟨hl, hK⟩ ⟨⟨v, h1, h2⟩, h3⟩ hD2
    have hB1 := h1.cell
    gi_wp2
    refine ⟨by simp, .inl ⟨_, _, rfl, run_takeDeferred hD2, ?_⟩⟩
    have HF : Hid ((W.putObj D (.deferred none)).ownsRow w.heap.size 37 2 v m (xs.flatMap stC) ∧ Below w.heap.size w (W.putObj D (.deferred none))) := Lib.hid ⟨by rw [← hl]; exact own_nc h2 (grownBy_putObj' _ D _) (fun r e => by cases e; exact ⟨_, hD2, rfl⟩), h3.grown (grownBy_putObj' _ D _) h3.size (fun k e => by cases e; omega)⟩
    exact ⟨_, results_tmp rfl _ _ _, ⟨v, xs, rfl, hl, hK, HF.out.1⟩, HF.out.2⟩
  case stop =>
    rintro D c pre W hD _ h _
    exact h.elim
end Go.Proofs.YtgeljnjcpkmlmaaGreatDoor
