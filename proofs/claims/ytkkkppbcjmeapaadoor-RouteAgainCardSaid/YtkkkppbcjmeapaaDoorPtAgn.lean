/- Restore at what a map shows, and at lists that are no map. Condition: they lie in memory. -/
import Derived.Test.YtkkkppbcjmeapaaDoorPtRst
import Derived.Test.YtkkkppbcjmeapaaDoorPtGho
namespace Go.Proofs.YtkkkppbcjmeapaaDoor
open Go.RowKit

theorem acc_rst {E : Int} {d : List Pt} {acc : Nat → Int × Int} (h : Acc E d acc) (hE : E ≤ 2147483648) (hd : d.length ≤ 64) : RstOK d :=
  (rst_says d).2 ⟨hd, h.ch, fun p hp => by have := h.bd p hp; omega⟩
theorem restore_acc {w W : World} {B k : Nat} {d : List Pt} {acc : Nat → Int × Int} (S : Stg w W B k d acc) (hk : k ≤ 30) {a b c : Option Addr} {c1 c2 c3 : Nat}
    (h1 : SlR W (.slice a d.length c1) (rgs d)) (h2 : SlI W (.slice b d.length c2) (grs d)) (h3 : SlI W (.slice c d.length c3) (eps d)) :
    Calls Tryd.prog 30 #[.slice a d.length c1, .slice b d.length c2, .slice c d.length c3] W fun e W' => ∃ C, e = .returned (.tuple #[.pointer (some ⟨C, 0, none⟩), .int .i64 0]) ∧ Twn w W' B C k d acc ∧ Below W.heap.size W W' := by
  have hl := S.l
  refine (restore_any d a b c d.length c1 c2 c3 W rfl h1 h2 h3 (S.a.small (by omega))).mono ?_
  rintro e W' ⟨⟨_, C, rfl, hC, hM⟩ | ⟨hn, _⟩, hb⟩
  · exact ⟨C, rfl, ⟨S.keep hb, ⟨hM, S.s.b.trans (hb.mono S.s.b.size), Nat.le_trans S.s.b.size hC⟩, by have := S.s.m.lt; omega⟩, hb⟩
  · exact absurd (acc_rst S.a (by omega) (by omega)) hn
theorem restore_bad (d : List Pt) (a b c : Option Addr) (n c1 c2 c3 : Nat) (w : World) (hn : d.length = n) (h1 : SlR w (.slice a n c1) (rgs d)) (h2 : SlI w (.slice b n c2) (grs d)) (h3 : SlI w (.slice c n c3) (eps d)) (hsz : SmallP d) (hno : ¬ RstOK d) :
    Calls Tryd.prog 30 #[.slice a n c1, .slice b n c2, .slice c n c3] w fun e w' => e = .returned (.tuple #[.pointer none, .int .i64 2]) ∧ Below w.heap.size w w' := by
  refine (restore_any d a b c n c1 c2 c3 w hn h1 h2 h3 hsz).mono ?_
  rintro e w' ⟨⟨h, _⟩ | ⟨_, h⟩, hb⟩
  · exact absurd h hno
  · exact ⟨h, hb⟩
theorem slR_nil (w : World) : SlR w (.slice none 0 0) [] := ⟨none, 0, rfl, fun i p hi => by simp at hi⟩
theorem slI_nil (w : World) : SlI w (.slice none 0 0) [] := ⟨none, 0, rfl, fun i p hi => by simp at hi⟩
theorem restore_none (w : World) :
    Calls Tryd.prog 30 #[.slice none 0 0, .slice none 0 0, .slice none 0 0] w fun e w' => e = .returned (.tuple #[.pointer none, .int .i64 2]) ∧ Below w.heap.size w w' :=
  restore_bad [] none none none 0 0 0 0 w rfl (slR_nil w) (slI_nil w) (slI_nil w) ⟨by decide, fun p hp => by cases hp⟩ (fun h => absurd h.1 (by decide))
theorem slR_1 {w : World} {b : Nat} {x y : ByteArray} (h : Whole w b 30 #[.string x, .string y]) : SlR w (.slice (some ⟨b, 0, none⟩) 1 1) [(x, y)] :=
  ⟨_, 1, rfl, fun i p hi => by
    match i with
    | 0 => cases hi; exact ⟨b, 0, rfl, h.cell 0, h.cell 1⟩
    | i + 1 => cases hi⟩
theorem slI_1 {w : World} {b : Nat} {x : Int} (h : Whole w b 3 #[.int .i64 x]) : SlI w (.slice (some ⟨b, 0, none⟩) 1 1) [x] :=
  ⟨_, 1, rfl, fun i p hi => by
    match i with
    | 0 => cases hi; exact ⟨b, 0, rfl, h.cell 0⟩
    | i + 1 => cases hi⟩
theorem slR_2 {w : World} {b : Nat} {x y z u : ByteArray} (h : Whole w b 30 #[.string x, .string y, .string z, .string u]) : SlR w (.slice (some ⟨b, 0, none⟩) 2 2) [(x, y), (z, u)] :=
  ⟨_, 2, rfl, fun i p hi => by
    match i with
    | 0 => cases hi; exact ⟨b, 0, rfl, h.cell 0, h.cell 1⟩
    | 1 => cases hi; exact ⟨b, 0, rfl, h.cell 2, h.cell 3⟩
    | i + 2 => cases hi⟩
theorem slI_2 {w : World} {b : Nat} {x y : Int} (h : Whole w b 3 #[.int .i64 x, .int .i64 y]) : SlI w (.slice (some ⟨b, 0, none⟩) 2 2) [x, y] :=
  ⟨_, 2, rfl, fun i p hi => by
    match i with
    | 0 => cases hi; exact ⟨b, 0, rfl, h.cell 0⟩
    | 1 => cases hi; exact ⟨b, 0, rfl, h.cell 1⟩
    | i + 2 => cases hi⟩
theorem em_small {l : List Pt} (hl : l.length ≤ 900) (h : ∀ p ∈ l, p.f = ⟨#[]⟩ ∧ p.t = ⟨#[]⟩) : SmallP l := ⟨hl, fun p hp => by
  obtain ⟨h1, h2⟩ := h p hp
  rw [h1, h2]
  exact ⟨by decide, by decide⟩⟩
theorem restore_one (g1 g2 e1 e2 : Int) (W : World) (hno : ¬ RstOK [⟨⟨#[]⟩, ⟨#[]⟩, g1, e1⟩]) :
    Calls Tryd.prog 30 #[.slice (some ⟨W.heap.size, 0, none⟩) 1 1, .slice (some ⟨W.heap.size + 1, 0, none⟩) 1 1, .slice (some ⟨W.heap.size + 1 + 1, 0, none⟩) 1 1] (((W.alloc (.cells #[.string ⟨#[]⟩, .string ⟨#[]⟩] 30)).alloc (.cells #[.int .i64 g1] 3)).alloc (.cells #[.int .i64 e1] 3))
      fun e w' => (g2 = g2 ∧ e2 = e2) ∧ e = .returned (.tuple #[.pointer none, .int .i64 2]) ∧ Below W.heap.size W w' := by
  have hR := ((Whole.new W 30 #[.string ⟨#[]⟩, .string ⟨#[]⟩]).alloc (.cells #[.int .i64 g1] 3)).alloc (.cells #[.int .i64 e1] 3)
  have hG := (Whole.new (W.alloc (.cells #[.string ⟨#[]⟩, .string ⟨#[]⟩] 30)) 3 #[.int .i64 g1]).alloc (.cells #[.int .i64 e1] 3)
  have hE := Whole.new ((W.alloc (.cells #[.string ⟨#[]⟩, .string ⟨#[]⟩] 30)).alloc (.cells #[.int .i64 g1] 3)) 3 #[.int .i64 e1]
  simp only [World.size_alloc] at hG hE
  have b3 := (((Below.refl W.heap.size W).alloc (Nat.le_refl _) (.cells #[.string ⟨#[]⟩, .string ⟨#[]⟩] 30)).alloc (by simp) (.cells #[.int .i64 g1] 3)).alloc (by simp; omega) (.cells #[.int .i64 e1] 3)
  refine (restore_bad [⟨⟨#[]⟩, ⟨#[]⟩, g1, e1⟩] _ _ _ 1 1 1 1 _ rfl (slR_1 hR) (slI_1 hG) (slI_1 hE) (em_small (by simp) (by simp)) hno).mono ?_
  rintro e w' ⟨rfl, hb⟩
  exact ⟨⟨rfl, rfl⟩, rfl, b3.trans (hb.mono b3.size)⟩
theorem restore_two (g1 g2 e1 e2 : Int) (W : World) (hno : ¬ RstOK [⟨⟨#[]⟩, ⟨#[]⟩, g1, e1⟩, ⟨⟨#[]⟩, ⟨#[]⟩, g2, e2⟩]) :
    Calls Tryd.prog 30 #[.slice (some ⟨W.heap.size, 0, none⟩) 2 2, .slice (some ⟨W.heap.size + 1, 0, none⟩) 2 2, .slice (some ⟨W.heap.size + 1 + 1, 0, none⟩) 2 2] (((W.alloc (.cells #[.string ⟨#[]⟩, .string ⟨#[]⟩, .string ⟨#[]⟩, .string ⟨#[]⟩] 30)).alloc (.cells #[.int .i64 g1, .int .i64 g2] 3)).alloc (.cells #[.int .i64 e1, .int .i64 e2] 3))
      fun e w' => (g2 = g2 ∧ e2 = e2) ∧ e = .returned (.tuple #[.pointer none, .int .i64 2]) ∧ Below W.heap.size W w' := by
  have hR := ((Whole.new W 30 #[.string ⟨#[]⟩, .string ⟨#[]⟩, .string ⟨#[]⟩, .string ⟨#[]⟩]).alloc (.cells #[.int .i64 g1, .int .i64 g2] 3)).alloc (.cells #[.int .i64 e1, .int .i64 e2] 3)
  have hG := (Whole.new (W.alloc (.cells #[.string ⟨#[]⟩, .string ⟨#[]⟩, .string ⟨#[]⟩, .string ⟨#[]⟩] 30)) 3 #[.int .i64 g1, .int .i64 g2]).alloc (.cells #[.int .i64 e1, .int .i64 e2] 3)
  have hE := Whole.new ((W.alloc (.cells #[.string ⟨#[]⟩, .string ⟨#[]⟩, .string ⟨#[]⟩, .string ⟨#[]⟩] 30)).alloc (.cells #[.int .i64 g1, .int .i64 g2] 3)) 3 #[.int .i64 e1, .int .i64 e2]
  simp only [World.size_alloc] at hG hE
  have b3 := (((Below.refl W.heap.size W).alloc (Nat.le_refl _) (.cells #[.string ⟨#[]⟩, .string ⟨#[]⟩, .string ⟨#[]⟩, .string ⟨#[]⟩] 30)).alloc (by simp) (.cells #[.int .i64 g1, .int .i64 g2] 3)).alloc (by simp; omega) (.cells #[.int .i64 e1, .int .i64 e2] 3)
  refine (restore_bad [⟨⟨#[]⟩, ⟨#[]⟩, g1, e1⟩, ⟨⟨#[]⟩, ⟨#[]⟩, g2, e2⟩] _ _ _ 2 2 2 2 _ rfl (slR_2 hR) (slI_2 hG) (slI_2 hE) (em_small (by simp) (by simp)) hno).mono ?_
  rintro e w' ⟨rfl, hb⟩
  exact ⟨⟨rfl, rfl⟩, rfl, b3.trans (hb.mono b3.size)⟩
theorem no_g8 : ¬ RstOK [⟨⟨#[]⟩, ⟨#[]⟩, 8, 1⟩] := fun h => absurd (h.2.2 0 _ rfl).2.2.2.1.2 (by decide)
theorem no_e0 : ¬ RstOK [⟨⟨#[]⟩, ⟨#[]⟩, 1, 0⟩] := fun h => absurd (h.2.2 0 _ rfl).2.2.2.2.1 (by decide)
theorem no_two : ¬ RstOK [⟨⟨#[]⟩, ⟨#[]⟩, 1, 1⟩, ⟨⟨#[]⟩, ⟨#[]⟩, 2, 1⟩] := fun h => absurd ((h.2.2 0 _ rfl).2.2.1.1 rfl) (by decide)
theorem cut_ep (p : Option Addr) (n c : Nat) (hn : 1 ≤ n) : ∃ p', ∀ w, (Instr.slice 47 (.slice p n c) (some (.int .i64 1)) none none).run Tryd.prog w = .ok (.slice p' (n - 1) (c - 1)) w := by
  refine ⟨if c = 1 then p else p.map (·.add (1 * 1)), fun w => ?_⟩
  have hs : (sizeOf (Tryd.prog.elem 47)).run Tryd.prog w = .ok 1 w := by kernel_rfl
  have hu : Tryd.prog.underlying 47 = some (.slice (Tryd.prog.elem 47)) := by kernel_rfl
  rw [run_slice_l w 47 _ n c hu .i64 (1 : Int) (by omega) (by omega), hs]
  show Result.ok (sliced p 1 n c 1) w = _
  rfl
theorem bkeep {w0 W W' : World} (h : Below w0.heap.size w0 W) (hb : Below W.heap.size W W') : Below w0.heap.size w0 W' := h.trans (hb.mono h.size)
end Go.Proofs.YtkkkppbcjmeapaaDoor
