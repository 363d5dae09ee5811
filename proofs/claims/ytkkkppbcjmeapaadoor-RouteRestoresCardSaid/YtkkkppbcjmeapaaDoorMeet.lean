/- What two ranges have together, by the program; memory that lay stays. Condition: the ends are no longer than an int can say. -/
import Derived.Test.YtkkkppbcjmeapaaDoorHas
namespace Go.Proofs.YtkkkppbcjmeapaaDoor
open Go.RowKit

theorem run_maxS {P : Program} (ts : Array TypeId) (t : TypeId) (x y : ByteArray) (w : World) : (Builtin.max_ ts t #[.string x, .string y]).run P w = .ok (.string (maxS x y)) w := by
  unfold Builtin.max_ maxS
  simp only [List.foldlM, Builtin.max2, Op.stringOp]
  cases h : Op.bytesLess x.toList y.toList <;> simp [asBool, Sem.run_pure]

/-- What Meet returns. -/
def meetV (o m : Bool) (f t : ByteArray) : Value :=
  .tuple #[if o && m then .agg #[.string f, .string t] else .agg #[.string ⟨#[]⟩, .string ⟨#[]⟩], .bool (o && m), .int .i64 (ckI o)]
theorem minE_sz {x y : ByteArray} (hx : x.size ≤ 9223372036854775807) (hy : y.size ≤ 9223372036854775807) : (minE x y).size ≤ 9223372036854775807 := by
  rcases minE_or x y with h | h <;> rw [h] <;> assumption
theorem maxS_sz {x y : ByteArray} (hx : x.size ≤ 9223372036854775807) (hy : y.size ≤ 9223372036854775807) : (maxS x y).size ≤ 9223372036854775807 := by
  rcases maxS_or x y with h | h <;> rw [h] <;> assumption

set_option maxHeartbeats 4000000 in
theorem meet_any (f t g u : ByteArray) (w : World) (hf : f.size ≤ 9223372036854775807) (ht : t.size ≤ 9223372036854775807) (hg : g.size ≤ 9223372036854775807) (hu : u.size ≤ 9223372036854775807) :
    Calls Tryd.prog 67 #[.agg #[.string f, .string t], .agg #[.string g, .string u]] w fun e w' => e = .returned (meetV (okR f t && okR g u) (okR (maxS f g) (minE t u)) (maxS f g) (minE t u)) ∧ Below w.heap.size w w' := by
  have A0 := ((Whole.new w 30 #[.string f, .string t]).alloc (.cells #[.string g, .string u] 30)).alloc (.cells #[.string ⟨#[]⟩, .string ⟨#[]⟩] 30)
  have B0 := (Whole.new (w.alloc (.cells #[.string f, .string t] 30)) 30 #[.string g, .string u]).alloc (.cells #[.string ⟨#[]⟩, .string ⟨#[]⟩] 30)
  have R0 := Whole.new ((w.alloc (.cells #[.string f, .string t] 30)).alloc (.cells #[.string g, .string u] 30)) 30 #[.string ⟨#[]⟩, .string ⟨#[]⟩]
  have b0 := (((Below.refl w.heap.size w).alloc (Nat.le_refl _) (.cells #[.string f, .string t] 30)).alloc (by simp) (.cells #[.string g, .string u] 30)).alloc (by simp; omega) (.cells #[.string ⟨#[]⟩, .string ⟨#[]⟩] 30)
  have A1 := A0.alloc (.cells #[.string f, .string t, .string g, .string u] 30)
  have B1 := B0.alloc (.cells #[.string f, .string t, .string g, .string u] 30)
  have R1 := R0.alloc (.cells #[.string f, .string t, .string g, .string u] 30)
  have b1 := b0.alloc (by simp; omega) (.cells #[.string f, .string t, .string g, .string u] 30)
  have L1 := Whole.new (((w.alloc (.cells #[.string f, .string t] 30)).alloc (.cells #[.string g, .string u] 30)).alloc (.cells #[.string ⟨#[]⟩, .string ⟨#[]⟩] 30)) 30 #[.string f, .string t, .string g, .string u]
  simp only [World.size_alloc] at B1 R1 L1
  have E := ends2 (w.heap.size + 1 + 1 + 1) f t g u _ hf ht hg hu (L1.cell 0) (L1.cell 1) (L1.cell 2) (L1.cell 3)
  have hM : ∀ ts t W, (Builtin.max_ ts t #[.string f, .string g]).run Tryd.prog W = .ok (.string (maxS f g)) W := fun ts t W => run_maxS ts t f g W
  have hE := fun W => end_any u t W
  have hms : (maxS f g).size ≤ 9223372036854775807 := maxS_sz hf hg
  have hn : minE t u = if decide (endN u t < 0) = true then u else t := by unfold minE; rw [endN_lt]
  generalize maxS f g = mx at hM hms ⊢
  generalize hq : meetV (okR f t && okR g u) (okR mx (minE t u)) mx (minE t u) = q
  rw [hn] at hq
  generalize (okR f t && okR g u) = o at hq E
  generalize endN u t = n at hq hE
  clear hn A0 B0 R0 b0 L1
  have H1 := Lib.hid ht
  have H2 := Lib.hid hu
  have H3 := Lib.hid hms
  clear hf ht hg hu hms
  cases o with
  | false =>
    have HQ := Lib.hid hq
    clear hq hE
    simp only [fnV, ckI] at E
    go_enter Tryd.func67, Tryd.ntmps67
    go_wp2_with fail
    refine E.mono ?_
    rintro e w1 ⟨rfl, hb⟩
    have R2 := R1.below hb R1.lt
    have b2 := b1.trans (hb.mono b1.size)
    have r0 := R2.cell 0
    have r1 := R2.cell 1
    have s0 := R2.fr 0
    have s1 := R2.fr 1
    simp only [List.getElem?_toArray, List.getElem?_cons_succ, List.getElem?_cons_zero] at r0 r1
    clear A1 B1 R1 b1 hb E
    go_wp2_with fail
    refine bodyPost_ret (v := q) (by rw [← HQ.out]; simp [meetV, ckI, results, Tryd.results67, go_sem, r0, r1]) rfl ⟨rfl, ?_⟩
    exact (b2.setCell (by simp; omega) _).setCell (by simp; omega) _
  | true =>
    simp only [fnV, ckI] at E
    go_enter Tryd.func67, Tryd.ntmps67
    go_wp2_with fail
    refine E.mono ?_
    rintro e w1 ⟨rfl, hb⟩
    have A2 := (A1.below hb A1.lt).alloc (.cells #[.string mx, .string t] 30)
    have B2 := (B1.below hb B1.lt).alloc (.cells #[.string mx, .string t] 30)
    have R2 := fun o => (R1.below hb R1.lt).alloc o
    have b2 := b1.trans (hb.mono b1.size)
    have x0 := (A1.below hb A1.lt).cell 0
    have x1 := (A1.below hb A1.lt).cell 1
    have y0 := (B1.below hb B1.lt).cell 0
    have y1 := (B1.below hb B1.lt).cell 1
    have x3 := A2.cell 1
    have y3 := B2.cell 1
    simp only [List.getElem?_toArray, List.getElem?_cons_succ, List.getElem?_cons_zero] at x0 x1 y0 y1 x3 y3
    clear A1 B1 R1 b1 hb E
    go_wp2_with fail
    refine (hE _).mono ?_
    rintro e w2 ⟨rfl, rfl⟩
    by_cases hn : n < 0
    · rw [if_pos (by simpa using hn)] at hq
      have C := fun W => check_any mx u W H3.out H2.out
      have X2 := Whole.new w1 30 #[.string mx, .string u]
      have R2' := R2 (.cells #[.string mx, .string u] 30)
      have b3 := b2.alloc b2.size (.cells #[.string mx, .string u] 30)
      generalize okR mx u = m at C hq
      go_wp2_with fail
      refine (C _).mono ?_
      rintro e w3 ⟨rfl, hb3⟩
      have R3 := R2'.below hb3 R2'.lt
      have X3 := X2.below hb3 X2.lt
      have b4 := b3.trans (hb3.mono b3.size)
      clear C X2 R2' b3 hb3 x0 x1 y0 y1 x3 y3 R2 b2 A2 B2
      have r0 := R3.cell 0
      have r1 := R3.cell 1
      have s0 := R3.fr 0
      have s1 := R3.fr 1
      have v0 := X3.cell 0
      have v1 := X3.cell 1
      simp only [List.getElem?_toArray, List.getElem?_cons_succ, List.getElem?_cons_zero] at r0 r1 v0 v1
      cases m with
      | false =>
        have HQ := Lib.hid hq
        clear hq R3 X3
        go_wp2_with fail
        refine bodyPost_ret (v := q) (by rw [← HQ.out]; simp [meetV, ckI, results, Tryd.results67, go_sem, r0, r1]) rfl ⟨rfl, ?_⟩
        exact (b4.setCell (by simp; omega) _).setCell (by simp; omega) _
      | true =>
        have HQ := Lib.hid hq
        clear hq R3 X3
        go_wp2_with fail
        refine bodyPost_ret (v := q) (by rw [← HQ.out]; simp [meetV, ckI, results, Tryd.results67, go_sem, r0, r1]) rfl ⟨rfl, ?_⟩
        exact (b4.setCell (by simp; omega) _).setCell (by simp; omega) _
    · rw [if_neg (by simpa using hn)] at hq
      have C := fun W => check_any mx t W H3.out H1.out
      have X2 := Whole.new w1 30 #[.string mx, .string t]
      have R2' := R2 (.cells #[.string mx, .string t] 30)
      have b3 := b2.alloc b2.size (.cells #[.string mx, .string t] 30)
      generalize okR mx t = m at C hq
      go_wp2_with fail
      refine (C _).mono ?_
      rintro e w3 ⟨rfl, hb3⟩
      have R3 := R2'.below hb3 R2'.lt
      have X3 := X2.below hb3 X2.lt
      have b4 := b3.trans (hb3.mono b3.size)
      clear C X2 R2' b3 hb3 x0 x1 y0 y1 x3 y3 R2 b2 A2 B2
      have r0 := R3.cell 0
      have r1 := R3.cell 1
      have s0 := R3.fr 0
      have s1 := R3.fr 1
      have v0 := X3.cell 0
      have v1 := X3.cell 1
      simp only [List.getElem?_toArray, List.getElem?_cons_succ, List.getElem?_cons_zero] at r0 r1 v0 v1
      cases m with
      | false =>
        have HQ := Lib.hid hq
        clear hq R3 X3
        go_wp2_with fail
        refine bodyPost_ret (v := q) (by rw [← HQ.out]; simp [meetV, ckI, results, Tryd.results67, go_sem, r0, r1]) rfl ⟨rfl, ?_⟩
        exact (b4.setCell (by simp; omega) _).setCell (by simp; omega) _
      | true =>
        have HQ := Lib.hid hq
        clear hq R3 X3
        go_wp2_with fail
        refine bodyPost_ret (v := q) (by rw [← HQ.out]; simp [meetV, ckI, results, Tryd.results67, go_sem, r0, r1]) rfl ⟨rfl, ?_⟩
        exact (b4.setCell (by simp; omega) _).setCell (by simp; omega) _
end Go.Proofs.YtkkkppbcjmeapaaDoor
