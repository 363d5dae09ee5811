/- What a command's kind uses, by the reference. Condition: sizes as a machine's integers can say. -/
import Derived.Test.YtgjnmfmbheejoaaGreatDoorCmRUsA
import Derived.Test.YtgjnmfmbheejoaaGreatDoorCmRUsB
import Derived.Test.YtgjnmfmbheejoaaGreatDoorCmRUsC
import Derived.Test.YtgjnmfmbheejoaaGreatDoorCmRUsD
import Derived.Test.YtgjnmfmbheejoaaGreatDoorCmREq
namespace Go.Proofs.YtgjnmfmbheejoaaGreatDoor
open Go.RowKit Go.Shelf

theorem cmdZ_setF (x : Fl) {c cc : Cv} (h : CmdZ c) (g : CmdZ cc) : CmdZ (setF x c cc) := by
  cases x <;> constructor <;> first | exact g.k | exact h.k | exact g.call | exact h.call | exact g.saga | exact h.saga | exact g.ea | exact h.ea | exact g.eb | exact h.eb | exact g.ec | exact h.ec | exact g.dl | exact h.dl | exact g.mv | exact h.mv | exact g.g | exact h.g | exact g.ia | exact h.ia | exact g.ib | exact h.ib | exact g.ic | exact h.ic | exact g.im | exact h.im | exact g.ig | exact h.ig | exact g.res | exact h.res | exact g.key | exact h.key | exact g.f | exact h.f | exact g.t | exact h.t | exact g.data | exact h.data
/-- The command of the fields that the kind uses alone. -/
def usedC (c : Cv) : Cv := setA ((fieldsK c.k).getD []) c (zeroC c.k)
/-- What used answers. -/
def UsedR (c : Cv) (w w' : World) (e : Ending) : Prop := (∃ (q : Bool) (A' : Option Addr) (n' m' : Nat), e = .returned (.tuple #[.agg (cA (usedC c) A' n' m'), .bool q]) ∧ (q = true ↔ ∃ l, fieldsK c.k = some l ∧ ∀ x ∈ l, okF x c) ∧ CmdIn w' (usedC c) A' n' m') ∧ Below w.heap.size w w'
theorem us_end {c : Cv} {w w' : World} {e : Ending} {ob : Cv} {A2 : Option Addr} {n2 m2 : Nat} {q : Bool} {l : List Fl} (hl : fieldsK c.k = some l) (ho : setA l c (zeroC c.k) = ob) (hq : q = true ↔ ∀ x ∈ l, okF x c) (hin : ∀ W, Below w.heap.size w W → CmdIn W ob A2 n2 m2)
    (he : e = .returned (.tuple #[.agg (cA ob A2 n2 m2), .bool q]) ∧ Below w.heap.size w w') : UsedR c w w' e := by
  have hu : usedC c = ob := by unfold usedC; rw [hl]; exact ho
  refine ⟨⟨q, A2, n2, m2, by rw [hu]; exact he.1, hq.trans ⟨fun h => ⟨l, hl, h⟩, fun ⟨l2, h2, h3⟩ => ?_⟩, by rw [hu]; exact hin w' he.2⟩, he.2⟩
  rw [hl] at h2
  cases h2
  exact h3
theorem us_none {c : Cv} {w w' : World} {e : Ending} (hl : fieldsK c.k = none) (hz : CmdZ (zeroC c.k)) (he : e = .returned (.tuple #[.agg (cA (zeroC c.k) none 0 0), .bool false]) ∧ Below w.heap.size w w') : UsedR c w w' e := by
  have hu : usedC c = zeroC c.k := by unfold usedC; rw [hl]; rfl
  refine ⟨⟨false, none, 0, 0, by rw [hu]; exact he.1, ⟨fun h => by simp at h, fun ⟨l2, h2, h3⟩ => ?_⟩, by rw [hu]; exact ⟨defAt_zero w', hz⟩⟩, he.2⟩
  rw [hl] at h2
  cases h2
/-- The reference's used. -/
theorem used_any (c : Cv) (A : Option Addr) (n m : Nat) (w : World) (h : CmdIn w c A n m) : Calls Tryz.prog 84 #[.agg (cA c A n m)] w fun e w' => UsedR c w w' e := by
  have hz0 : CmdZ (zeroC c.k) := (cmdIn_zero w c.k h.z.k).z
  by_cases hk0 : c.k = 0
  case pos =>
    have hk := hk0
    have hl : fieldsK c.k = some [] := by rw [hk]; rfl
    have hal : ∀ x ∈ ([] : List Fl), okF x c := fun x hx => by simp at hx
    exact (used_0_0 c A n m w hk).mono (fun e w' he => us_end hl rfl ⟨fun _ => hal, fun _ => rfl⟩ (fun W _ => ⟨defAt_zero W, hz0⟩) he)
  by_cases hk1 : c.k = 1
  case pos =>
    have hk := hk1
    have hl : fieldsK c.k = some [.eff, .key, .dl] := by rw [hk]; rfl
    by_cases h0 : effOk c.ea c.eb c.ec
    case neg => exact (used_1_0 c A n m w hk h0).mono (fun e w' he => us_end hl rfl ⟨fun e => by simp at e, fun hh => absurd (hh .eff (by simp)) h0⟩ (fun W _ => ⟨defAt_zero W, (cmdZ_setF .dl h.z (cmdZ_setF .key h.z (cmdZ_setF .eff h.z hz0)))⟩) he)
    by_cases h1 : isName c.key.data.toList = true
    case neg => exact (used_1_1 c A n m w h hk h0 h1).mono (fun e w' he => us_end hl rfl ⟨fun e => by simp at e, fun hh => absurd (hh .key (by simp)) h1⟩ (fun W _ => ⟨defAt_zero W, (cmdZ_setF .dl h.z (cmdZ_setF .key h.z (cmdZ_setF .eff h.z hz0)))⟩) he)
    by_cases h2 : c.dl ≠ 0
    case neg => exact (used_1_2 c A n m w h hk h0 h1 h2).mono (fun e w' he => us_end hl rfl ⟨fun e => by simp at e, fun hh => absurd (hh .dl (by simp)).1 h2⟩ (fun W _ => ⟨defAt_zero W, (cmdZ_setF .dl h.z (cmdZ_setF .key h.z (cmdZ_setF .eff h.z hz0)))⟩) he)
    by_cases h3 : -1152921504606846976 ≤ c.dl
    case neg => exact (used_1_3 c A n m w h hk h0 h1 h2 h3).mono (fun e w' he => us_end hl rfl ⟨fun e => by simp at e, fun hh => absurd (hh .dl (by simp)).2.1 h3⟩ (fun W _ => ⟨defAt_zero W, (cmdZ_setF .dl h.z (cmdZ_setF .key h.z (cmdZ_setF .eff h.z hz0)))⟩) he)
    by_cases h4 : c.dl ≤ 1152921504606846976
    case neg => exact (used_1_4 c A n m w h hk h0 h1 h2 h3 h4).mono (fun e w' he => us_end hl rfl ⟨fun e => by simp at e, fun hh => absurd (hh .dl (by simp)).2.2 h4⟩ (fun W _ => ⟨defAt_zero W, (cmdZ_setF .dl h.z (cmdZ_setF .key h.z (cmdZ_setF .eff h.z hz0)))⟩) he)
    have hal : ∀ x ∈ ([.eff, .key, .dl] : List Fl), okF x c := fun x hx => by
      simp only [List.mem_cons, List.not_mem_nil, or_false] at hx
      rcases hx with rfl | rfl | rfl
      · exact h0
      · exact h1
      · exact ⟨h2, h3, h4⟩
    exact (used_1_5 c A n m w h hk h0 h1 h2 h3 h4).mono (fun e w' he => us_end hl rfl ⟨fun _ => hal, fun _ => rfl⟩ (fun W _ => ⟨defAt_zero W, (cmdZ_setF .dl h.z (cmdZ_setF .key h.z (cmdZ_setF .eff h.z hz0)))⟩) he)
  by_cases hk2 : c.k = 2
  case pos =>
    have hk := hk2
    have hl : fieldsK c.k = some [.call, .key] := by rw [hk]; rfl
    by_cases h0 : 0 ≤ c.call ∧ c.call ≤ 2147483648
    case neg => exact (used_2_0 c A n m w hk h0).mono (fun e w' he => us_end hl rfl ⟨fun e => by simp at e, fun hh => absurd (hh .call (by simp)) h0⟩ (fun W _ => ⟨defAt_zero W, (cmdZ_setF .key h.z (cmdZ_setF .call h.z hz0))⟩) he)
    by_cases h1 : isName c.key.data.toList = true
    case neg => exact (used_2_1 c A n m w h hk h0 h1).mono (fun e w' he => us_end hl rfl ⟨fun e => by simp at e, fun hh => absurd (hh .key (by simp)) h1⟩ (fun W _ => ⟨defAt_zero W, (cmdZ_setF .key h.z (cmdZ_setF .call h.z hz0))⟩) he)
    have hal : ∀ x ∈ ([.call, .key] : List Fl), okF x c := fun x hx => by
      simp only [List.mem_cons, List.not_mem_nil, or_false] at hx
      rcases hx with rfl | rfl
      · exact h0
      · exact h1
    exact (used_2_2 c A n m w h hk h0 h1).mono (fun e w' he => us_end hl rfl ⟨fun _ => hal, fun _ => rfl⟩ (fun W _ => ⟨defAt_zero W, (cmdZ_setF .key h.z (cmdZ_setF .call h.z hz0))⟩) he)
  by_cases hk3 : c.k = 3
  case pos =>
    have hk := hk3
    have hl : fieldsK c.k = some [.mv, .rng] := by rw [hk]; rfl
    by_cases h0 : 1 ≤ c.mv ∧ c.mv ≤ 64
    case neg => exact (used_3_0 c A n m w hk h0).mono (fun e w' he => us_end hl rfl ⟨fun e => by simp at e, fun hh => absurd (hh .mv (by simp)) h0⟩ (fun W _ => ⟨defAt_zero W, (cmdZ_setF .rng h.z (cmdZ_setF .mv h.z hz0))⟩) he)
    by_cases h1 : okR c.f c.t = true
    case neg => exact (used_3_1 c A n m w h hk h0 h1).mono (fun e w' he => us_end hl rfl ⟨fun e => by simp at e, fun hh => absurd (hh .rng (by simp)) h1⟩ (fun W _ => ⟨defAt_zero W, (cmdZ_setF .rng h.z (cmdZ_setF .mv h.z hz0))⟩) he)
    have hal : ∀ x ∈ ([.mv, .rng] : List Fl), okF x c := fun x hx => by
      simp only [List.mem_cons, List.not_mem_nil, or_false] at hx
      rcases hx with rfl | rfl
      · exact h0
      · exact h1
    exact (used_3_2 c A n m w h hk h0 h1).mono (fun e w' he => us_end hl rfl ⟨fun _ => hal, fun _ => rfl⟩ (fun W _ => ⟨defAt_zero W, (cmdZ_setF .rng h.z (cmdZ_setF .mv h.z hz0))⟩) he)
  by_cases hk4 : c.k = 4
  case pos =>
    have hk := hk4
    have hl : fieldsK c.k = some [.mv, .rng, .data] := by rw [hk]; rfl
    by_cases h0 : 1 ≤ c.mv ∧ c.mv ≤ 64
    case neg => exact (used_4_0 c A n m w hk h0).mono (fun e w' he => us_end hl rfl ⟨fun e => by simp at e, fun hh => absurd (hh .mv (by simp)) h0⟩ (fun W _ => ⟨defAt_zero W, (cmdZ_setF .data h.z (cmdZ_setF .rng h.z (cmdZ_setF .mv h.z hz0)))⟩) he)
    by_cases h1 : okR c.f c.t = true
    case neg => exact (used_4_1 c A n m w h hk h0 h1).mono (fun e w' he => us_end hl rfl ⟨fun e => by simp at e, fun hh => absurd (hh .rng (by simp)) h1⟩ (fun W _ => ⟨defAt_zero W, (cmdZ_setF .data h.z (cmdZ_setF .rng h.z (cmdZ_setF .mv h.z hz0)))⟩) he)
    by_cases h2 : c.data.size ≤ 65536
    case neg => exact (used_4_2 c A n m w h hk h0 h1 h2).mono (fun e w' he => us_end hl rfl ⟨fun e => by simp at e, fun hh => absurd (hh .data (by simp)) h2⟩ (fun W _ => ⟨defAt_zero W, (cmdZ_setF .data h.z (cmdZ_setF .rng h.z (cmdZ_setF .mv h.z hz0)))⟩) he)
    have hal : ∀ x ∈ ([.mv, .rng, .data] : List Fl), okF x c := fun x hx => by
      simp only [List.mem_cons, List.not_mem_nil, or_false] at hx
      rcases hx with rfl | rfl | rfl
      · exact h0
      · exact h1
      · exact h2
    exact (used_4_3 c A n m w h hk h0 h1 h2).mono (fun e w' he => us_end hl rfl ⟨fun _ => hal, fun _ => rfl⟩ (fun W _ => ⟨defAt_zero W, (cmdZ_setF .data h.z (cmdZ_setF .rng h.z (cmdZ_setF .mv h.z hz0)))⟩) he)
  by_cases hk11 : c.k = 11
  case pos =>
    have hk := hk11
    have hl : fieldsK c.k = some [.call, .saga, .defn] := by rw [hk]; rfl
    by_cases h0 : 0 ≤ c.call ∧ c.call ≤ 2147483648
    case neg => exact (used_11_0 c A n m w hk h0).mono (fun e w' he => us_end hl rfl ⟨fun e => by simp at e, fun hh => absurd (hh .call (by simp)) h0⟩ (fun W hW => ⟨(h.keep hW).d, (cmdZ_setF .defn h.z (cmdZ_setF .saga h.z (cmdZ_setF .call h.z hz0)))⟩) he)
    by_cases h1 : 1 ≤ c.saga ∧ c.saga ≤ 9999
    case neg => exact (used_11_1 c A n m w hk h0 h1).mono (fun e w' he => us_end hl rfl ⟨fun e => by simp at e, fun hh => absurd (hh .saga (by simp)) h1⟩ (fun W hW => ⟨(h.keep hW).d, (cmdZ_setF .defn h.z (cmdZ_setF .saga h.z (cmdZ_setF .call h.z hz0)))⟩) he)
    by_cases h2 : defOk c.d
    case neg => exact (used_11_2 c A n m w h hk h0 h1 h2).mono (fun e w' he => us_end hl rfl ⟨fun e => by simp at e, fun hh => absurd (hh .defn (by simp)) h2⟩ (fun W hW => ⟨(h.keep hW).d, (cmdZ_setF .defn h.z (cmdZ_setF .saga h.z (cmdZ_setF .call h.z hz0)))⟩) he)
    have hal : ∀ x ∈ ([.call, .saga, .defn] : List Fl), okF x c := fun x hx => by
      simp only [List.mem_cons, List.not_mem_nil, or_false] at hx
      rcases hx with rfl | rfl | rfl
      · exact h0
      · exact h1
      · exact h2
    exact (used_11_3 c A n m w h hk h0 h1 h2).mono (fun e w' he => us_end hl rfl ⟨fun _ => hal, fun _ => rfl⟩ (fun W hW => ⟨(h.keep hW).d, (cmdZ_setF .defn h.z (cmdZ_setF .saga h.z (cmdZ_setF .call h.z hz0)))⟩) he)
  by_cases hk12 : c.k = 12
  case pos =>
    have hk := hk12
    have hl : fieldsK c.k = some [.call, .saga] := by rw [hk]; rfl
    by_cases h0 : 0 ≤ c.call ∧ c.call ≤ 2147483648
    case neg => exact (used_12_0 c A n m w hk h0).mono (fun e w' he => us_end hl rfl ⟨fun e => by simp at e, fun hh => absurd (hh .call (by simp)) h0⟩ (fun W _ => ⟨defAt_zero W, (cmdZ_setF .saga h.z (cmdZ_setF .call h.z hz0))⟩) he)
    by_cases h1 : 1 ≤ c.saga ∧ c.saga ≤ 9999
    case neg => exact (used_12_1 c A n m w hk h0 h1).mono (fun e w' he => us_end hl rfl ⟨fun e => by simp at e, fun hh => absurd (hh .saga (by simp)) h1⟩ (fun W _ => ⟨defAt_zero W, (cmdZ_setF .saga h.z (cmdZ_setF .call h.z hz0))⟩) he)
    have hal : ∀ x ∈ ([.call, .saga] : List Fl), okF x c := fun x hx => by
      simp only [List.mem_cons, List.not_mem_nil, or_false] at hx
      rcases hx with rfl | rfl
      · exact h0
      · exact h1
    exact (used_12_2 c A n m w hk h0 h1).mono (fun e w' he => us_end hl rfl ⟨fun _ => hal, fun _ => rfl⟩ (fun W _ => ⟨defAt_zero W, (cmdZ_setF .saga h.z (cmdZ_setF .call h.z hz0))⟩) he)
  by_cases hk13 : c.k = 13
  case pos =>
    have hk := hk13
    have hl : fieldsK c.k = some [.call, .saga] := by rw [hk]; rfl
    by_cases h0 : 0 ≤ c.call ∧ c.call ≤ 2147483648
    case neg => exact (used_13_0 c A n m w hk h0).mono (fun e w' he => us_end hl rfl ⟨fun e => by simp at e, fun hh => absurd (hh .call (by simp)) h0⟩ (fun W _ => ⟨defAt_zero W, (cmdZ_setF .saga h.z (cmdZ_setF .call h.z hz0))⟩) he)
    by_cases h1 : 1 ≤ c.saga ∧ c.saga ≤ 9999
    case neg => exact (used_13_1 c A n m w hk h0 h1).mono (fun e w' he => us_end hl rfl ⟨fun e => by simp at e, fun hh => absurd (hh .saga (by simp)) h1⟩ (fun W _ => ⟨defAt_zero W, (cmdZ_setF .saga h.z (cmdZ_setF .call h.z hz0))⟩) he)
    have hal : ∀ x ∈ ([.call, .saga] : List Fl), okF x c := fun x hx => by
      simp only [List.mem_cons, List.not_mem_nil, or_false] at hx
      rcases hx with rfl | rfl
      · exact h0
      · exact h1
    exact (used_13_2 c A n m w hk h0 h1).mono (fun e w' he => us_end hl rfl ⟨fun _ => hal, fun _ => rfl⟩ (fun W _ => ⟨defAt_zero W, (cmdZ_setF .saga h.z (cmdZ_setF .call h.z hz0))⟩) he)
  by_cases hk14 : c.k = 14
  case pos =>
    have hk := hk14
    have hl : fieldsK c.k = some [.call, .rng, .grp] := by rw [hk]; rfl
    by_cases h0 : 0 ≤ c.call ∧ c.call ≤ 2147483648
    case neg => exact (used_14_0 c A n m w hk h0).mono (fun e w' he => us_end hl rfl ⟨fun e => by simp at e, fun hh => absurd (hh .call (by simp)) h0⟩ (fun W _ => ⟨defAt_zero W, (cmdZ_setF .grp h.z (cmdZ_setF .rng h.z (cmdZ_setF .call h.z hz0)))⟩) he)
    by_cases h1 : okR c.f c.t = true
    case neg => exact (used_14_1 c A n m w h hk h0 h1).mono (fun e w' he => us_end hl rfl ⟨fun e => by simp at e, fun hh => absurd (hh .rng (by simp)) h1⟩ (fun W _ => ⟨defAt_zero W, (cmdZ_setF .grp h.z (cmdZ_setF .rng h.z (cmdZ_setF .call h.z hz0)))⟩) he)
    by_cases h2 : 1 ≤ c.g
    case neg => exact (used_14_2 c A n m w h hk h0 h1 h2).mono (fun e w' he => us_end hl rfl ⟨fun e => by simp at e, fun hh => absurd (hh .grp (by simp)).1 h2⟩ (fun W _ => ⟨defAt_zero W, (cmdZ_setF .grp h.z (cmdZ_setF .rng h.z (cmdZ_setF .call h.z hz0)))⟩) he)
    by_cases h3 : c.g < 8
    case neg => exact (used_14_3 c A n m w h hk h0 h1 h2 h3).mono (fun e w' he => us_end hl rfl ⟨fun e => by simp at e, fun hh => absurd (by have := (hh .grp (by simp)).2; omega) h3⟩ (fun W _ => ⟨defAt_zero W, (cmdZ_setF .grp h.z (cmdZ_setF .rng h.z (cmdZ_setF .call h.z hz0)))⟩) he)
    have hal : ∀ x ∈ ([.call, .rng, .grp] : List Fl), okF x c := fun x hx => by
      simp only [List.mem_cons, List.not_mem_nil, or_false] at hx
      rcases hx with rfl | rfl | rfl
      · exact h0
      · exact h1
      · exact ⟨h2, by show c.g ≤ 7; omega⟩
    exact (used_14_4 c A n m w h hk h0 h1 h2 h3).mono (fun e w' he => us_end hl rfl ⟨fun _ => hal, fun _ => rfl⟩ (fun W _ => ⟨defAt_zero W, (cmdZ_setF .grp h.z (cmdZ_setF .rng h.z (cmdZ_setF .call h.z hz0)))⟩) he)
  by_cases hk15 : c.k = 15
  case pos =>
    have hk := hk15
    have hl : fieldsK c.k = some [.item, .res, .data] := by rw [hk]; rfl
    by_cases h0 : itemOk c.it.a c.it.b c.it.c c.it.m c.it.i c.it.g
    case neg => exact (used_15_0 c A n m w hk h0).mono (fun e w' he => us_end hl rfl ⟨fun e => by simp at e, fun hh => absurd (hh .item (by simp)) h0⟩ (fun W _ => ⟨defAt_zero W, (cmdZ_setF .data h.z (cmdZ_setF .res h.z (cmdZ_setF .item h.z hz0)))⟩) he)
    by_cases h1 : 0 ≤ c.res
    case neg => exact (used_15_1 c A n m w hk h0 h1).mono (fun e w' he => us_end hl rfl ⟨fun e => by simp at e, fun hh => absurd (hh .res (by simp)).1 h1⟩ (fun W _ => ⟨defAt_zero W, (cmdZ_setF .data h.z (cmdZ_setF .res h.z (cmdZ_setF .item h.z hz0)))⟩) he)
    by_cases h2 : c.res ≤ 18
    case neg => exact (used_15_2 c A n m w hk h0 h1 h2).mono (fun e w' he => us_end hl rfl ⟨fun e => by simp at e, fun hh => absurd (hh .res (by simp)).2 h2⟩ (fun W _ => ⟨defAt_zero W, (cmdZ_setF .data h.z (cmdZ_setF .res h.z (cmdZ_setF .item h.z hz0)))⟩) he)
    by_cases h3 : c.data.size ≤ 65536
    case neg => exact (used_15_3 c A n m w hk h0 h1 h2 h3).mono (fun e w' he => us_end hl rfl ⟨fun e => by simp at e, fun hh => absurd (hh .data (by simp)) h3⟩ (fun W _ => ⟨defAt_zero W, (cmdZ_setF .data h.z (cmdZ_setF .res h.z (cmdZ_setF .item h.z hz0)))⟩) he)
    have hal : ∀ x ∈ ([.item, .res, .data] : List Fl), okF x c := fun x hx => by
      simp only [List.mem_cons, List.not_mem_nil, or_false] at hx
      rcases hx with rfl | rfl | rfl
      · exact h0
      · exact ⟨h1, h2⟩
      · exact h3
    exact (used_15_4 c A n m w hk h0 h1 h2 h3).mono (fun e w' he => us_end hl rfl ⟨fun _ => hal, fun _ => rfl⟩ (fun W _ => ⟨defAt_zero W, (cmdZ_setF .data h.z (cmdZ_setF .res h.z (cmdZ_setF .item h.z hz0)))⟩) he)
  have hn : fieldsK c.k = none := by
    unfold fieldsK
    simp only [*, if_false]
  exact (used_99_0 c A n m w hk0 hk1 hk2 hk3 hk4 hk11 hk12 hk13 hk14 hk15).mono (fun e w' he => us_none hn hz0 he)
end Go.Proofs.YtgjnmfmbheejoaaGreatDoor
