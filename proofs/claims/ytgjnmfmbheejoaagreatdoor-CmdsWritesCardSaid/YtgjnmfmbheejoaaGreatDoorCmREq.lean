/- Whether two commands are equal, by the reference. Condition: sizes as a machine's integers can say. -/
import Derived.Test.YtgjnmfmbheejoaaGreatDoorCmREqA
import Derived.Test.YtgjnmfmbheejoaaGreatDoorCmREqB
namespace Go.Proofs.YtgjnmfmbheejoaaGreatDoor
open Go.RowKit Go.Shelf

/-- The reference's Equal. -/
theorem requal_any (c c' : Cv) (A A' : Option Addr) (n n' m m' : Nat) (w : World) (h : CmdIn w c A n m) (h' : CmdIn w c' A' n' m') :
    Calls Tryz.prog 18 #[.agg (cA c A n m), .agg (cA c' A' n' m')] w fun e w' => BoolR (c = c') w w' e := by
  by_cases h0 : c.k = c'.k
  case neg => exact (requal_0 c c' A A' n n' m m' w h0).mono (fun e w' ⟨he, hb⟩ => ⟨⟨false, he, by simp only [Bool.false_eq_true, false_iff]; exact fun e => h0 (e ▸ rfl)⟩, hb⟩)
  by_cases h1 : c.call = c'.call
  case neg => exact (requal_1 c c' A A' n n' m m' w h0 h1).mono (fun e w' ⟨he, hb⟩ => ⟨⟨false, he, by simp only [Bool.false_eq_true, false_iff]; exact fun e => h1 (e ▸ rfl)⟩, hb⟩)
  by_cases h2 : c.saga = c'.saga
  case neg => exact (requal_2 c c' A A' n n' m m' w h0 h1 h2).mono (fun e w' ⟨he, hb⟩ => ⟨⟨false, he, by simp only [Bool.false_eq_true, false_iff]; exact fun e => h2 (e ▸ rfl)⟩, hb⟩)
  by_cases h3 : c.ea = c'.ea ∧ c.eb = c'.eb ∧ c.ec = c'.ec
  case neg => exact (requal_3 c c' A A' n n' m m' w h0 h1 h2 h3).mono (fun e w' ⟨he, hb⟩ => ⟨⟨false, he, by simp only [Bool.false_eq_true, false_iff]; exact fun e => h3 (e ▸ ⟨rfl, rfl, rfl⟩)⟩, hb⟩)
  by_cases h4 : c.key = c'.key
  case neg => exact (requal_4 c c' A A' n n' m m' w h0 h1 h2 h3 h4).mono (fun e w' ⟨he, hb⟩ => ⟨⟨false, he, by simp only [Bool.false_eq_true, false_iff]; exact fun e => h4 (e ▸ rfl)⟩, hb⟩)
  by_cases h5 : c.dl = c'.dl
  case neg => exact (requal_5 c c' A A' n n' m m' w h0 h1 h2 h3 h4 h5).mono (fun e w' ⟨he, hb⟩ => ⟨⟨false, he, by simp only [Bool.false_eq_true, false_iff]; exact fun e => h5 (e ▸ rfl)⟩, hb⟩)
  by_cases h6 : c.mv = c'.mv
  case neg => exact (requal_6 c c' A A' n n' m m' w h0 h1 h2 h3 h4 h5 h6).mono (fun e w' ⟨he, hb⟩ => ⟨⟨false, he, by simp only [Bool.false_eq_true, false_iff]; exact fun e => h6 (e ▸ rfl)⟩, hb⟩)
  by_cases h7 : c.f = c'.f ∧ c.t = c'.t
  case neg => exact (requal_7 c c' A A' n n' m m' w h0 h1 h2 h3 h4 h5 h6 h7).mono (fun e w' ⟨he, hb⟩ => ⟨⟨false, he, by simp only [Bool.false_eq_true, false_iff]; exact fun e => h7 (e ▸ ⟨rfl, rfl⟩)⟩, hb⟩)
  by_cases h8 : c.g = c'.g
  case neg => exact (requal_8 c c' A A' n n' m m' w h0 h1 h2 h3 h4 h5 h6 h7 h8).mono (fun e w' ⟨he, hb⟩ => ⟨⟨false, he, by simp only [Bool.false_eq_true, false_iff]; exact fun e => h8 (e ▸ rfl)⟩, hb⟩)
  by_cases h9 : c.d = c'.d
  case neg => exact (requal_9 c c' A A' n n' m m' w h h' h0 h1 h2 h3 h4 h5 h6 h7 h8 h9).mono (fun e w' ⟨he, hb⟩ => ⟨⟨false, he, by simp only [Bool.false_eq_true, false_iff]; exact fun e => h9 (e ▸ rfl)⟩, hb⟩)
  by_cases h10 : c.it.a = c'.it.a ∧ c.it.b = c'.it.b ∧ c.it.c = c'.it.c ∧ c.it.m = c'.it.m ∧ c.it.i = c'.it.i ∧ c.it.g = c'.it.g
  case neg => exact (requal_10 c c' A A' n n' m m' w h h' h0 h1 h2 h3 h4 h5 h6 h7 h8 h9 h10).mono (fun e w' ⟨he, hb⟩ => ⟨⟨false, he, by simp only [Bool.false_eq_true, false_iff]; exact fun e => h10 (e ▸ ⟨rfl, rfl, rfl, rfl, rfl, rfl⟩)⟩, hb⟩)
  by_cases h11 : c.res = c'.res
  case neg => exact (requal_11 c c' A A' n n' m m' w h h' h0 h1 h2 h3 h4 h5 h6 h7 h8 h9 h10 h11).mono (fun e w' ⟨he, hb⟩ => ⟨⟨false, he, by simp only [Bool.false_eq_true, false_iff]; exact fun e => h11 (e ▸ rfl)⟩, hb⟩)
  by_cases h12 : c.data = c'.data
  case neg => exact (requal_12 c c' A A' n n' m m' w h h' h0 h1 h2 h3 h4 h5 h6 h7 h8 h9 h10 h11 h12).mono (fun e w' ⟨he, hb⟩ => ⟨⟨false, he, by simp only [Bool.false_eq_true, false_iff]; exact fun e => h12 (e ▸ rfl)⟩, hb⟩)
  exact (requal_13 c c' A A' n n' m m' w h h' h0 h1 h2 h3 h4 h5 h6 h7 h8 h9 h10 h11 h12).mono (fun e w' ⟨he, hb⟩ => ⟨⟨true, he, by simp only [true_iff]; exact cv_ext h9 h3 h7 h10 h0 h1 h2 h4 h5 h6 h8 h11 h12⟩, hb⟩)
end Go.Proofs.YtgjnmfmbheejoaaGreatDoor
