/- What the sort lays at every list of ranges. Condition: no more than 64 ranges. -/
import Derived.Test.YthngliafkhalfaaDoorCoverAll
import Derived.Shelf.SlSortCmp.WholeK
namespace Go.Proofs.YthngliafkhalfaaDoor
open Go.RowKit Go.Sort

theorem sort_all (g cap : Nat) (d : Array LR) (w : World) (hH : HoldsK encR 2 w g 0 d) (hg : g < w.heap.size) (hsz : d.size ≤ 64) :
    Calls Tryd.prog 34 #[.slice (some ⟨g, 0, none⟩) d.size cap, .func (.func 35) #[] #[]] w fun e w' => e = .returned (.tuple #[]) ∧ ∃ d' n os, PermIn 0 d.size d d' ∧ SortedIn (ltOf cfR) 0 d.size d' ∧ w' = sortWorldK encR 2 w g 0 n d' os := by
  have eg : ∀ args w, (callFunc 35 args).run Tryd.prog w = .ok (.enter 35 args) w := enters_of Tryd.func35 (by kernel_rfl) rfl
  exact AnyQ.slices_SortFunc Tryd.sortR 2 Tryd.isAgg23 Tryd.sizeOf23 encR (fun _ => rfl) (fun x v hv => by simp [encR] at hv; rcases hv with rfl | rfl <;> rfl) cfR swoR 35 #[] g 0 cap d w eg (fun _ _ _ _ x y => coverFn x y _) hH hg (by omega)
end Go.Proofs.YthngliafkhalfaaDoor
