/- Whether any number lies within any two others is told as the document says, for every three numbers. No condition. -/
import Derived.Test.YtpolglgfbfjcoaaPNumsWithinx1
namespace Go.Proofs.Ytpolglgfbfjcoaa.Pure
open Go.RowKit Go.Proofs.Ytpolglgfbfjcoaa.PNumsWithin Go.Proofs.YtpolglgfbfjcoaaW.PrintWords Go.Proofs.YtpolglgfbfjcoaaW.PrintLast

theorem awake_at (k : Nat) (hk : 4 ≤ k) : baileylaw01_awake.f k = some true := by
  have h : baileylaw01_awake.f 4 = some true := by decide +kernel
  exact at_rounds baileylaw01_awake.mono hk h

theorem NumsWithin : baileylaw01_NumsWithin.Pure := by
  intro a b c _ _ _
  refine ⟨4, ?_⟩
  unfold baileylaw01_NumsWithin.f nums_Within.f
  by_cases h : b ≤ a
  · simp [h, awake_at 4 (by decide)]
  · simp [h, awake_at 4 (by decide)]

end Go.Proofs.Ytpolglgfbfjcoaa.Pure
