/- One part of the proofs about layer 2: the statement PackNobody itself: a plain Lean function of the same answers and the walk that shows it. No condition.
   (Lines that the kit's print wrote for this claim, and walks of ours, as one text of our own: not a printed one.) -/
import Derived.Test.YtagpdfekeppbgaaProg
import Derived.Below
import Derived.Deep.Draws
import Derived.Deep.AppendLies
import Derived.Maps.AppendAt
import Derived.OwnWalk
import Derived.Laws.BytesArg
import Derived.Laws.MakeOwn
import Derived.Laws.OwnMore
import Derived.Deep.OwnRows
import Derived.Tactics
import Derived.Lib.ConvBytes
import Derived.Laws.Slices
import Derived.WalkKit
import Derived.KernelRfl
import Derived.RowKit3
import Derived.Deep.LoopGhost
import Derived.Deep.QuietTactic
import Derived.BigQuiet
import Derived.WideLaws
import Derived.Deep.DeepCutAuto
import Derived.Deep.CutBlock
import Derived.Deep.RegionHeld3
import Derived.Laws.Rows
import Derived.Lib.AppendStr
import Derived.ArgAppend
import Derived.Laws.IdiomCopy
import Derived.OrdersHeld
import Derived.Laws.BitsLemmas
import Derived.RowKit
import Derived.Test.YtagpdfekeppbgaaWWords
import Derived.Test.YtagpdfekeppbgaaWLast
import Derived.Test.YtagpdfekeppbgaaWTab
import Derived.Test.YtagpdfekeppbgaaWFour
import Derived.Test.YtagpdfekeppbgaaWQPut
import Derived.Test.YtagpdfekeppbgaaWApart
import Derived.Test.YtagpdfekeppbgaaWArr
import Derived.Test.YtagpdfekeppbgaaWZeros
import Derived.Test.YtagpdfekeppbgaaWFoot
import Derived.Test.YtagpdfekeppbgaaWKept
import Derived.Test.YtagpdfekeppbgaaWShare
import Derived.Test.YtagpdfekeppbgaaWN
import Derived.Test.YtagpdfekeppbgaaWFootNe
import Derived.Test.YtagpdfekeppbgaaWAt
import Derived.Test.YtagpdfekeppbgaaWEqStruct
import Derived.Test.YtagpdfekeppbgaaWRepsOne
import Derived.Test.YtagpdfekeppbgaaWInv
import Derived.Test.YtagpdfekeppbgaaWInvWords
import Derived.Test.YtagpdfekeppbgaaWGuard
import Derived.Test.YtagpdfekeppbgaaWNEv
import Derived.Test.YtagpdfekeppbgaaWMore
import Derived.WalkSpells
import Derived.Outline
import Derived.Laws.CopyOwn
import Derived.Test.YtagpdfekeppbgaaOPkPN
import Derived.Lib.SlBytesConst
namespace Go.Proofs.Ytagpdfekeppbgaa.X
open Go.RowKit Go.Proofs.YtagpdfekeppbgaaW.PrintWords Go.Proofs.YtagpdfekeppbgaaW.PrintLast Go.Proofs.YtagpdfekeppbgaaW.PrintMore
attribute [local go_sem] max2_int min2_int max_two min_two max_three min_three max_four min_four
set_option linter.unusedVariables false
set_option linter.unusedSimpArgs false
set_option maxHeartbeats 1000000 in
set_option maxRecDepth 100000 in
theorem baileylaw02_PackNobody.calls (a0 : Int) (w : World) :
    Calls Try.prog 6 #[.int .i64 a0] w fun e w' => e = .returned (.bool true) ∧ Below w.heap.size w w' := by
  have HD := Aside0.mk (show Dead (w.alloc (Obj.cells #[Value.slice none 0 0, Value.int IntKind.i64 0, Value.bool false] 40)) (some ⟨w.heap.size, 0, none⟩) from .inr ⟨_, rfl, by first | exact blk_cell (blk_new w _) 2 | simp⟩)
  go_enter Try.func6, Try.ntmps6
  go_wp2_with (first | (go_at_call 30; (with_reducible refine (dead_Fail _ _ _ ?hd).mono ?_); (case hd => first | exact Or.inl rfl | (repeat (first | exact HD.out | apply Dead.drewN))); rintro e w1 ⟨rfl, m1, rfl⟩) | (go_at_call 27; (with_reducible refine (dead_Num _ _ _ ?hd).mono ?_); (case hd => first | exact Or.inl rfl | (repeat (first | exact HD.out | apply Dead.drewN))); rintro e w2 ⟨rfl, m2, rfl⟩) | (go_at_call 31; (with_reducible refine (dead_Text _ _ _ ?hd).mono ?_); (case hd => first | exact Or.inl rfl | (repeat (first | exact HD.out | apply Dead.drewN))); rintro e w3 ⟨rfl, m3, rfl⟩) | (go_at_call 32; (with_reducible refine (dead_Yes _ _ ?hd).mono ?_); (case hd => first | exact Or.inl rfl | (repeat (first | exact HD.out | apply Dead.drewN))); rintro e w4 ⟨rfl, m4, rfl⟩) | (go_at_call 29; (with_reducible refine (dead_Left _ _ ?hd).mono ?_); (case hd => first | exact Or.inl rfl | (repeat (first | exact HD.out | apply Dead.drewN))); rintro e w5 ⟨rfl, m5, rfl⟩) | (go_at_call 28; (with_reducible refine (dead_Err _ _ ?hd).mono ?_); (case hd => first | exact Or.inl rfl | (repeat (first | exact HD.out | apply Dead.drewN))); rintro e w6 ⟨rfl, m6, rfl⟩) | (go_at_call 33; (with_reducible refine (dead_End _ _ ?hd).mono ?_); (case hd => first | exact Or.inl rfl | (repeat (first | exact HD.out | apply Dead.drewN))); rintro e w7 ⟨rfl, m7, rfl⟩) | (go_at_call 16; (with_reducible refine (baileylaw02_awake.calls true _ rfl).mono ?_); rintro e w8 ⟨rfl, hB8⟩))
  go_ret
  exact ⟨rfl, below_then (by repeat (first | exact below_alloc (Below.refl w.heap.size w) _ | apply pw_below_drewN | apply below_drew1)) (by simp) hB8⟩
theorem baileylaw02_PackNobody.walk (a0 : Int) (w : World) (w0 : (Lit.int .i64 a0).wf = true) :
    Calls Try.prog 6 #[.int .i64 a0] w fun e w' => e = .returned (.bool true) ∧ Below w.heap.size w w' := baileylaw02_PackNobody.calls a0 w
end Go.Proofs.Ytagpdfekeppbgaa.X
