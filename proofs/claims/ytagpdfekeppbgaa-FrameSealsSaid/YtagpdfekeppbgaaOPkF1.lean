/- One part of the proofs about layer 2: the awake of layer 10. No condition.
   (Lines that the kit's print wrote for this claim, and walks of ours, as one text of our own: not a printed one.) -/
import Derived.Test.YtagpdfekeppbgaaProg
import Derived.Below
import Derived.Deep.Draws
import Derived.Deep.AppendLies
import Derived.Maps.AppendAt
import Derived.OwnWalk
import Derived.Laws.BytesArg
import Derived.Laws.MakeOwn
import Derived.Laws.OwnMore
import Derived.Deep.OwnRows
import Derived.Tactics
import Derived.Lib.ConvBytes
import Derived.Laws.Slices
import Derived.WalkKit
import Derived.KernelRfl
import Derived.RowKit3
import Derived.Deep.LoopGhost
import Derived.Deep.QuietTactic
import Derived.BigQuiet
import Derived.WideLaws
import Derived.Deep.DeepCutAuto
import Derived.Deep.CutBlock
import Derived.Deep.RegionHeld3
import Derived.Laws.Rows
import Derived.Lib.AppendStr
import Derived.ArgAppend
import Derived.Laws.IdiomCopy
import Derived.OrdersHeld
import Derived.Laws.BitsLemmas
import Derived.RowKit
import Derived.Test.YtagpdfekeppbgaaWWords
import Derived.Test.YtagpdfekeppbgaaWLast
import Derived.Test.YtagpdfekeppbgaaWTab
import Derived.Test.YtagpdfekeppbgaaWFour
import Derived.Test.YtagpdfekeppbgaaWQPut
import Derived.Test.YtagpdfekeppbgaaWApart
import Derived.Test.YtagpdfekeppbgaaWArr
import Derived.Test.YtagpdfekeppbgaaWZeros
import Derived.Test.YtagpdfekeppbgaaWFoot
import Derived.Test.YtagpdfekeppbgaaWKept
import Derived.Test.YtagpdfekeppbgaaWShare
import Derived.Test.YtagpdfekeppbgaaWN
import Derived.Test.YtagpdfekeppbgaaWFootNe
import Derived.Test.YtagpdfekeppbgaaWAt
import Derived.Test.YtagpdfekeppbgaaWEqStruct
import Derived.Test.YtagpdfekeppbgaaWRepsOne
import Derived.Test.YtagpdfekeppbgaaWInv
import Derived.Test.YtagpdfekeppbgaaWInvWords
import Derived.Test.YtagpdfekeppbgaaWGuard
import Derived.Test.YtagpdfekeppbgaaWNEv
import Derived.Test.YtagpdfekeppbgaaWMore
import Derived.WalkSpells
import Derived.Outline
import Derived.Laws.CopyOwn
import Derived.Test.YtagpdfekeppbgaaOPkF
import Derived.Lib.SlBytesConst
namespace Go.Proofs.Ytagpdfekeppbgaa.X
open Go.RowKit Go.Proofs.YtagpdfekeppbgaaW.PrintWords Go.Proofs.YtagpdfekeppbgaaW.PrintLast Go.Proofs.YtagpdfekeppbgaaW.PrintMore
attribute [local go_sem] max2_int min2_int max_two min_two max_three min_three max_four min_four
set_option linter.unusedVariables false
set_option linter.unusedSimpArgs false
theorem aw10Seal : frame_Seal.f 40 [97] = some ([1, 97, 0, 101, 0, 99], 0) := by decide +kernel
theorem aw10Eq : slices_Equal_byte_byte.f 10 [1, 97, 0, 101, 0, 99] [1, 97, 0, 101, 0, 99] = some true := by decide +kernel
set_option maxHeartbeats 1000000 in
set_option maxRecDepth 100000 in
theorem baileylaw10_awake.calls (w : World) :
    Calls Try.prog 12 #[] w fun e w' => e = .returned (.bool true) ∧ Below w.heap.size w w' := by
  have kc := fun (w : World) (C : Array Value) (n c : Nat) => Lib.run_convert_bytes_const (P := Try.prog) w 22 5 C n c Try.underlying22 Try.underlying5
  go_enter Try.func12, Try.ntmps12
  go_wp2_with (first | (go_at_call 13; (refine (frame_Seal.calls 40 (some ⟨w.heap.size, 0, none⟩) 1 [97] [1, 97, 0, 101, 0, 99] 0 _ ?sa ?sb aw10Seal).mono ?_); (case sa => exact lit_C (w := w) (1, 2) [97] (by decide)); (case sb => exact Nat.le_refl _); rintro e w1 ⟨v1, rfl, hR1, hB1⟩; have HR1 := Aside0.mk hR1; have HB1 := Aside0.mk (below_then (below_alloc (Below.refl w.heap.size w) _) (by simp) hB1); clear hR1 hB1; obtain ⟨A1, c1, e1⟩ := Kd.R_slice HR1.out; subst e1) | (go_at_call 15; (refine (slices_Equal_byte_byte.calls 10 A1 c1 [1, 97, 0, 101, 0, 99] (some ⟨w1.heap.size, 0, none⟩) 6 [1, 97, 0, 101, 0, 99] true _ ?sa ?sb ?sc ?sd aw10Eq).mono ?_); (case sa => exact (Kd.C_below (Kd.R_reads' HR1.out).2.2 (below_alloc (Below.refl w1.heap.size w1) _))); (case sb => exact (Kd.R_reads' HR1.out).2.1); (case sc => exact lit_C (w := w1) (0, 0) [1, 97, 0, 101, 0, 99] (by decide)); (case sd => exact Nat.le_refl _); rintro e w3 ⟨rfl, m3, rfl⟩))
  go_ret
  exact ⟨rfl, by repeat (first | exact HB1.out | apply pw_below_drewN | apply below_drew1 | apply below_alloc)⟩
end Go.Proofs.Ytagpdfekeppbgaa.X
