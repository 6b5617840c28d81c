/- One part of the proofs about layer 2: a reader that no call made. No condition.
   (Lines that the kit's print wrote for this claim, and walks of ours, as one text of our own: not a printed one.) -/
import Derived.Test.YtagpdfekeppbgaaProg
import Derived.Below
import Derived.Deep.Draws
import Derived.Deep.AppendLies
import Derived.Maps.AppendAt
import Derived.OwnWalk
import Derived.Laws.BytesArg
import Derived.Laws.MakeOwn
import Derived.Laws.OwnMore
import Derived.Deep.OwnRows
import Derived.Tactics
import Derived.Lib.ConvBytes
import Derived.Laws.Slices
import Derived.WalkKit
import Derived.KernelRfl
import Derived.RowKit3
import Derived.Deep.LoopGhost
import Derived.Deep.QuietTactic
import Derived.BigQuiet
import Derived.WideLaws
import Derived.Deep.DeepCutAuto
import Derived.Deep.CutBlock
import Derived.Deep.RegionHeld3
import Derived.Laws.Rows
import Derived.Lib.AppendStr
import Derived.ArgAppend
import Derived.Laws.IdiomCopy
import Derived.OrdersHeld
import Derived.Laws.BitsLemmas
import Derived.RowKit
import Derived.Test.YtagpdfekeppbgaaWWords
import Derived.Test.YtagpdfekeppbgaaWLast
import Derived.Test.YtagpdfekeppbgaaWTab
import Derived.Test.YtagpdfekeppbgaaWFour
import Derived.Test.YtagpdfekeppbgaaWQPut
import Derived.Test.YtagpdfekeppbgaaWApart
import Derived.Test.YtagpdfekeppbgaaWArr
import Derived.Test.YtagpdfekeppbgaaWZeros
import Derived.Test.YtagpdfekeppbgaaWFoot
import Derived.Test.YtagpdfekeppbgaaWKept
import Derived.Test.YtagpdfekeppbgaaWShare
import Derived.Test.YtagpdfekeppbgaaWN
import Derived.Test.YtagpdfekeppbgaaWFootNe
import Derived.Test.YtagpdfekeppbgaaWAt
import Derived.Test.YtagpdfekeppbgaaWEqStruct
import Derived.Test.YtagpdfekeppbgaaWRepsOne
import Derived.Test.YtagpdfekeppbgaaWInv
import Derived.Test.YtagpdfekeppbgaaWInvWords
import Derived.Test.YtagpdfekeppbgaaWGuard
import Derived.Test.YtagpdfekeppbgaaWNEv
import Derived.Test.YtagpdfekeppbgaaWMore
import Derived.WalkSpells
import Derived.Outline
import Derived.Laws.CopyOwn
import Derived.Test.YtagpdfekeppbgaaOPkAW
import Derived.Lib.SlBytesConst
namespace Go.Proofs.Ytagpdfekeppbgaa.X
open Go.RowKit Go.Proofs.YtagpdfekeppbgaaW.PrintWords Go.Proofs.YtagpdfekeppbgaaW.PrintLast Go.Proofs.YtagpdfekeppbgaaW.PrintMore
attribute [local go_sem] max2_int min2_int max_two min_two max_three min_three max_four min_four
set_option linter.unusedVariables false
set_option linter.unusedSimpArgs false
/-- A reader that no call made: nil, or one whose flag is not set. -/
def Dead (w : World) (p : Option Addr) : Prop := p = none ∨ ∃ g, p = some ⟨g, 0, none⟩ ∧ w.cell? ⟨g, 2, none⟩ = some (.bool false)
theorem Dead.drewN {w : World} {p : Option Addr} (h : Dead w p) (m : Nat) : Dead (w.drewN m) p := by
  rcases h with rfl | ⟨g, rfl, hc⟩
  · exact .inl rfl
  · exact .inr ⟨g, rfl, hc⟩
set_option maxHeartbeats 1000000 in
theorem dead_works (p : Option Addr) (w : World) (h : Dead w p) : Calls Try.prog 55 #[.pointer p] w fun e w' => e = .returned (.bool false) ∧ Drawn0 w w' := by
  rcases h with rfl | ⟨g, rfl, hc⟩
  · go_enter Try.func55, Try.ntmps55
    go_wp2
    go_ret
    exact ⟨rfl, 0, rfl⟩
  · go_enter Try.func55, Try.ntmps55
    go_wp2
    go_ret
    exact ⟨rfl, 0, rfl⟩
set_option maxHeartbeats 1000000 in
theorem dead_Fail (p : Option Addr) (a1 : Int) (w : World) (h : Dead w p) : Calls Try.prog 30 #[.pointer p, .int .i64 a1] w fun e w' => e = .returned (.tuple #[]) ∧ Drawn0 w w' := by
  have HD := Aside0.mk h
  clear h
  go_enter Try.func30, Try.ntmps30
  go_wp2_with (first | (go_at_call 55; refine (dead_works p _ HD.out).mono ?_; rintro e w1 ⟨rfl, m, rfl⟩))
  first | go_end0 | ((try simp only [Exit.inBlock, Exit.then]); refine bodyPost_ret (results_none rfl _ _ _) rfl ?_)
  exact ⟨rfl, _, rfl⟩
set_option maxHeartbeats 1000000 in
theorem dead_Num (p : Option Addr) (a1 : Int) (w : World) (h : Dead w p) : Calls Try.prog 27 #[.pointer p, .int .i64 a1] w fun e w' => e = .returned (.int .i64 0) ∧ Drawn0 w w' := by
  have HD := Aside0.mk h
  clear h
  go_enter Try.func27, Try.ntmps27
  go_wp2_with (first | (go_at_call 55; refine (dead_works p _ HD.out).mono ?_; rintro e w1 ⟨rfl, m, rfl⟩))
  go_ret
  exact ⟨rfl, _, rfl⟩
set_option maxHeartbeats 1000000 in
theorem dead_Text (p : Option Addr) (a1 : Int) (w : World) (h : Dead w p) : Calls Try.prog 31 #[.pointer p, .int .i64 a1] w fun e w' => e = .returned (.string ⟨#[]⟩) ∧ Drawn0 w w' := by
  have HD := Aside0.mk h
  clear h
  go_enter Try.func31, Try.ntmps31
  go_wp2_with (first | (go_at_call 27; refine (dead_Num p a1 _ HD.out).mono ?_; rintro e w1 ⟨rfl, m1, rfl⟩) | (go_at_call 55; refine (dead_works p _ (HD.out.drewN _)).mono ?_; rintro e w2 ⟨rfl, m2, rfl⟩))
  go_ret
  exact ⟨rfl, m1 + m2, rfl⟩
set_option maxHeartbeats 1000000 in
theorem dead_Yes (p : Option Addr) (w : World) (h : Dead w p) : Calls Try.prog 32 #[.pointer p] w fun e w' => e = .returned (.bool false) ∧ Drawn0 w w' := by
  have HD := Aside0.mk h
  clear h
  go_enter Try.func32, Try.ntmps32
  go_wp2_with (first | (go_at_call 55; refine (dead_works p _ HD.out).mono ?_; rintro e w1 ⟨rfl, m, rfl⟩))
  go_ret
  exact ⟨rfl, _, rfl⟩
set_option maxHeartbeats 1000000 in
theorem dead_Left (p : Option Addr) (w : World) (h : Dead w p) : Calls Try.prog 29 #[.pointer p] w fun e w' => e = .returned (.int .i64 0) ∧ Drawn0 w w' := by
  have HD := Aside0.mk h
  clear h
  go_enter Try.func29, Try.ntmps29
  go_wp2_with (first | (go_at_call 55; refine (dead_works p _ HD.out).mono ?_; rintro e w1 ⟨rfl, m, rfl⟩))
  go_ret
  exact ⟨rfl, _, rfl⟩
set_option maxHeartbeats 1000000 in
theorem dead_Err (p : Option Addr) (w : World) (h : Dead w p) : Calls Try.prog 28 #[.pointer p] w fun e w' => e = .returned (.int .i64 2) ∧ Drawn0 w w' := by
  rcases h with rfl | ⟨g, rfl, hc⟩
  · go_enter Try.func28, Try.ntmps28
    go_wp2
    go_ret
    exact ⟨rfl, 0, rfl⟩
  · go_enter Try.func28, Try.ntmps28
    go_wp2
    go_ret
    exact ⟨rfl, 0, rfl⟩
set_option maxHeartbeats 1000000 in
theorem dead_End (p : Option Addr) (w : World) (h : Dead w p) : Calls Try.prog 33 #[.pointer p] w fun e w' => e = .returned (.int .i64 2) ∧ Drawn0 w w' := by
  have HD := Aside0.mk h
  clear h
  go_enter Try.func33, Try.ntmps33
  go_wp2_with (first | (go_at_call 29; refine (dead_Left p _ HD.out).mono ?_; rintro e w1 ⟨rfl, m1, rfl⟩) | (go_at_call 28; refine (dead_Err p _ (HD.out.drewN _)).mono ?_; rintro e w2 ⟨rfl, m2, rfl⟩))
  go_ret
  exact ⟨rfl, m1 + m2, rfl⟩
end Go.Proofs.Ytagpdfekeppbgaa.X
