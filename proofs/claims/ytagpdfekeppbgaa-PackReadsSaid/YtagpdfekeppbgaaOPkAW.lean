/- One part of the proofs about layer 2: the awake of layer 2. No condition.
   (Lines that the kit's print wrote for this claim, and walks of ours, as one text of our own: not a printed one.) -/
import Derived.Test.YtagpdfekeppbgaaProg
import Derived.Below
import Derived.Deep.Draws
import Derived.Deep.AppendLies
import Derived.Maps.AppendAt
import Derived.OwnWalk
import Derived.Laws.BytesArg
import Derived.Laws.MakeOwn
import Derived.Laws.OwnMore
import Derived.Deep.OwnRows
import Derived.Tactics
import Derived.Lib.ConvBytes
import Derived.Laws.Slices
import Derived.WalkKit
import Derived.KernelRfl
import Derived.RowKit3
import Derived.Deep.LoopGhost
import Derived.Deep.QuietTactic
import Derived.BigQuiet
import Derived.WideLaws
import Derived.Deep.DeepCutAuto
import Derived.Deep.CutBlock
import Derived.Deep.RegionHeld3
import Derived.Laws.Rows
import Derived.Lib.AppendStr
import Derived.ArgAppend
import Derived.Laws.IdiomCopy
import Derived.OrdersHeld
import Derived.Laws.BitsLemmas
import Derived.RowKit
import Derived.Test.YtagpdfekeppbgaaWWords
import Derived.Test.YtagpdfekeppbgaaWLast
import Derived.Test.YtagpdfekeppbgaaWTab
import Derived.Test.YtagpdfekeppbgaaWFour
import Derived.Test.YtagpdfekeppbgaaWQPut
import Derived.Test.YtagpdfekeppbgaaWApart
import Derived.Test.YtagpdfekeppbgaaWArr
import Derived.Test.YtagpdfekeppbgaaWZeros
import Derived.Test.YtagpdfekeppbgaaWFoot
import Derived.Test.YtagpdfekeppbgaaWKept
import Derived.Test.YtagpdfekeppbgaaWShare
import Derived.Test.YtagpdfekeppbgaaWN
import Derived.Test.YtagpdfekeppbgaaWFootNe
import Derived.Test.YtagpdfekeppbgaaWAt
import Derived.Test.YtagpdfekeppbgaaWEqStruct
import Derived.Test.YtagpdfekeppbgaaWRepsOne
import Derived.Test.YtagpdfekeppbgaaWInv
import Derived.Test.YtagpdfekeppbgaaWInvWords
import Derived.Test.YtagpdfekeppbgaaWGuard
import Derived.Test.YtagpdfekeppbgaaWNEv
import Derived.Test.YtagpdfekeppbgaaWMore
import Derived.WalkSpells
import Derived.Outline
import Derived.Laws.CopyOwn
import Derived.Test.YtagpdfekeppbgaaOPkW
import Derived.Lib.SlBytesConst
namespace Go.Proofs.Ytagpdfekeppbgaa.X
open Go.RowKit Go.Proofs.YtagpdfekeppbgaaW.PrintWords Go.Proofs.YtagpdfekeppbgaaW.PrintLast Go.Proofs.YtagpdfekeppbgaaW.PrintMore
attribute [local go_sem] max2_int min2_int max_two min_two max_three min_three max_four min_four
set_option linter.unusedVariables false
set_option linter.unusedSimpArgs false
theorem awNum : pack_Num.f 3 [] 300 = some [130, 44] := by decide +kernel
theorem lit_C {w : World} {e : TypeId} {k : IntKind} (fr : Nat × Nat) (xs : List Int) (hl : xs.length ≤ 9223372036854775807) :
    Kd.C (Kd.int k) (w.alloc (.cells (xs.map (Value.int k)).toArray e fr)) (some ⟨w.heap.size, 0, none⟩) xs.length xs := by
  refine Kd.C_of_reads (d := 0) ⟨rfl, hl, fun _ => ⟨_, rfl, fun j hj => ?_⟩⟩
  rw [add_plain, World.cell?_alloc_mark]
  simp [List.getD_eq_getElem?_getD, List.getElem?_eq_getElem hj]
theorem nil_C {w : World} {k : IntKind} : Kd.C (Kd.int k) w none ([] : List Int).length [] := ⟨rfl, by simp, fun h => by simp at h⟩
theorem awEq : slices_Equal_byte_byte.f 4 [130, 44] [130, 44] = some true := by decide +kernel
theorem awOpen : pack_Open.f [128, 1] = some ([128, 1], 0, 0) := by decide +kernel
theorem awRd : pack_Reader_Num.f [128, 1] 0 0 9 = some (0, 0, 3) := by decide +kernel
def baileylaw02_awake.f : Option Bool := some true
set_option maxHeartbeats 1000000 in
theorem baileylaw02_awake.calls (r : Bool) (w : World) (h : baileylaw02_awake.f = some r) :
    Calls Try.prog 16 #[] w fun e w' => e = .returned (.bool r) ∧ Below w.heap.size w w' := by
  obtain rfl := Option.some.inj h
  clear h
  go_enter Try.func16, Try.ntmps16
  go_wp2_with (first | (go_at_call 18; refine (pack_Num.calls 3 none 0 [] 300 [130, 44] _ nil_C (Nat.le_refl _) awNum).mono ?_; rintro e w1 ⟨v, rfl, hR1, hB1⟩; have HR1 := Aside0.mk hR1; have HB1 := Aside0.mk hB1; clear hR1 hB1; obtain ⟨A1, c1, e1⟩ := Kd.R_slice HR1.out; subst e1) | ((with_reducible refine gate_dst (N := 2) rfl ?_); (try (refine gate_guard (by rfl) ?_; dsimp only)); refine Kd.R_lit (Kd.int .u8) _ 5 ?hg (N := 2) ?hd (xs := ([130, 44] : List Int)) (inner := [.int .u8 130, .int .u8 44]) (ok := fun _ => True) (okp := fun _ => True) ?hr ?hp (fun _ hk => hk) trivial (Below.refl _ _) (Nat.le_refl _) (by simp) ?_; (case hd => rfl); (case hg => rfl); (case hr => first | (go_simp; done) | (go_simp; rfl)); (case hp => exact (Reps.one (show Kd.M (Kd.int .u8) _ _ _ 130 [.int .u8 130] from rfl) (Reps.one (show Kd.M (Kd.int .u8) _ _ _ 44 [.int .u8 44] from rfl) (Reps.none _ _)))); intro v2 w2 ho2 hb2 hg_ hnew_; clear hg_ hnew_; have HR2 := Aside0.mk ho2; have HB2 := Aside0.mk hb2; clear ho2 hb2; obtain ⟨A2, c2, e2⟩ := Kd.R_slice HR2.out; subst e2) | (go_at_call 15; refine (slices_Equal_byte_byte.calls 4 A1 c1 [130, 44] A2 c2 [130, 44] true _ (Kd.R_reads' (Kd.R_elder HR1.out HR2.out HB2.out)).2.2 (Kd.R_reads' HR1.out).2.1 (Kd.R_reads' HR2.out).2.2 (Kd.R_reads' HR2.out).2.1 awEq).mono ?_; rintro e w3 ⟨rfl, m3, rfl⟩) | (go_at_call 26; refine (pack_Open.calls (some ⟨w2.heap.size, 0, none⟩) 2 [128, 1] [128, 1] 0 0 w _ ?sb (lit_C (w := w2.drewN m3) (0, 0) [128, 1] (by decide)) (Nat.le_refl _) awOpen).mono ?_; (case sb => exact below_alloc (pw_below_drewN (below_then HB1.out HB1.out.size HB2.out) _) _); rintro e w5 ⟨g, rfl, hI5, hB5, hb5⟩; have HI5 := Aside0.mk hI5; have HB5 := Aside0.mk hB5; clear hI5 hB5 hb5) | (go_at_call 27; refine (pack_Reader_Num.calls g [128, 1] 0 0 9 0 0 3 w _ HI5.out HB5.out awRd).mono ?_; rintro e w6 ⟨rfl, hI6, hB6, hK6⟩))
  go_ret
  exact ⟨rfl, hB6⟩
end Go.Proofs.Ytagpdfekeppbgaa.X
