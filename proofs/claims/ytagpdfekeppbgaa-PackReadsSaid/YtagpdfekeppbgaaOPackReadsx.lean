/- One part of the proofs about layer 2: the statement PackReads itself: a plain Lean function of the same answers and the walk that shows it. No condition.
   (Lines that the kit's print wrote for this claim, and walks of ours, as one text of our own: not a printed one.) -/
import Derived.Test.YtagpdfekeppbgaaProg
import Derived.Below
import Derived.Deep.Draws
import Derived.Deep.AppendLies
import Derived.Maps.AppendAt
import Derived.OwnWalk
import Derived.Laws.BytesArg
import Derived.Laws.MakeOwn
import Derived.Laws.OwnMore
import Derived.Deep.OwnRows
import Derived.Tactics
import Derived.Lib.ConvBytes
import Derived.Laws.Slices
import Derived.WalkKit
import Derived.KernelRfl
import Derived.RowKit3
import Derived.Deep.LoopGhost
import Derived.Deep.QuietTactic
import Derived.BigQuiet
import Derived.WideLaws
import Derived.Deep.DeepCutAuto
import Derived.Deep.CutBlock
import Derived.Deep.RegionHeld3
import Derived.Laws.Rows
import Derived.Lib.AppendStr
import Derived.ArgAppend
import Derived.Laws.IdiomCopy
import Derived.OrdersHeld
import Derived.Laws.BitsLemmas
import Derived.RowKit
import Derived.Test.YtagpdfekeppbgaaWWords
import Derived.Test.YtagpdfekeppbgaaWLast
import Derived.Test.YtagpdfekeppbgaaWTab
import Derived.Test.YtagpdfekeppbgaaWFour
import Derived.Test.YtagpdfekeppbgaaWQPut
import Derived.Test.YtagpdfekeppbgaaWApart
import Derived.Test.YtagpdfekeppbgaaWArr
import Derived.Test.YtagpdfekeppbgaaWZeros
import Derived.Test.YtagpdfekeppbgaaWFoot
import Derived.Test.YtagpdfekeppbgaaWKept
import Derived.Test.YtagpdfekeppbgaaWShare
import Derived.Test.YtagpdfekeppbgaaWN
import Derived.Test.YtagpdfekeppbgaaWFootNe
import Derived.Test.YtagpdfekeppbgaaWAt
import Derived.Test.YtagpdfekeppbgaaWEqStruct
import Derived.Test.YtagpdfekeppbgaaWRepsOne
import Derived.Test.YtagpdfekeppbgaaWInv
import Derived.Test.YtagpdfekeppbgaaWInvWords
import Derived.Test.YtagpdfekeppbgaaWGuard
import Derived.Test.YtagpdfekeppbgaaWNEv
import Derived.Test.YtagpdfekeppbgaaWMore
import Derived.WalkSpells
import Derived.Outline
import Derived.Laws.CopyOwn
import Derived.Test.YtagpdfekeppbgaaOPkPR2
import Derived.Lib.SlBytesConst
namespace Go.Proofs.Ytagpdfekeppbgaa.X
open Go.ChangeShapes Go.WideShapes Go.RowKit Go.Proofs.YtagpdfekeppbgaaW.PrintWords Go.Proofs.YtagpdfekeppbgaaW.PrintLast Go.Proofs.YtagpdfekeppbgaaW.PrintMore
attribute [local go_sem] max2_int min2_int max_two min_two max_three min_three max_four min_four
set_option linter.unusedVariables false
set_option linter.unusedSimpArgs false
/-- A row of calls: each is of a kind, with a number. -/
def DoRow (W : World) (A : Option Addr) (n : Nat) : Prop := ((n : Int) ≤ 9223372036854775807) ∧ ∀ i, i < n → ∃ a p q, A = some a ∧ W.cell? (a.add (i * 2)) = some (.int .i64 p) ∧ W.cell? ⟨(a.add (i * 2)).block, (a.add (i * 2)).off + 1, none⟩ = some (.int .i64 q)
theorem open_dos {H : Type} {enc : TypeId × Value → H} {W : World} {base : Nat} {spare : Nat → Bool} {held : Bool} {fuel : Nat} {cs : List Value} {x : DataW H × List MemPlace} {A : Option Addr} {n c : Nat}
    (h : DataW.trod enc Try.prog W base spare held fuel 45 cs = some x) (hcs : cs = [.slice A n c]) : DoRow W A n := by
  rcases DataW.trod_slice Try.underlying45 h with ⟨e, _⟩ | ⟨a, len, cap, elems, rest, m, _, e, _, _, hl, hm, hlen, hel, _⟩
  · rw [hcs] at e
    simp at e
    obtain ⟨rfl, rfl, rfl⟩ := e
    exact ⟨by decide, fun i hi => by omega⟩
  · rw [hcs] at e
    simp at e
    obtain ⟨rfl, rfl, rfl⟩ := e
    refine ⟨by unfold maxLen at hm; omega, fun i hi => ?_⟩
    have h1 := hel i hi
    have hc2 : Try.prog.cellsOf 49 = 2 := by kernel_rfl
    rw [hc2] at h1
    have hi2 : i < elems.length := by omega
    rw [List.getElem?_eq_getElem hi2, Option.bind_eq_some_iff] at h1
    obtain ⟨cs1, h2, h3⟩ := h1
    obtain ⟨_, hl2, hcell⟩ := World.cells?_some h2
    obtain ⟨y0, y1, n0, _, _, f0, f1⟩ := trod_struct2 Try.underlying49 h3
    obtain ⟨v0, v1, rfl⟩ : ∃ v0 v1, cs1 = [v0, v1] := by
      match cs1, hl2 with
      | [v0, v1], _ => exact ⟨v0, v1, rfl⟩
    have hc3 : Try.prog.cellsOf 3 = 1 := by kernel_rfl
    simp only [hc3] at f0 f1
    obtain ⟨p, e0, _, _⟩ := DataW.trod_int Try.underlying3 f0
    obtain ⟨q, e1, _, _⟩ := DataW.trod_int Try.underlying3 f1
    simp at e0 e1
    subst e0 e1
    have c0 := hcell 0 (by omega)
    have c1 := hcell 1 (by omega)
    refine ⟨a, p, q, rfl, ?_, ?_⟩
    · simpa [Addr.add] using c0
    · simpa [Addr.add] using c1
theorem baileylaw02_PackReads.walk (a0 : Option Addr) (len0 cap0 : Nat) (z0 : List Int) (a1 : Option Addr) (len1 cap1 : Nat) (w : World) (w0 : (a0 = none ∧ len0 = 0 ∧ cap0 = 0 ∧ z0 = []) ∨ ∃ x, a0 = some x ∧ len0 ≤ cap0 ∧ cap0 ≤ maxLen ∧ z0.length = cap0 ∧ (∀ i, i < z0.length → w.cell? (x.add i) = some (.int .u8 (z0.getD i 0))) ∧ ∀ n ∈ z0, (Lit.int .u8 n).wf = true) (y0 : len0 * 1 ≤ 140737488351232) (w1 : DoRow w a1 len1) :
    Calls Try.prog 8 #[.slice a0 len0 cap0, .slice a1 len1 cap1] w fun e w' => e = .returned (.bool true) ∧ Below w.heap.size w w' := by
  obtain ⟨l0, rfl, hr0, hm0, hw0, hc0⟩ := ReadsInt.ofRowC w0
  exact baileylaw02_PackReads.calls _ _ l0 a1 len1 cap1 w (Kd.C_of_reads (d := (0 : Int)) (h1 := fun _ => rfl) hr0) hc0 (fun x hx => (b8X (hw0 x hx)).1) w1.2 w1.1
end Go.Proofs.Ytagpdfekeppbgaa.X
