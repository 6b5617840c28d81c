/- One part of the proofs about layer 2: the statement FrameSeals itself: a plain Lean function of the same answers and the walk that shows it. No condition.
   (Lines that the kit's print wrote for this claim, and walks of ours, as one text of our own: not a printed one.) -/
import Derived.Test.YtagpdfekeppbgaaProg
import Derived.Below
import Derived.Deep.Draws
import Derived.Deep.AppendLies
import Derived.Maps.AppendAt
import Derived.OwnWalk
import Derived.Laws.BytesArg
import Derived.Laws.MakeOwn
import Derived.Laws.OwnMore
import Derived.Deep.OwnRows
import Derived.Tactics
import Derived.Lib.ConvBytes
import Derived.Laws.Slices
import Derived.WalkKit
import Derived.KernelRfl
import Derived.RowKit3
import Derived.Deep.LoopGhost
import Derived.Deep.QuietTactic
import Derived.BigQuiet
import Derived.WideLaws
import Derived.Deep.DeepCutAuto
import Derived.Deep.CutBlock
import Derived.Deep.RegionHeld3
import Derived.Laws.Rows
import Derived.Lib.AppendStr
import Derived.ArgAppend
import Derived.Laws.IdiomCopy
import Derived.OrdersHeld
import Derived.Laws.BitsLemmas
import Derived.RowKit
import Derived.Test.YtagpdfekeppbgaaWWords
import Derived.Test.YtagpdfekeppbgaaWLast
import Derived.Test.YtagpdfekeppbgaaWTab
import Derived.Test.YtagpdfekeppbgaaWFour
import Derived.Test.YtagpdfekeppbgaaWQPut
import Derived.Test.YtagpdfekeppbgaaWApart
import Derived.Test.YtagpdfekeppbgaaWArr
import Derived.Test.YtagpdfekeppbgaaWZeros
import Derived.Test.YtagpdfekeppbgaaWFoot
import Derived.Test.YtagpdfekeppbgaaWKept
import Derived.Test.YtagpdfekeppbgaaWShare
import Derived.Test.YtagpdfekeppbgaaWN
import Derived.Test.YtagpdfekeppbgaaWFootNe
import Derived.Test.YtagpdfekeppbgaaWAt
import Derived.Test.YtagpdfekeppbgaaWEqStruct
import Derived.Test.YtagpdfekeppbgaaWRepsOne
import Derived.Test.YtagpdfekeppbgaaWInv
import Derived.Test.YtagpdfekeppbgaaWInvWords
import Derived.Test.YtagpdfekeppbgaaWGuard
import Derived.Test.YtagpdfekeppbgaaWNEv
import Derived.Test.YtagpdfekeppbgaaWMore
import Derived.WalkSpells
import Derived.Outline
import Derived.Laws.CopyOwn
import Derived.Test.YtagpdfekeppbgaaOPkFS
import Derived.Lib.SlBytesConst
namespace Go.Proofs.Ytagpdfekeppbgaa.X
open Go.RowKit Go.Proofs.YtagpdfekeppbgaaW.PrintWords Go.Proofs.YtagpdfekeppbgaaW.PrintLast Go.Proofs.YtagpdfekeppbgaaW.PrintMore
attribute [local go_sem] max2_int min2_int max_two min_two max_three min_three max_four min_four
set_option linter.unusedVariables false
set_option linter.unusedSimpArgs false
theorem C_new {w : World} {n : Nat} (h : n ≤ 9223372036854775807) : Kd.C (Kd.int .u8) (w.alloc (.cells (Array.replicate n (Value.int .u8 0)) 5)) (some ⟨w.heap.size, 0, none⟩) (List.replicate n (0 : Int)).length (List.replicate n (0 : Int)) := by
  have := lit_C (w := w) (e := 5) (k := .u8) (0, 0) (List.replicate n (0 : Int)) (by simpa using h)
  rw [List.map_replicate, List.toArray_replicate] at this
  exact this
theorem make_new (n : Nat) (hn : n ≤ 140737488355328) (w : World) : (Instr.makeSlice 22 (.int .i64 (n : Int)) (.int .i64 (n : Int))).run Try.prog w = .ok (.slice (some ⟨w.heap.size, 0, none⟩) n n) (w.alloc (.cells (Array.replicate n (Value.int .u8 0)) 5)) := by
  obtain ⟨i0, hi, hzz⟩ := Option.map_eq_some_iff.1 info5
  simp only [Prod.mk.injEq] at hzz
  obtain ⟨hz0, hz1, hz2⟩ := hzz
  have h2 := run_make (P := Try.prog) w 22 5 i0 (.int .u8 0) Try.underlying22 hi hz0 .i64 .i64 (n : Int) (n : Int) (by omega) (by omega) (by rw [hz2]; omega) (by omega)
  rw [h2, hz1, Int.toNat_natCast, Nat.mul_one]
  congr 3
  apply Array.ext
  · simp [madeCells]
  · intro j h1 h2; simp [madeCells, Value.cells] at *
    simp [Nat.mod_one]
theorem seal13 (k : Nat) (A0 : Option Addr) (n c0 : Nat) (l0 : List Int) (r1 : List Int) (r2 : Int) (w : World) (hn : n = l0.length) (hr0 : Kd.C (Kd.int .u8) w A0 l0.length l0) (hc0 : l0.length ≤ c0) (h : frame_Seal.f k l0 = some (r1, r2)) :
    Calls Try.prog 13 #[.slice A0 n c0] w fun e w' => ∃ v0_ : Value, e = .returned (.tuple #[v0_, .int .i64 r2]) ∧ Kd.R (Kd.int .u8) 5 w' w.heap.size (fun _ => True) v0_ r1 ∧ Below w.heap.size w w' := by
  subst hn; exact frame_Seal.calls k A0 c0 l0 r1 r2 w hr0 hc0 h
theorem seal14 (k : Nat) (A0 : Option Addr) (n c0 : Nat) (l0 : List Int) (r1 : List Int) (r2 : Int) (w : World) (hn : n = l0.length) (hr0 : Kd.C (Kd.int .u8) w A0 l0.length l0) (hc0 : l0.length ≤ c0) (h : baileyref10_Seal.f k l0 = some (r1, r2)) :
    Calls Try.prog 14 #[.slice A0 n c0] w fun e w' => ∃ v0_ : Value, e = .returned (.tuple #[v0_, .int .i64 r2]) ∧ Kd.R (Kd.int .u8) 5 w' w.heap.size (fun _ => True) v0_ r1 ∧ Below w.heap.size w w' := by
  subst hn; exact baileyref10_Seal.calls k A0 c0 l0 r1 r2 w hr0 hc0 h
set_option maxHeartbeats 2000000 in
set_option maxRecDepth 100000 in
theorem baileylaw10_FrameSeals.calls (A0 : Option Addr) (c0 : Nat) (l0 : List Int) (a1 : Int) (w : World) (hr0 : Kd.C (Kd.int .u8) w A0 l0.length l0) (hc0 : l0.length ≤ c0) :
    Calls Try.prog 3 #[.slice A0 l0.length c0, .int .i64 a1] w fun e w' => e = .returned (.bool true) ∧ Below w.heap.size w w' := by
  have HR0 := Aside0.mk hr0
  have HC0 := Aside0.mk hc0
  clear hr0 hc0
  by_cases hn : 262144 < a1 ∧ a1 < 262244
  · obtain ⟨n, rfl⟩ := Int.eq_ofNat_of_zero_le (show 0 ≤ a1 by omega)
    obtain ⟨r, er, s1, s2, s3⟩ := Ad.seal_both (List.replicate n (0 : Int)) (by simp; omega) 1000000 (Nat.le_refl _)
    have S1 := Aside0.mk s1
    have S2 := Aside0.mk s2
    have S3 := Aside0.mk (eq_same r (by omega) 1000000 (by omega))
    have b1 : decide (262144 < (n : Int)) = true := decide_eq_true hn.1
    have b2 : decide ((n : Int) < 262244) = true := decide_eq_true hn.2
    have b3 : decide (262244 < (n : Int)) = false := decide_eq_false (by omega)
    have b4 : decide (262144 < n) = true := decide_eq_true (by omega)
    have b5 : decide (n < 262244) = true := decide_eq_true (by omega)
    have b6 : decide (262244 < n) = false := decide_eq_false (by omega)
    have hmk := make_new n (by omega)
    have HN := Aside0.mk hn
    clear s1 s2 s3 hn
    have HCn := Aside0.mk (C_new (w := w) (n := n) (by have := HN.out; omega))
    have HLn := Aside0.mk (show n = (List.replicate n (0 : Int)).length from List.length_replicate.symm)
    have HLc := Aside0.mk (show (List.replicate n (0 : Int)).length ≤ n from Nat.le_of_eq List.length_replicate)
    generalize List.replicate n (0 : Int) = L at *
    go_enter Try.func3, Try.ntmps3
    go_wp2_with (first | (go_at_call 12; refine (baileylaw10_awake.calls _).mono ?_; rintro e w9 ⟨rfl, hB9⟩) | (go_at_call 13; refine (seal13 1000000 _ n n L r er _ HLn.out HCn.out HLc.out S1.out).mono ?_; rintro e w1 ⟨v1, rfl, hR1, hB1⟩; have HR1 := Aside0.mk hR1; have HX1 := Aside0.mk hB1; have HB1 := Aside0.mk (below_then (below_alloc (Below.refl w.heap.size w) _) (by simp) hB1); clear hR1 hB1; obtain ⟨A1, c1, e1⟩ := Kd.R_slice HR1.out; subst e1) | (go_at_call 14; refine (seal14 1000000 _ n n L r er _ HLn.out (Kd.C_below HCn.out HX1.out) HLc.out S2.out).mono ?_; rintro e w2 ⟨v2, rfl, hR2, hB2⟩; have HR2 := Aside0.mk hR2; have HB2 := Aside0.mk hB2; clear hR2 hB2; obtain ⟨A2, c2, e2⟩ := Kd.R_slice HR2.out; subst e2) | (go_at_call 15; refine (slices_Equal_byte_byte.calls 1000000 A1 c1 r A2 c2 r true _ (Kd.C_below (Kd.R_reads' HR1.out).2.2 HB2.out) (Kd.R_reads' HR1.out).2.1 (Kd.R_reads' HR2.out).2.2 (Kd.R_reads' HR2.out).2.1 S3.out).mono ?_; rintro e w3 ⟨rfl, m3, rfl⟩))
    go_ret
    exact ⟨rfl, below_then (pw_below_drewN (below_then HB1.out HB1.out.size HB2.out) m3) (Nat.le_trans HB1.out.size HB2.out.size) hB9⟩
  · by_cases hl : (l0.length : Int) > 262244
    · have d1 : decide ((l0.length : Int) > 262244) = true := decide_eq_true hl
      have d2 : decide (262244 < (l0.length : Int)) = true := decide_eq_true hl
      have d3 : decide (262244 < l0.length) = true := decide_eq_true (by omega)
      by_cases h1 : 262144 < a1
      · have b1 : decide (262144 < a1) = true := decide_eq_true h1
        have b2 : decide (a1 < 262244) = false := decide_eq_false (by omega)
        clear hn h1 hl
        go_enter Try.func3, Try.ntmps3
        go_wp2_with (first | (go_at_call 12; refine (baileylaw10_awake.calls _).mono ?_; rintro e w9 ⟨rfl, hB9⟩))
        go_ret
        exact ⟨rfl, hB9⟩
      · have b1 : decide (262144 < a1) = false := decide_eq_false h1
        clear hn h1 hl
        go_enter Try.func3, Try.ntmps3
        go_wp2_with (first | (go_at_call 12; refine (baileylaw10_awake.calls _).mono ?_; rintro e w9 ⟨rfl, hB9⟩))
        go_ret
        exact ⟨rfl, hB9⟩
    · have d1 : decide ((l0.length : Int) > 262244) = false := decide_eq_false hl
      have d2 : decide (262244 < (l0.length : Int)) = false := decide_eq_false hl
      have d3 : decide (262244 < l0.length) = false := decide_eq_false (by omega)
      obtain ⟨r, er, s1, s2, s3⟩ := Ad.seal_both l0 (by omega) 1000000 (Nat.le_refl _)
      have S1 := Aside0.mk s1
      have S2 := Aside0.mk s2
      have S3 := Aside0.mk (eq_same r (by omega) 1000000 (by omega))
      clear s1 s2 s3
      by_cases h1 : 262144 < a1
      · have b1 : decide (262144 < a1) = true := decide_eq_true h1
        have b2 : decide (a1 < 262244) = false := decide_eq_false (by omega)
        clear hn h1 hl
        go_enter Try.func3, Try.ntmps3
        go_wp2_with (first | (go_at_call 12; refine (baileylaw10_awake.calls _).mono ?_; rintro e w9 ⟨rfl, hB9⟩) | (go_at_call 13; refine (frame_Seal.calls 1000000 A0 c0 l0 r er _ HR0.out HC0.out S1.out).mono ?_; rintro e w1 ⟨v1, rfl, hR1, hB1⟩; have HR1 := Aside0.mk hR1; have HB1 := Aside0.mk hB1; clear hR1 hB1; obtain ⟨A1, c1, e1⟩ := Kd.R_slice HR1.out; subst e1) | (go_at_call 14; refine (baileyref10_Seal.calls 1000000 A0 c0 l0 r er _ (Kd.C_below HR0.out HB1.out) HC0.out S2.out).mono ?_; rintro e w2 ⟨v2, rfl, hR2, hB2⟩; have HR2 := Aside0.mk hR2; have HB2 := Aside0.mk hB2; clear hR2 hB2; obtain ⟨A2, c2, e2⟩ := Kd.R_slice HR2.out; subst e2) | (go_at_call 15; refine (slices_Equal_byte_byte.calls 1000000 A1 c1 r A2 c2 r true _ (Kd.C_below (Kd.R_reads' HR1.out).2.2 HB2.out) (Kd.R_reads' HR1.out).2.1 (Kd.R_reads' HR2.out).2.2 (Kd.R_reads' HR2.out).2.1 S3.out).mono ?_; rintro e w3 ⟨rfl, m3, rfl⟩))
        go_ret
        exact ⟨rfl, below_then (pw_below_drewN (below_then HB1.out HB1.out.size HB2.out) m3) (Nat.le_trans HB1.out.size HB2.out.size) hB9⟩
      · have b1 : decide (262144 < a1) = false := decide_eq_false h1
        clear hn h1 hl
        go_enter Try.func3, Try.ntmps3
        go_wp2_with (first | (go_at_call 12; refine (baileylaw10_awake.calls _).mono ?_; rintro e w9 ⟨rfl, hB9⟩) | (go_at_call 13; refine (frame_Seal.calls 1000000 A0 c0 l0 r er _ HR0.out HC0.out S1.out).mono ?_; rintro e w1 ⟨v1, rfl, hR1, hB1⟩; have HR1 := Aside0.mk hR1; have HB1 := Aside0.mk hB1; clear hR1 hB1; obtain ⟨A1, c1, e1⟩ := Kd.R_slice HR1.out; subst e1) | (go_at_call 14; refine (baileyref10_Seal.calls 1000000 A0 c0 l0 r er _ (Kd.C_below HR0.out HB1.out) HC0.out S2.out).mono ?_; rintro e w2 ⟨v2, rfl, hR2, hB2⟩; have HR2 := Aside0.mk hR2; have HB2 := Aside0.mk hB2; clear hR2 hB2; obtain ⟨A2, c2, e2⟩ := Kd.R_slice HR2.out; subst e2) | (go_at_call 15; refine (slices_Equal_byte_byte.calls 1000000 A1 c1 r A2 c2 r true _ (Kd.C_below (Kd.R_reads' HR1.out).2.2 HB2.out) (Kd.R_reads' HR1.out).2.1 (Kd.R_reads' HR2.out).2.2 (Kd.R_reads' HR2.out).2.1 S3.out).mono ?_; rintro e w3 ⟨rfl, m3, rfl⟩))
        go_ret
        exact ⟨rfl, below_then (pw_below_drewN (below_then HB1.out HB1.out.size HB2.out) m3) (Nat.le_trans HB1.out.size HB2.out.size) hB9⟩
theorem baileylaw10_FrameSeals.walk (a0 : Option Addr) (len0 cap0 : Nat) (z0 : List Int) (a1 : Int) (w : World) (w0 : (a0 = none ∧ len0 = 0 ∧ cap0 = 0 ∧ z0 = []) ∨ ∃ x, a0 = some x ∧ len0 ≤ cap0 ∧ cap0 ≤ maxLen ∧ z0.length = cap0 ∧ (∀ i, i < z0.length → w.cell? (x.add i) = some (.int .u8 (z0.getD i 0))) ∧ ∀ n ∈ z0, (Lit.int .u8 n).wf = true) (y0 : len0 * 1 ≤ 140737488351232) (w1 : (Lit.int .i64 a1).wf = true) :
    Calls Try.prog 3 #[.slice a0 len0 cap0, .int .i64 a1] w fun e w' => e = .returned (.bool true) ∧ Below w.heap.size w w' := by
  obtain ⟨l0, rfl, hr0, hm0, hw0, hc0⟩ := ReadsInt.ofRowC w0
  exact baileylaw10_FrameSeals.calls _ _ l0 a1 w (Kd.C_of_reads (d := (0 : Int)) (h1 := fun _ => rfl) hr0) hc0
end Go.Proofs.Ytagpdfekeppbgaa.X
