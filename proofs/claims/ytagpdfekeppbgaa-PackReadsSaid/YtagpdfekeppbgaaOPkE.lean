/- One part of the proofs about layer 2: the reader of pack: texts, what is left, the end, yes and no, the opening. No condition.
   (Lines that the kit's print wrote for this claim, and walks of ours, as one text of our own: not a printed one.) -/
import Derived.Test.YtagpdfekeppbgaaProg
import Derived.Below
import Derived.Deep.Draws
import Derived.Deep.AppendLies
import Derived.Maps.AppendAt
import Derived.OwnWalk
import Derived.Laws.BytesArg
import Derived.Laws.MakeOwn
import Derived.Laws.OwnMore
import Derived.Deep.OwnRows
import Derived.Tactics
import Derived.Lib.ConvBytes
import Derived.Laws.Slices
import Derived.WalkKit
import Derived.KernelRfl
import Derived.RowKit3
import Derived.Deep.LoopGhost
import Derived.Deep.QuietTactic
import Derived.BigQuiet
import Derived.WideLaws
import Derived.Deep.DeepCutAuto
import Derived.Deep.CutBlock
import Derived.Deep.RegionHeld3
import Derived.Laws.Rows
import Derived.Lib.AppendStr
import Derived.ArgAppend
import Derived.Laws.IdiomCopy
import Derived.OrdersHeld
import Derived.Laws.BitsLemmas
import Derived.RowKit
import Derived.Test.YtagpdfekeppbgaaWWords
import Derived.Test.YtagpdfekeppbgaaWLast
import Derived.Test.YtagpdfekeppbgaaWTab
import Derived.Test.YtagpdfekeppbgaaWFour
import Derived.Test.YtagpdfekeppbgaaWQPut
import Derived.Test.YtagpdfekeppbgaaWApart
import Derived.Test.YtagpdfekeppbgaaWArr
import Derived.Test.YtagpdfekeppbgaaWZeros
import Derived.Test.YtagpdfekeppbgaaWFoot
import Derived.Test.YtagpdfekeppbgaaWKept
import Derived.Test.YtagpdfekeppbgaaWShare
import Derived.Test.YtagpdfekeppbgaaWN
import Derived.Test.YtagpdfekeppbgaaWFootNe
import Derived.Test.YtagpdfekeppbgaaWAt
import Derived.Test.YtagpdfekeppbgaaWEqStruct
import Derived.Test.YtagpdfekeppbgaaWRepsOne
import Derived.Test.YtagpdfekeppbgaaWInv
import Derived.Test.YtagpdfekeppbgaaWInvWords
import Derived.Test.YtagpdfekeppbgaaWGuard
import Derived.Test.YtagpdfekeppbgaaWNEv
import Derived.Test.YtagpdfekeppbgaaWMore
import Derived.WalkSpells
import Derived.Outline
import Derived.Laws.CopyOwn
import Derived.Test.YtagpdfekeppbgaaOPkD
import Derived.Lib.SlBytesConst
namespace Go.Proofs.Ytagpdfekeppbgaa.X
open Go.RowKit Go.Proofs.YtagpdfekeppbgaaW.PrintWords Go.Proofs.YtagpdfekeppbgaaW.PrintLast Go.Proofs.YtagpdfekeppbgaaW.PrintMore
attribute [local go_sem] max2_int min2_int max_two min_two max_three min_three max_four min_four
set_option linter.unusedVariables false
set_option linter.unusedSimpArgs false
/-- What a reader reads as a text. -/
def rdText (f0 : List Int) (f1 f2 most : Int) : ByteArray × Int × Int :=
  if f2 = 0 then
    (if (rdNum (rdRest f0 f1 0) most).2.2 = 0 then
      (if (rdNum (rdRest f0 f1 0) most).1 ≤ ((rdRest f0 (f1 + (rdNum (rdRest f0 f1 0) most).2.1) 0).length : Int) then
        (strOfNums ((rdRest f0 (f1 + (rdNum (rdRest f0 f1 0) most).2.1) 0).take (rdNum (rdRest f0 f1 0) most).1.toNat), f1 + (rdNum (rdRest f0 f1 0) most).2.1 + (rdNum (rdRest f0 f1 0) most).1, 0)
      else (⟨#[]⟩, f1 + (rdNum (rdRest f0 f1 0) most).2.1, 4))
    else (⟨#[]⟩, f1 + (rdNum (rdRest f0 f1 0) most).2.1, (rdNum (rdRest f0 f1 0) most).2.2))
  else (⟨#[]⟩, f1, f2)
def pack_Reader_Text.f (f0 : List Int) (f1 f2 most : Int) : Option (ByteArray × Int × Int) := some (rdText f0 f1 f2 most)
theorem rdNum_nn (l : List Int) (most : Int) : 0 ≤ (rdNum l most).1 := by
  unfold rdNum
  split
  · split
    · simp
    · exact (numV_bd _).1
  · simp
set_option maxHeartbeats 1000000 in
theorem pack_Reader_Text.calls (g : Nat) (f0 : List Int) (f1 f2 a1 : Int) (r1 : ByteArray) (r2 r3 : Int) (w0 w : World) (hI : IsS40 w0 w g f0 f1 f2) (hB : Below w0.heap.size w0 w) (h : pack_Reader_Text.f f0 f1 f2 a1 = some (r1, r2, r3)) :
    Calls Try.prog 31 #[.pointer (some ⟨g, 0, none⟩), .int .i64 a1] w fun e w' => e = .returned (.string r1) ∧ IsS40 w0 w' g f0 r2 r3 ∧ Below w0.heap.size w0 w' ∧ KeepBut w w' g none := by
  have HI := Aside0.mk hI
  have HBB := Aside0.mk hB
  unfold pack_Reader_Text.f rdText at h
  by_cases h2 : f2 = 0
  · subst h2
    rw [if_pos rfl] at h
    have hN : pack_Reader_Num.f f0 f1 0 a1 = some ((rdNum (rdRest f0 f1 0) a1).1, f1 + (rdNum (rdRest f0 f1 0) a1).2.1, (rdNum (rdRest f0 f1 0) a1).2.2) := if_pos rfl
    have hnn := rdNum_nn (rdRest f0 f1 0) a1
    generalize (rdNum (rdRest f0 f1 0) a1).1 = n at *
    generalize f1 + (rdNum (rdRest f0 f1 0) a1).2.1 = p at *
    generalize (rdNum (rdRest f0 f1 0) a1).2.2 = er at *
    have HN := Aside0.mk hN
    have HNN := Aside0.mk hnn
    clear hN hI hB
    by_cases he : er = 0
    · subst he
      rw [if_pos rfl] at h
      by_cases hl : n ≤ ((rdRest f0 p 0).length : Int)
      · rw [if_pos hl] at h
        simp only [Option.some.injEq, Prod.mk.injEq] at h
        obtain ⟨rfl, rfl, rfl⟩ := h
        have HL := Aside0.mk hl
        clear hl hnn
        go_enter Try.func31, Try.ntmps31
        go_wp2_with (first | (go_at_call 27; refine (pack_Reader_Num.calls g f0 f1 0 a1 n p 0 w0 _ HI.out HBB.out HN.out).mono ?_; rintro e w1 ⟨rfl, hI1, hB1, hK1⟩; have HI1 := Aside0.mk hI1; have HB1 := Aside0.mk hB1; have HK1 := Aside0.mk hK1; clear hI1 hB1 hK1) | (go_at_call 55; refine (pack_Reader_works.calls g f0 p 0 w0 _ HI1.out).mono ?_; rintro e w2 ⟨rfl, m, rfl⟩))
        refine (pack_Reader_take.yes g f0 p 0 n w0 _ (HI1.out.drewN _) (pw_below_drewN HB1.out _) HNN.out HL.out).mono ?_
        rintro e w3 ⟨A', c', rfl, hc', hF3, hI3, hB3, hK3⟩
        have hcv := Kd.C_string (P := Try.prog) (A := A') (c := c') Try.underlying22 Try.underlying5 Try.underlying9 (Kd.F_now hF3)
        have HI3 := Aside0.mk hI3
        have HB3 := Aside0.mk hB3
        have HK3 := Aside0.mk (HK1.out.trans ((KeepBut.of_below (pw_below_drewN (Below.refl _ _) m) g none).trans hK3 (.inl rfl)) (.inl rfl))
        clear hF3 hI3 hB3 hK3 hc'
        generalize hT : (rdRest f0 p 0).take n.toNat = T at *
        have HT := Aside0.mk hT
        clear hT
        go_wp2
        go_ret
        exact ⟨by rw [HT.out]; rfl, HI3.out, HB3.out, HK3.out⟩
      · rw [if_neg hl] at h
        simp only [Option.some.injEq, Prod.mk.injEq] at h
        obtain ⟨rfl, rfl, rfl⟩ := h
        have HL := Aside0.mk (show ((rdRest f0 p 0).length : Int) < n by omega)
        clear hl hnn
        go_enter Try.func31, Try.ntmps31
        go_wp2_with (first | (go_at_call 27; refine (pack_Reader_Num.calls g f0 f1 0 a1 n p 0 w0 _ HI.out HBB.out HN.out).mono ?_; rintro e w1 ⟨rfl, hI1, hB1, hK1⟩; have HI1 := Aside0.mk hI1; have HB1 := Aside0.mk hB1; have HK1 := Aside0.mk hK1; clear hI1 hB1 hK1) | (go_at_call 55; refine (pack_Reader_works.calls g f0 p 0 w0 _ HI1.out).mono ?_; rintro e w2 ⟨rfl, m, rfl⟩))
        refine (pack_Reader_take.no g f0 p n w0 _ (HI1.out.drewN _) (pw_below_drewN HB1.out _) HL.out).mono ?_
        rintro e w3 ⟨rfl, hI3, hB3, hK3⟩
        have hse : strOfNums [] = ⟨#[]⟩ := by decide
        have hcv : (convert 22 9 (.slice none 0 0)).run Try.prog w3 = .ok (.string ⟨#[]⟩) w3 := by
          have := Kd.C_string (P := Try.prog) (A := none) (n := 0) (c := 0) (xs := []) Try.underlying22 Try.underlying5 Try.underlying9 (Kd.F_now (Kd.F_nil (Kd.int .u8) w3 (fun _ => True)))
          rw [hse] at this; exact this
        have HI3 := Aside0.mk hI3
        have HB3 := Aside0.mk hB3
        have HK3 := Aside0.mk (HK1.out.trans ((KeepBut.of_below (pw_below_drewN (Below.refl _ _) m) g none).trans hK3 (.inl rfl)) (.inl rfl))
        clear hI3 hB3 hK3 hse
        have HCV := Aside0.mk hcv
        go_wp2
        go_ret
        exact ⟨rfl, HI3.out, HB3.out, HK3.out⟩
    · rw [if_neg he] at h
      simp only [Option.some.injEq, Prod.mk.injEq] at h
      obtain ⟨rfl, rfl, rfl⟩ := h
      have hf1 : (er == 0) = false := beq_eq_false_iff_ne.mpr he
      have hf2 : (er != 0) = true := bne_iff_ne.mpr he
      go_enter Try.func31, Try.ntmps31
      go_wp2_with (first | (go_at_call 27; refine (pack_Reader_Num.calls g f0 f1 0 a1 n p er w0 _ HI.out HBB.out HN.out).mono ?_; rintro e w1 ⟨rfl, hI1, hB1, hK1⟩; have HI1 := Aside0.mk hI1; have HB1 := Aside0.mk hB1; have HK1 := Aside0.mk hK1; clear hI1 hB1 hK1) | (go_at_call 55; refine (pack_Reader_works.calls g f0 p er w0 _ HI1.out).mono ?_; rintro e w2 ⟨rfl, m, rfl⟩))
      go_ret
      exact ⟨rfl, HI1.out.drewN _, pw_below_drewN HB1.out _, HK1.out.trans (KeepBut.of_below (pw_below_drewN (Below.refl _ _) _) g none) (.inl rfl)⟩
  · rw [if_neg h2] at h
    simp only [Option.some.injEq, Prod.mk.injEq] at h
    obtain ⟨rfl, rfl, rfl⟩ := h
    have HN := Aside0.mk (show pack_Reader_Num.f f0 f1 f2 a1 = some (0, f1, f2) from if_neg h2)
    have hf1 : (f2 == 0) = false := beq_eq_false_iff_ne.mpr h2
    have hf2 : (f2 != 0) = true := bne_iff_ne.mpr h2
    clear hI hB
    go_enter Try.func31, Try.ntmps31
    go_wp2_with (first | (go_at_call 27; refine (pack_Reader_Num.calls g f0 f1 f2 a1 0 f1 f2 w0 _ HI.out HBB.out HN.out).mono ?_; rintro e w1 ⟨rfl, hI1, hB1, hK1⟩; have HI1 := Aside0.mk hI1; have HB1 := Aside0.mk hB1; have HK1 := Aside0.mk hK1; clear hI1 hB1 hK1) | (go_at_call 55; refine (pack_Reader_works.calls g f0 f1 f2 w0 _ HI1.out).mono ?_; rintro e w2 ⟨rfl, m, rfl⟩))
    go_ret
    exact ⟨rfl, HI1.out.drewN _, pw_below_drewN HB1.out _, HK1.out.trans (KeepBut.of_below (pw_below_drewN (Below.refl _ _) _) g none) (.inl rfl)⟩
def pack_Reader_Left.f (f0 : List Int) (f1 f2 : Int) : Option (Int × Int × Int) := some (((rdRest f0 f1 f2).length : Int), f1, f2)
set_option maxHeartbeats 400000 in
theorem pack_Reader_Left.calls (g : Nat) (f0 : List Int) (f1 f2 : Int) (r1 r2 r3 : Int) (w0 w : World) (hI : IsS40 w0 w g f0 f1 f2) (hB : Below w0.heap.size w0 w) (h : pack_Reader_Left.f f0 f1 f2 = some (r1, r2, r3)) :
    Calls Try.prog 29 #[.pointer (some ⟨g, 0, none⟩)] w fun e w' => e = .returned (.int .i64 r1) ∧ IsS40 w0 w' g f0 r2 r3 ∧ Below w0.heap.size w0 w' ∧ KeepBut w w' g none := by
  unfold pack_Reader_Left.f at h
  simp only [Option.some.injEq, Prod.mk.injEq] at h
  obtain ⟨rfl, rfl, rfl⟩ := h
  have HI := Aside0.mk hI
  have HBB := Aside0.mk hB
  obtain ⟨A, c, hb, _⟩ := hI
  have c0' : w.cell? ⟨g, 0, none⟩ = some (.slice A (rdRest f0 f1 f2).length c) := blk_cell hb 0
  clear hb hB
  by_cases h2 : f2 = 0
  · have hf1 : (f2 == 0) = true := beq_iff_eq.mpr h2
    have hf2 : (f2 != 0) = false := bne_eq_false_iff_eq.mpr h2
    generalize hR : rdRest f0 f1 f2 = R at *
    clear hR h2
    go_enter Try.func29, Try.ntmps29
    go_wp2_with (first | (go_at_call 55; refine (pack_Reader_works.calls g f0 f1 f2 w0 _ HI.out).mono ?_; rintro e w2 ⟨rfl, m, rfl⟩))
    go_ret
    exact ⟨rfl, HI.out.drewN _, pw_below_drewN HBB.out _, KeepBut.of_below (pw_below_drewN (Below.refl _ _) _) g none⟩
  · have hf1 : (f2 == 0) = false := beq_eq_false_iff_ne.mpr h2
    have hf2 : (f2 != 0) = true := bne_iff_ne.mpr h2
    have hz : rdRest f0 f1 f2 = [] := by unfold rdRest; rw [if_neg h2]
    have HZ := Aside0.mk hz
    clear hz c0' h2
    go_enter Try.func29, Try.ntmps29
    go_wp2_with (first | (go_at_call 55; refine (pack_Reader_works.calls g f0 f1 f2 w0 _ HI.out).mono ?_; rintro e w2 ⟨rfl, m, rfl⟩))
    go_ret
    exact ⟨by rw [HZ.out]; rfl, HI.out.drewN _, pw_below_drewN HBB.out _, KeepBut.of_below (pw_below_drewN (Below.refl _ _) _) g none⟩
def pack_Reader_Err.f (f0 : List Int) (f1 f2 : Int) : Option (Int × Int × Int) := some (f2, f1, f2)
set_option maxHeartbeats 400000 in
theorem pack_Reader_Err.calls (g : Nat) (f0 : List Int) (f1 f2 : Int) (r1 r2 r3 : Int) (w0 w : World) (hI : IsS40 w0 w g f0 f1 f2) (hB : Below w0.heap.size w0 w) (h : pack_Reader_Err.f f0 f1 f2 = some (r1, r2, r3)) :
    Calls Try.prog 28 #[.pointer (some ⟨g, 0, none⟩)] w fun e w' => e = .returned (.int .i64 r1) ∧ IsS40 w0 w' g f0 r2 r3 ∧ Below w0.heap.size w0 w' ∧ KeepBut w w' g none := by
  unfold pack_Reader_Err.f at h
  simp only [Option.some.injEq, Prod.mk.injEq] at h
  obtain ⟨rfl, rfl, rfl⟩ := h
  have HI := Aside0.mk hI
  have HBB := Aside0.mk hB
  obtain ⟨A, c, hb, _⟩ := hI
  have c1 : w.cell? ⟨g, 1, none⟩ = some (.int .i64 f2) := blk_cell hb 1
  have c2 : w.cell? ⟨g, 2, none⟩ = some (.bool true) := blk_cell hb 2
  clear hb hB
  go_enter Try.func28, Try.ntmps28
  go_wp2
  go_ret
  exact ⟨rfl, HI.out, HBB.out, KeepBut.refl _ _ _⟩
def pack_Reader_End.f (f0 : List Int) (f1 f2 : Int) : Option (Int × Int × Int) := some (if 0 < (rdRest f0 f1 f2).length then 3 else f2, f1, f2)
set_option maxHeartbeats 400000 in
theorem pack_Reader_End.calls (g : Nat) (f0 : List Int) (f1 f2 : Int) (r1 r2 r3 : Int) (w0 w : World) (hI : IsS40 w0 w g f0 f1 f2) (hB : Below w0.heap.size w0 w) (h : pack_Reader_End.f f0 f1 f2 = some (r1, r2, r3)) :
    Calls Try.prog 33 #[.pointer (some ⟨g, 0, none⟩)] w fun e w' => e = .returned (.int .i64 r1) ∧ IsS40 w0 w' g f0 r2 r3 ∧ Below w0.heap.size w0 w' ∧ KeepBut w w' g none := by
  unfold pack_Reader_End.f at h
  simp only [Option.some.injEq, Prod.mk.injEq] at h
  obtain ⟨rfl, rfl, rfl⟩ := h
  have HI := Aside0.mk hI
  have HBB := Aside0.mk hB
  have HL := Aside0.mk (show pack_Reader_Left.f f0 f1 f2 = some (((rdRest f0 f1 f2).length : Int), f1, f2) from rfl)
  have HE := Aside0.mk (show pack_Reader_Err.f f0 f1 f2 = some (f2, f1, f2) from rfl)
  clear hI hB
  by_cases hp : 0 < (rdRest f0 f1 f2).length
  · rw [if_pos hp]
    have hp1 : decide ((0 : Int) < ((rdRest f0 f1 f2).length : Int)) = true := decide_eq_true (by omega)
    generalize (rdRest f0 f1 f2).length = L at *
    go_enter Try.func33, Try.ntmps33
    go_wp2_with (first | (go_at_call 29; refine (pack_Reader_Left.calls g f0 f1 f2 L f1 f2 w0 _ HI.out HBB.out HL.out).mono ?_; rintro e w1 ⟨rfl, hI1, hB1, hK1⟩; have HI1 := Aside0.mk hI1; have HB1 := Aside0.mk hB1; have HK1 := Aside0.mk hK1; clear hI1 hB1 hK1))
    go_ret
    exact ⟨rfl, HI1.out, HB1.out, HK1.out⟩
  · rw [if_neg hp]
    have hp1 : decide ((0 : Int) < ((rdRest f0 f1 f2).length : Int)) = false := decide_eq_false (by omega)
    generalize (rdRest f0 f1 f2).length = L at *
    go_enter Try.func33, Try.ntmps33
    go_wp2_with (first | (go_at_call 29; refine (pack_Reader_Left.calls g f0 f1 f2 L f1 f2 w0 _ HI.out HBB.out HL.out).mono ?_; rintro e w1 ⟨rfl, hI1, hB1, hK1⟩; have HI1 := Aside0.mk hI1; have HB1 := Aside0.mk hB1; have HK1 := Aside0.mk hK1; clear hI1 hB1 hK1) | (go_at_call 28; refine (pack_Reader_Err.calls g f0 f1 f2 f2 f1 f2 w0 _ HI1.out HB1.out HE.out).mono ?_; rintro e w1 ⟨rfl, hI2, hB2, hK2⟩))
    go_ret
    exact ⟨rfl, hI2, hB2, HK1.out.trans hK2 (.inl rfl)⟩

/-- What a reader reads as a yes, or a no. -/
def rdYes (f0 : List Int) (f1 f2 : Int) : Bool × Int × Int :=
  if f2 = 0 then (match rdRest f0 f1 0 with | [] => (false, f1, 4) | x :: _ => if 1 < x then (false, f1 + 1, 3) else (x == 1, f1 + 1, 0)) else (false, f1, f2)
def pack_Reader_Yes.f (f0 : List Int) (f1 f2 : Int) : Option (Bool × Int × Int) := some (rdYes f0 f1 f2)
set_option maxHeartbeats 1000000 in
theorem pack_Reader_Yes.calls (g : Nat) (f0 : List Int) (f1 f2 : Int) (r1 : Bool) (r2 r3 : Int) (w0 w : World) (hI : IsS40 w0 w g f0 f1 f2) (hB : Below w0.heap.size w0 w) (h : pack_Reader_Yes.f f0 f1 f2 = some (r1, r2, r3)) :
    Calls Try.prog 32 #[.pointer (some ⟨g, 0, none⟩)] w fun e w' => e = .returned (.bool r1) ∧ IsS40 w0 w' g f0 r2 r3 ∧ Below w0.heap.size w0 w' ∧ KeepBut w w' g none := by
  have HI := Aside0.mk hI
  have HBB := Aside0.mk hB
  unfold pack_Reader_Yes.f rdYes at h
  clear hI hB
  by_cases h2 : f2 = 0
  · subst h2
    rw [if_pos rfl] at h
    cases hR : rdRest f0 f1 0 with
    | nil =>
      rw [hR] at h
      simp only [Option.some.injEq, Prod.mk.injEq] at h
      obtain ⟨rfl, rfl, rfl⟩ := h
      have HL := Aside0.mk (show ((rdRest f0 f1 0).length : Int) < 1 by rw [hR]; simp)
      clear hR
      go_enter Try.func32, Try.ntmps32
      go_wp2_with (first | (go_at_call 55; refine (pack_Reader_works.calls g f0 f1 0 w0 _ HI.out).mono ?_; rintro e w2 ⟨rfl, m, rfl⟩))
      refine (pack_Reader_take.no g f0 f1 1 w0 _ (HI.out.drewN _) (pw_below_drewN HBB.out _) HL.out).mono ?_
      rintro e w3 ⟨rfl, hI3, hB3, hK3⟩
      have HI3 := Aside0.mk hI3
      have HB3 := Aside0.mk hB3
      have HK3 := Aside0.mk ((KeepBut.of_below (pw_below_drewN (Below.refl _ _) m) g none).trans hK3 (.inl rfl))
      clear hI3 hB3 hK3
      go_wp2_with (first | (go_at_call 55; refine (pack_Reader_works.calls g f0 f1 4 w0 _ HI3.out).mono ?_; rintro e w4 ⟨rfl, m4, rfl⟩))
      go_ret
      exact ⟨rfl, HI3.out.drewN _, pw_below_drewN HB3.out _, HK3.out.trans (KeepBut.of_below (pw_below_drewN (Below.refl _ _) _) g none) (.inl rfl)⟩
    | cons x xs =>
      rw [hR] at h
      simp only at h
      have HL := Aside0.mk (show (1 : Int) ≤ ((rdRest f0 f1 0).length : Int) by rw [hR]; simp only [List.length_cons]; omega)
      have HT := Aside0.mk (show (rdRest f0 f1 0).take (1 : Int).toNat = [x] by rw [hR]; rfl)
      clear hR
      go_enter Try.func32, Try.ntmps32
      go_wp2_with (first | (go_at_call 55; refine (pack_Reader_works.calls g f0 f1 0 w0 _ HI.out).mono ?_; rintro e w2 ⟨rfl, m, rfl⟩))
      refine (pack_Reader_take.yes g f0 f1 0 1 w0 _ (HI.out.drewN _) (pw_below_drewN HBB.out _) (by omega) HL.out).mono ?_
      rintro e w3 ⟨A', c', rfl, hc', hF3, hI3, hB3, hK3⟩
      rw [HT.out] at hF3
      rw [HT.out]
      obtain ⟨ad, e1, hcell⟩ := Kd.at_int (Kd.F_now hF3) (0 : Int) (by omega) (by simp)
      cases e1
      have hc0 : w3.cell? ad = some (.int .u8 x) := by simpa [Addr.add, rd] using hcell
      have HI3 := Aside0.mk hI3
      have HB3 := Aside0.mk hB3
      have HK3 := Aside0.mk ((KeepBut.of_below (pw_below_drewN (Below.refl _ _) m) g none).trans hK3 (.inl rfl))
      clear hI3 hB3 hK3 hF3 hc' hcell
      by_cases hx : 1 < x
      · rw [if_pos hx] at h
        simp only [Option.some.injEq, Prod.mk.injEq] at h
        obtain ⟨rfl, rfl, rfl⟩ := h
        have hx1 : decide (1 < x) = true := decide_eq_true hx
        go_wp2_with (first | (go_at_call 30; refine (pack_Reader_Fail.calls g f0 (f1 + 1) 0 3 (f1 + 1) 3 w0 _ (HI3.out.drewN _) (pw_below_drewN HB3.out _) rfl).mono ?_; rintro e w4 ⟨rfl, hI4, hB4, hK4⟩; have HI4 := Aside0.mk hI4; have HB4 := Aside0.mk hB4; have HK4 := Aside0.mk hK4; clear hI4 hB4 hK4) | (go_at_call 30; refine (pack_Reader_Fail.calls g f0 (f1 + 1) 0 3 (f1 + 1) 3 w0 _ HI3.out HB3.out rfl).mono ?_; rintro e w4 ⟨rfl, hI4, hB4, hK4⟩; have HI4 := Aside0.mk hI4; have HB4 := Aside0.mk hB4; have HK4 := Aside0.mk hK4; clear hI4 hB4 hK4) | (go_at_call 55; refine (pack_Reader_works.calls g f0 (f1 + 1) 3 w0 _ HI4.out).mono ?_; rintro e w5 ⟨rfl, m5, rfl⟩))
        go_ret
        exact ⟨rfl, HI4.out.drewN _, pw_below_drewN HB4.out _, (HK3.out.trans HK4.out (.inl rfl)).trans (KeepBut.of_below (pw_below_drewN (Below.refl _ _) _) g none) (.inl rfl)⟩
      · rw [if_neg hx] at h
        simp only [Option.some.injEq, Prod.mk.injEq] at h
        obtain ⟨rfl, rfl, rfl⟩ := h
        have hx1 : decide (1 < x) = false := decide_eq_false hx
        go_wp2_with (first | (go_at_call 55; refine (pack_Reader_works.calls g f0 (f1 + 1) 0 w0 _ HI3.out).mono ?_; rintro e w5 ⟨rfl, m5, rfl⟩))
        go_ret
        exact ⟨rfl, HI3.out.drewN _, pw_below_drewN HB3.out _, HK3.out.trans (KeepBut.of_below (pw_below_drewN (Below.refl _ _) _) g none) (.inl rfl)⟩
  · rw [if_neg h2] at h
    simp only [Option.some.injEq, Prod.mk.injEq] at h
    obtain ⟨rfl, rfl, rfl⟩ := h
    have hf1 : (f2 == 0) = false := beq_eq_false_iff_ne.mpr h2
    have hf2 : (f2 != 0) = true := bne_iff_ne.mpr h2
    go_enter Try.func32, Try.ntmps32
    go_wp2_with (first | (go_at_call 55; refine (pack_Reader_works.calls g f0 f1 f2 w0 _ HI.out).mono ?_; rintro e w2 ⟨rfl, m, rfl⟩))
    go_ret
    exact ⟨rfl, HI.out.drewN _, pw_below_drewN HBB.out _, KeepBut.of_below (pw_below_drewN (Below.refl _ _) _) g none⟩
def pack_Open.f (l0 : List Int) : Option (List Int × Int × Int) := if (l0.length : Int) ≤ 140737488355328 then some (l0, 0, 0) else none
set_option maxHeartbeats 400000 in
theorem pack_Open.calls (A0 : Option Addr) (c0 : Nat) (l0 : List Int) (r1 : List Int) (r2 r3 : Int) (w0 w : World) (hB : Below w0.heap.size w0 w) (hr0 : Kd.C (Kd.int .u8) w A0 l0.length l0) (hc0 : l0.length ≤ c0) (h : pack_Open.f l0 = some (r1, r2, r3)) :
    Calls Try.prog 26 #[.slice A0 l0.length c0] w fun e w' => ∃ g_ : Nat, e = .returned (.pointer (some ⟨g_, 0, none⟩)) ∧ IsS40 w0 w' g_ r1 r2 r3 ∧ Below w0.heap.size w0 w' ∧ Below w.heap.size w w' := by
  unfold pack_Open.f at h
  by_cases hl : (l0.length : Int) ≤ 140737488355328
  · rw [if_pos hl] at h
    simp only [Option.some.injEq, Prod.mk.injEq] at h
    obtain ⟨rfl, rfl, rfl⟩ := h
    have HR := Aside0.mk hr0
    have HB := Aside0.mk hB
    have HC := Aside0.mk hc0
    have hroom : room.f l0 0 = some l0 := by unfold room.f; rw [if_pos (by omega), if_pos (by omega)]
    have HRO := Aside0.mk hroom
    clear hr0 hB hc0 hl hroom
    go_enter Try.func26, Try.ntmps26
    go_wp2_with fail
    refine (room.calls A0 c0 l0 0 l0 _ HR.out HC.out HRO.out).mono ?_
    rintro e w1 ⟨v, rfl, hR1, hb1⟩
    obtain ⟨A1, c1, e1, hc1, hrd⟩ := Kd.R_reads hR1
    subst e1
    have HF1 := Aside0.mk (Kd.R_F (Kd.R_bound hR1))
    have HB1 := Aside0.mk hb1
    have HC1 := Aside0.mk hc1
    have hz : w.heap.size ≤ w1.heap.size := hb1.size
    clear hR1 hb1 hrd hc1
    go_wp2
    go_ret
    have hbox := blk_new w1 (.cells #[.slice A1 l0.length c1, .int .i64 0, .bool true] 40)
    refine ⟨_, rfl, ⟨A1, c1, by simpa [rdRest] using hbox, Nat.le_trans HB.out.size hz, by simpa [rdRest] using HC1.out, ?_, by omega, by omega⟩, below_alloc (below_then HB.out HB.out.size HB1.out) _, below_alloc HB1.out _⟩
    have hF2 := Kd.F_mono (ok' := fun k => U8 (w1.alloc (.cells #[.slice A1 l0.length c1, .int .i64 0, .bool true] 40)) k) (Kd.F_alloc HF1.out (.cells #[.slice A1 l0.length c1, .int .i64 0, .bool true] 40)) (fun k hk => by
      obtain ⟨_, _, _, q, hq, cells, hcs⟩ := hk
      have hq5 : q = 5 := by simpa [Kd.int, Kd.scalar] using hq
      subst hq5
      exact ⟨cells, (0, 0), blk_alloc hcs _⟩)
    simpa [rdRest] using hF2
  · rw [if_neg hl] at h; cases h


end Go.Proofs.Ytagpdfekeppbgaa.X
