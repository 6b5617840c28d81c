/- One part of the proofs about layer 2: the reader of the reference: texts. No condition.
   (Lines that the kit's print wrote for this claim, and walks of ours, as one text of our own: not a printed one.) -/
import Derived.Test.YtagpdfekeppbgaaProg
import Derived.Below
import Derived.Deep.Draws
import Derived.Deep.AppendLies
import Derived.Maps.AppendAt
import Derived.OwnWalk
import Derived.Laws.BytesArg
import Derived.Laws.MakeOwn
import Derived.Laws.OwnMore
import Derived.Deep.OwnRows
import Derived.Tactics
import Derived.Lib.ConvBytes
import Derived.Laws.Slices
import Derived.WalkKit
import Derived.KernelRfl
import Derived.RowKit3
import Derived.Deep.LoopGhost
import Derived.Deep.QuietTactic
import Derived.BigQuiet
import Derived.WideLaws
import Derived.Deep.DeepCutAuto
import Derived.Deep.CutBlock
import Derived.Deep.RegionHeld3
import Derived.Laws.Rows
import Derived.Lib.AppendStr
import Derived.ArgAppend
import Derived.Laws.IdiomCopy
import Derived.OrdersHeld
import Derived.Laws.BitsLemmas
import Derived.RowKit
import Derived.Test.YtagpdfekeppbgaaWWords
import Derived.Test.YtagpdfekeppbgaaWLast
import Derived.Test.YtagpdfekeppbgaaWTab
import Derived.Test.YtagpdfekeppbgaaWFour
import Derived.Test.YtagpdfekeppbgaaWQPut
import Derived.Test.YtagpdfekeppbgaaWApart
import Derived.Test.YtagpdfekeppbgaaWArr
import Derived.Test.YtagpdfekeppbgaaWZeros
import Derived.Test.YtagpdfekeppbgaaWFoot
import Derived.Test.YtagpdfekeppbgaaWKept
import Derived.Test.YtagpdfekeppbgaaWShare
import Derived.Test.YtagpdfekeppbgaaWN
import Derived.Test.YtagpdfekeppbgaaWFootNe
import Derived.Test.YtagpdfekeppbgaaWAt
import Derived.Test.YtagpdfekeppbgaaWEqStruct
import Derived.Test.YtagpdfekeppbgaaWRepsOne
import Derived.Test.YtagpdfekeppbgaaWInv
import Derived.Test.YtagpdfekeppbgaaWInvWords
import Derived.Test.YtagpdfekeppbgaaWGuard
import Derived.Test.YtagpdfekeppbgaaWNEv
import Derived.Test.YtagpdfekeppbgaaWMore
import Derived.WalkSpells
import Derived.Outline
import Derived.Laws.CopyOwn
import Derived.Test.YtagpdfekeppbgaaOPkJ
import Derived.Lib.SlBytesConst
namespace Go.Proofs.Ytagpdfekeppbgaa.X
open Go.RowKit Go.Proofs.YtagpdfekeppbgaaW.PrintWords Go.Proofs.YtagpdfekeppbgaaW.PrintLast Go.Proofs.YtagpdfekeppbgaaW.PrintMore
attribute [local go_sem] max2_int min2_int max_two min_two max_three min_three max_four min_four
set_option linter.unusedVariables false
set_option linter.unusedSimpArgs false
def baileyref02_Reader_Text.f (f0 : List Int) (f1 f2 most : Int) : Option (ByteArray × Int × Int) := some (rdText f0 f1 f2 most)
set_option maxHeartbeats 1000000 in
set_option maxRecDepth 100000 in
theorem baileyref02_Reader_Text.calls (g : Nat) (f0 : List Int) (f1 f2 a1 : Int) (r1 : ByteArray) (r2 r3 : Int) (w0 w : World) (hN : ∀ x ∈ f0, 0 ≤ x) (hI : IsS66 w0 w g f0 f1 f2) (hB : Below w0.heap.size w0 w) (h : baileyref02_Reader_Text.f f0 f1 f2 a1 = some (r1, r2, r3)) :
    Calls Try.prog 36 #[.pointer (some ⟨g, 0, none⟩), .int .i64 a1] w fun e w' => e = .returned (.string r1) ∧ IsS66 w0 w' g f0 r2 r3 ∧ Below w0.heap.size w0 w' ∧ KeepBut w w' g none := by
  have HI := Aside0.mk hI
  have HBB := Aside0.mk hB
  have HNN := Aside0.mk hN
  unfold baileyref02_Reader_Text.f rdText at h
  by_cases h2 : f2 = 0
  · subst h2
    rw [if_pos rfl] at h
    have hN : baileyref02_Reader_Num.f f0 f1 0 a1 = some ((rdNum (rdRest f0 f1 0) a1).1, f1 + (rdNum (rdRest f0 f1 0) a1).2.1, (rdNum (rdRest f0 f1 0) a1).2.2) := if_pos rfl
    have hnn := rdNum_nn (rdRest f0 f1 0) a1
    generalize (rdNum (rdRest f0 f1 0) a1).1 = n at *
    generalize f1 + (rdNum (rdRest f0 f1 0) a1).2.1 = p at *
    generalize (rdNum (rdRest f0 f1 0) a1).2.2 = er at *
    have HN := Aside0.mk hN
    clear hN hI hB
    obtain ⟨m, rfl⟩ := Int.eq_ofNat_of_zero_le hnn
    clear hnn
    by_cases he : er = 0
    · subst he
      rw [if_pos rfl] at h
      by_cases hl : (m : Int) ≤ ((rdRest f0 p 0).length : Int)
      · rw [if_pos hl] at h
        simp only [Option.some.injEq, Prod.mk.injEq] at h
        obtain ⟨rfl, rfl, rfl⟩ := h
        go_enter Try.func36, Try.ntmps36
        go_wp2_with fail
        refine (baileyref02_Reader_Num.calls g f0 f1 0 a1 m p 0 w0 _ HNN.out HI.out HBB.out HN.out).mono ?_
        rintro e w1 ⟨rfl, hI1, hB1, hK1⟩
        have HB1 := Aside0.mk hB1
        have HK1 := Aside0.mk hK1
        have HP := Aside0.mk hI1.pos
        obtain ⟨A, c, hb, hge, hc, hF, h0, h1⟩ := hI1
        have c0' : w1.cell? ⟨g, 0, none⟩ = some (.slice A (rdRest f0 p 0).length c) := blk_cell hb 0
        have f0' : w1.frozen? ⟨g, 0, none⟩ = false := blk_frozen hb 0
        have c1' : w1.cell? ⟨g, 1, none⟩ = some (.int .i64 0) := blk_cell hb 1
        have X := Aside0.mk hb
        generalize hR : rdRest f0 p 0 = R at *
        have HR := Aside0.mk hR
        clear hR
        have hcv := Kd.C_string (P := Try.prog) (A := A) (c := c) Try.underlying22 Try.underlying5 Try.underlying9 (Kd.F_now (F8_take hF m (by omega)))
        have HF := Aside0.mk hF
        have hlt : decide ((m : Int) > (R.length : Int)) = false := decide_eq_false (by omega)
        have hlt2 : decide ((R.length : Int) < (m : Int)) = false := decide_eq_false (by omega)
        have hlt3 : decide (R.length < m) = false := decide_eq_false (by omega)
        have k1 : m ≤ c := by omega
        have k2 : (m : Int) ≤ (c : Int) := by omega
        have k3 : m ≤ R.length := by omega
        have k4 : (m : Int) ≤ (R.length : Int) := hl
        have HGE := Aside0.mk hge
        have HC := Aside0.mk hc
        have HX := Aside0.mk (And.intro h0 h1)
        clear hb hF hB1 hK1 hge h0 h1 hl
        by_cases hcm : c = m
        · subst hcm
          go_wp2
          go_ret
          exact ⟨by rw [HR.out, Int.toNat_natCast]; rfl, by have q := close66 (w := w1) (m := c) (A' := A) (c' := c - c) X.out HGE.out HF.out HX.out.1 HX.out.2 HR.out (by omega) HC.out (by simp [*]) rfl; rw [show R.length - c = 0 by omega] at q; first | exact q | simpa using q, below_set HB1.out HGE.out, KeepBut.set_ HK1.out _ _⟩
        · go_wp2
          go_ret
          exact ⟨by rw [HR.out, Int.toNat_natCast]; rfl, by have q := close66 (w := w1) (m := m) (A' := A.map (·.add m)) (c' := c - m) X.out HGE.out HF.out HX.out.1 HX.out.2 HR.out (by omega) HC.out (by simp [*]) rfl; first | exact q | simpa using q, below_set HB1.out HGE.out, KeepBut.set_ HK1.out _ _⟩
      · rw [if_neg hl] at h
        simp only [Option.some.injEq, Prod.mk.injEq] at h
        obtain ⟨rfl, rfl, rfl⟩ := h
        go_enter Try.func36, Try.ntmps36
        go_wp2_with fail
        refine (baileyref02_Reader_Num.calls g f0 f1 0 a1 m p 0 w0 _ HNN.out HI.out HBB.out HN.out).mono ?_
        rintro e w1 ⟨rfl, hI1, hB1, hK1⟩
        have HI1 := Aside0.mk hI1
        have HB1 := Aside0.mk hB1
        have HK1 := Aside0.mk hK1
        have HP := Aside0.mk hI1.pos
        obtain ⟨A, c, hb, hge, hc, hF, h0, h1⟩ := hI1
        have c0' : w1.cell? ⟨g, 0, none⟩ = some (.slice A (rdRest f0 p 0).length c) := blk_cell hb 0
        have c1' : w1.cell? ⟨g, 1, none⟩ = some (.int .i64 0) := blk_cell hb 1
        generalize hR : rdRest f0 p 0 = R at *
        have hlt : decide ((m : Int) > (R.length : Int)) = true := decide_eq_true (by omega)
        have hlt2 : decide ((R.length : Int) < (m : Int)) = true := decide_eq_true (by omega)
        have hlt3 : decide (R.length < m) = true := decide_eq_true (by omega)
        clear hb hF hB1 hK1 hge h0 h1 hl hR
        go_wp2_with (first | (go_at_call 38; refine (baileyref02_Reader_Fail.calls g f0 p 0 4 _ 4 w0 _ HI1.out HB1.out rfl).mono ?_; rintro e w2 ⟨rfl, hI2, hB2, hK2⟩; have c2' : w2.cell? ⟨g, 1, none⟩ = some (.int .i64 4) := (by obtain ⟨A, c, hb, _⟩ := hI2; exact blk_cell hb 1); have HI2 := Aside0.mk hI2; have HB2 := Aside0.mk hB2; have HK2 := Aside0.mk hK2; clear hI2 hB2 hK2))
        go_ret
        exact ⟨rfl, HI2.out, HB2.out, HK1.out.trans HK2.out (.inl rfl)⟩
    · rw [if_neg he] at h
      simp only [Option.some.injEq, Prod.mk.injEq] at h
      obtain ⟨rfl, rfl, rfl⟩ := h
      have hf1 : (er == 0) = false := beq_eq_false_iff_ne.mpr he
      have hf2 : (er != 0) = true := bne_iff_ne.mpr he
      go_enter Try.func36, Try.ntmps36
      go_wp2_with fail
      refine (baileyref02_Reader_Num.calls g f0 f1 0 a1 m p er w0 _ HNN.out HI.out HBB.out HN.out).mono ?_
      rintro e w1 ⟨rfl, hI1, hB1, hK1⟩
      have HI1 := Aside0.mk hI1
      have HB1 := Aside0.mk hB1
      have HK1 := Aside0.mk hK1
      have c1' : w1.cell? ⟨g, 1, none⟩ = some (.int .i64 er) := by obtain ⟨A, c, hb, _⟩ := hI1; exact blk_cell hb 1
      clear hI1 hB1 hK1
      go_wp2
      go_ret
      exact ⟨rfl, HI1.out, HB1.out, HK1.out⟩
  · rw [if_neg h2] at h
    simp only [Option.some.injEq, Prod.mk.injEq] at h
    obtain ⟨rfl, rfl, rfl⟩ := h
    have HN := Aside0.mk (show baileyref02_Reader_Num.f f0 f1 f2 a1 = some (0, f1, f2) from if_neg h2)
    have hf1 : (f2 == 0) = false := beq_eq_false_iff_ne.mpr h2
    have hf2 : (f2 != 0) = true := bne_iff_ne.mpr h2
    clear hI hB
    go_enter Try.func36, Try.ntmps36
    go_wp2_with fail
    refine (baileyref02_Reader_Num.calls g f0 f1 f2 a1 0 f1 f2 w0 _ HNN.out HI.out HBB.out HN.out).mono ?_
    rintro e w1 ⟨rfl, hI1, hB1, hK1⟩
    have HI1 := Aside0.mk hI1
    have HB1 := Aside0.mk hB1
    have HK1 := Aside0.mk hK1
    have c1' : w1.cell? ⟨g, 1, none⟩ = some (.int .i64 f2) := by obtain ⟨A, c, hb, _⟩ := hI1; exact blk_cell hb 1
    clear hI1 hB1 hK1
    go_wp2
    go_ret
    exact ⟨rfl, HI1.out, HB1.out, HK1.out⟩
end Go.Proofs.Ytagpdfekeppbgaa.X
