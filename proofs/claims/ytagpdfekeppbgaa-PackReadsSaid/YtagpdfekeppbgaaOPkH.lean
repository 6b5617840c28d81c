/- One part of the proofs about layer 2: the reader of the reference: opening, yes and no. No condition.
   (Lines that the kit's print wrote for this claim, and walks of ours, as one text of our own: not a printed one.) -/
import Derived.Test.YtagpdfekeppbgaaProg
import Derived.Below
import Derived.Deep.Draws
import Derived.Deep.AppendLies
import Derived.Maps.AppendAt
import Derived.OwnWalk
import Derived.Laws.BytesArg
import Derived.Laws.MakeOwn
import Derived.Laws.OwnMore
import Derived.Deep.OwnRows
import Derived.Tactics
import Derived.Lib.ConvBytes
import Derived.Laws.Slices
import Derived.WalkKit
import Derived.KernelRfl
import Derived.RowKit3
import Derived.Deep.LoopGhost
import Derived.Deep.QuietTactic
import Derived.BigQuiet
import Derived.WideLaws
import Derived.Deep.DeepCutAuto
import Derived.Deep.CutBlock
import Derived.Deep.RegionHeld3
import Derived.Laws.Rows
import Derived.Lib.AppendStr
import Derived.ArgAppend
import Derived.Laws.IdiomCopy
import Derived.OrdersHeld
import Derived.Laws.BitsLemmas
import Derived.RowKit
import Derived.Test.YtagpdfekeppbgaaWWords
import Derived.Test.YtagpdfekeppbgaaWLast
import Derived.Test.YtagpdfekeppbgaaWTab
import Derived.Test.YtagpdfekeppbgaaWFour
import Derived.Test.YtagpdfekeppbgaaWQPut
import Derived.Test.YtagpdfekeppbgaaWApart
import Derived.Test.YtagpdfekeppbgaaWArr
import Derived.Test.YtagpdfekeppbgaaWZeros
import Derived.Test.YtagpdfekeppbgaaWFoot
import Derived.Test.YtagpdfekeppbgaaWKept
import Derived.Test.YtagpdfekeppbgaaWShare
import Derived.Test.YtagpdfekeppbgaaWN
import Derived.Test.YtagpdfekeppbgaaWFootNe
import Derived.Test.YtagpdfekeppbgaaWAt
import Derived.Test.YtagpdfekeppbgaaWEqStruct
import Derived.Test.YtagpdfekeppbgaaWRepsOne
import Derived.Test.YtagpdfekeppbgaaWInv
import Derived.Test.YtagpdfekeppbgaaWInvWords
import Derived.Test.YtagpdfekeppbgaaWGuard
import Derived.Test.YtagpdfekeppbgaaWNEv
import Derived.Test.YtagpdfekeppbgaaWMore
import Derived.WalkSpells
import Derived.Outline
import Derived.Laws.CopyOwn
import Derived.Test.YtagpdfekeppbgaaOPkG
import Derived.Lib.SlBytesConst
namespace Go.Proofs.Ytagpdfekeppbgaa.X
open Go.RowKit Go.Proofs.YtagpdfekeppbgaaW.PrintWords Go.Proofs.YtagpdfekeppbgaaW.PrintLast Go.Proofs.YtagpdfekeppbgaaW.PrintMore
attribute [local go_sem] max2_int min2_int max_two min_two max_three min_three max_four min_four
set_option linter.unusedVariables false
set_option linter.unusedSimpArgs false
def copied.f (l0 : List Int) : Option (List Int) := if l0.length < 140737488355328 then some l0 else none
set_option maxHeartbeats 400000 in
theorem copied.calls (A0 : Option Addr) (c0 : Nat) (l0 : List Int) (r : List Int) (w : World) (hr0 : Kd.C (Kd.int .u8) w A0 l0.length l0) (hc0 : l0.length ≤ c0) (h : copied.f l0 = some r) :
    Calls Try.prog 54 #[.slice A0 l0.length c0] w fun e w' => ∃ v0_ : Value, e = .returned (v0_) ∧ Kd.R (Kd.int .u8) 5 w' w.heap.size (fun _ => True) v0_ r ∧ Below w.heap.size w w' := by
  have HR := Aside0.mk hr0
  clear hr0
  unfold copied.f at h
  have hl : l0.length < 140737488355328 := by
    by_cases hh : l0.length < 140737488355328
    · exact hh
    · rw [if_neg hh] at h; simp at h
  rw [if_pos hl] at h
  obtain rfl := Option.some.inj h
  have HL := Aside0.mk hl
  clear hl h
  go_enter Try.func54, Try.ntmps54
  go_wp2_with (at_builtin; refine Kd.R_append_rows (Kd.int .u8) (w0 := w) w.heap.size ?hg (.const (.slice none 0 0)) (.tmp 3) 22 5 (.int .u8 0) 1 ?ho Try.underlying22 info5 rfl (by decide) (by decide) (.slice none 0 0) [] l0 A0 l0.length c0 (fun _ => True) (fun _ => False) ?hs ?hx (Kd.R_nil _ _ _ _ _) HR.out ?hKM ?hokp (fun _ _ => trivial) (Below.refl _ _) (Nat.le_refl _) ?hl ?hh; (case hg => rfl); (case ho => rfl); (case hs => rfl); (case hx => rfl); (case hKM => exact fun _ _ h => h); (case hokp => exact fun _ h => h.elim); (case hl => have := HL.out; simp; omega); intro v1 w1 HO hb hg hat)
  go_ret
  exact ⟨_, rfl, HO, hb⟩
def baileyref02_Open.f (l0 : List Int) : Option (List Int × Int × Int) := if l0.length < 140737488355328 then some (l0, 0, 0) else none
set_option maxHeartbeats 400000 in
theorem baileyref02_Open.calls (A0 : Option Addr) (c0 : Nat) (l0 : List Int) (r1 : List Int) (r2 r3 : Int) (w0 w : World) (hB : Below w0.heap.size w0 w) (hr0 : Kd.C (Kd.int .u8) w A0 l0.length l0) (hc0 : l0.length ≤ c0) (h : baileyref02_Open.f l0 = some (r1, r2, r3)) :
    Calls Try.prog 34 #[.slice A0 l0.length c0] w fun e w' => ∃ g_ : Nat, e = .returned (.pointer (some ⟨g_, 0, none⟩)) ∧ IsS66 w0 w' g_ r1 r2 r3 ∧ Below w0.heap.size w0 w' ∧ Below w.heap.size w w' := by
  unfold baileyref02_Open.f at h
  by_cases hl : l0.length < 140737488355328
  · rw [if_pos hl] at h
    simp only [Option.some.injEq, Prod.mk.injEq] at h
    obtain ⟨rfl, rfl, rfl⟩ := h
    have HR := Aside0.mk hr0
    have HB := Aside0.mk hB
    have HC := Aside0.mk hc0
    have HRO := Aside0.mk (show copied.f l0 = some l0 from if_pos hl)
    clear hr0 hB hc0 hl
    go_enter Try.func34, Try.ntmps34
    go_wp2_with fail
    refine (copied.calls A0 c0 l0 l0 _ HR.out HC.out HRO.out).mono ?_
    rintro e w1 ⟨v, rfl, hR1, hb1⟩
    obtain ⟨A1, c1, e1, hc1, hrd⟩ := Kd.R_reads hR1
    subst e1
    have HF1 := Aside0.mk (Kd.R_F (Kd.R_bound hR1))
    have HB1 := Aside0.mk hb1
    have HC1 := Aside0.mk hc1
    have hz : w.heap.size ≤ w1.heap.size := hb1.size
    clear hR1 hb1 hrd hc1
    go_wp2
    go_ret
    have hbox := blk_new w1 (.cells #[.slice A1 l0.length c1, .int .i64 0] 66)
    refine ⟨_, rfl, ⟨A1, c1, by simpa [rdRest] using hbox, Nat.le_trans HB.out.size hz, by simpa [rdRest] using HC1.out, ?_, by omega, by omega⟩, below_alloc (below_then HB.out HB.out.size HB1.out) _, below_alloc HB1.out _⟩
    have hF2 := Kd.F_mono (ok' := fun k => U8 (w1.alloc (.cells #[.slice A1 l0.length c1, .int .i64 0] 66)) k) (Kd.F_alloc HF1.out (.cells #[.slice A1 l0.length c1, .int .i64 0] 66)) (fun k hk => by
      obtain ⟨_, _, _, q, hq, cells, hcs⟩ := hk
      have hq5 : q = 5 := by simpa [Kd.int, Kd.scalar] using hq
      subst hq5
      exact ⟨cells, (0, 0), blk_alloc hcs _⟩)
    simpa [rdRest] using hF2
  · rw [if_neg hl] at h; cases h
def baileyref02_Reader_Yes.f (f0 : List Int) (f1 f2 : Int) : Option (Bool × Int × Int) := some (rdYes f0 f1 f2)
set_option maxHeartbeats 1000000 in
theorem baileyref02_Reader_Yes.calls (g : Nat) (f0 : List Int) (f1 f2 : Int) (r1 : Bool) (r2 r3 : Int) (w0 w : World) (hI : IsS66 w0 w g f0 f1 f2) (hB : Below w0.heap.size w0 w) (h : baileyref02_Reader_Yes.f f0 f1 f2 = some (r1, r2, r3)) :
    Calls Try.prog 37 #[.pointer (some ⟨g, 0, none⟩)] w fun e w' => e = .returned (.bool r1) ∧ IsS66 w0 w' g f0 r2 r3 ∧ Below w0.heap.size w0 w' ∧ KeepBut w w' g none := by
  have HI := Aside0.mk hI
  have HBB := Aside0.mk hB
  unfold baileyref02_Reader_Yes.f rdYes at h
  obtain ⟨A, c, hb, hge, hc, hF, h0, h1⟩ := hI
  have c0' : w.cell? ⟨g, 0, none⟩ = some (.slice A (rdRest f0 f1 f2).length c) := blk_cell hb 0
  have f0' : w.frozen? ⟨g, 0, none⟩ = false := blk_frozen hb 0
  have c1' : w.cell? ⟨g, 1, none⟩ = some (.int .i64 f2) := blk_cell hb 1
  have X := Aside0.mk hb
  have HF := Aside0.mk hF
  clear hb hB hF
  by_cases h2 : f2 = 0
  · subst h2
    rw [if_pos rfl] at h
    cases hR : rdRest f0 f1 0 with
    | nil =>
      rw [hR] at h c0' hc X HF
      simp only [Option.some.injEq, Prod.mk.injEq] at h
      obtain ⟨rfl, rfl, rfl⟩ := h
      clear hR
      go_enter Try.func37, Try.ntmps37
      go_wp2_with fail
      refine (baileyref02_Reader_Fail.calls g f0 f1 0 4 f1 4 w0 _ HI.out HBB.out rfl).mono ?_
      rintro e w3 ⟨rfl, hI3, hB3, hK3⟩
      have HI3 := Aside0.mk hI3
      obtain ⟨A3, c3, hb3, _⟩ := hI3
      have c13 : w3.cell? ⟨g, 1, none⟩ = some (.int .i64 4) := blk_cell hb3 1
      have HB3 := Aside0.mk hB3
      have HK3 := Aside0.mk hK3
      clear hb3 hB3 hK3 c0' c1' f0'
      go_wp2
      go_ret
      exact ⟨rfl, HI3.out, HB3.out, HK3.out⟩
    | cons x xs =>
      rw [hR] at h c0' hc X HF
      have HR := Aside0.mk hR
      clear hR
      simp only at h
      obtain ⟨ad, e1, hcell⟩ := Kd.at_int (Kd.F_now HF.out) (0 : Int) (by omega) (by simp)
      subst e1
      have hc0 : w.cell? ad = some (.int .u8 x) := by simpa [Addr.add, rd] using hcell
      clear hcell
      have hlen : 1 ≤ (x :: xs).length := by simp
      have HL := Aside0.mk hlen
      clear hlen
      generalize hT : x :: xs = T at *
      have HT := Aside0.mk hT
      clear hT
      have hp := HL.out
      have hz : ((T.length : Int) == 0) = false := beq_eq_false_iff_ne.mpr (by omega)
      have hz2 : (T.length == 0) = false := beq_eq_false_iff_ne.mpr (by omega)
      have hz3 : ¬ (T = []) := fun h => by rw [h] at hp; simp at hp
      by_cases hx : 1 < x
      · rw [if_pos hx] at h
        simp only [Option.some.injEq, Prod.mk.injEq] at h
        obtain ⟨rfl, rfl, rfl⟩ := h
        have hx1 : decide (1 < x) = true := decide_eq_true hx
        go_enter Try.func37, Try.ntmps37
        go_wp2_with fail
        refine (baileyref02_Reader_Fail.calls g f0 f1 0 3 f1 3 w0 _ HI.out HBB.out rfl).mono ?_
        rintro e w3 ⟨rfl, hI3, hB3, hK3⟩
        have HI3 := Aside0.mk (hI3.any (by decide) (show 0 ≤ f1 + 1 by omega) (by
          have : (rdRest f0 f1 0).length = T.length := by rw [HR.out]
          unfold rdRest at this; rw [if_pos rfl, List.length_drop] at this; omega))
        obtain ⟨A3, c3, hb3, _⟩ := hI3
        have c13 : w3.cell? ⟨g, 1, none⟩ = some (.int .i64 3) := blk_cell hb3 1
        have HB3 := Aside0.mk hB3
        have HK3 := Aside0.mk hK3
        clear hb3 hB3 hK3 c0' c1' f0' hc0
        go_wp2
        go_ret
        exact ⟨rfl, HI3.out, HB3.out, HK3.out⟩
      · rw [if_neg hx] at h
        simp only [Option.some.injEq, Prod.mk.injEq] at h
        obtain ⟨rfl, rfl, rfl⟩ := h
        have hx1 : decide (1 < x) = false := decide_eq_false hx
        by_cases hc1 : c = 1
        · subst hc1
          go_enter Try.func37, Try.ntmps37
          go_wp2
          go_ret
          have hfin := close66 (m := 1) X.out hge HF.out h0 h1 HR.out HL.out hc (A' := some ad) (c' := 0) (by simp) rfl
          have e1 : T.length - 1 = 0 := by omega
          rw [e1] at hfin
          exact ⟨rfl, hfin, below_set HBB.out hge, KeepBut.set_ (KeepBut.refl _ _ _) _ _⟩
        · go_enter Try.func37, Try.ntmps37
          go_wp2
          go_ret
          have hfin := close66 (m := 1) X.out hge HF.out h0 h1 HR.out HL.out hc (A' := some ⟨ad.block, ad.off + 1, none⟩) (c' := c - 1) (by simp [hc1, Addr.add]) rfl
          exact ⟨rfl, hfin, below_set HBB.out hge, KeepBut.set_ (KeepBut.refl _ _ _) _ _⟩
  · rw [if_neg h2] at h
    simp only [Option.some.injEq, Prod.mk.injEq] at h
    obtain ⟨rfl, rfl, rfl⟩ := h
    have hf1 : (f2 == 0) = false := beq_eq_false_iff_ne.mpr h2
    have hf2 : (f2 != 0) = true := bne_iff_ne.mpr h2
    clear c0'
    go_enter Try.func37, Try.ntmps37
    go_wp2
    go_ret
    exact ⟨rfl, HI.out, HBB.out, KeepBut.refl _ _ _⟩

end Go.Proofs.Ytagpdfekeppbgaa.X
