/- One part of the proofs about layer 2: the reader of the reference: numbers. No condition.
   (Lines that the kit's print wrote for this claim, and walks of ours, as one text of our own: not a printed one.) -/
import Derived.Test.YtagpdfekeppbgaaProg
import Derived.Below
import Derived.Deep.Draws
import Derived.Deep.AppendLies
import Derived.Maps.AppendAt
import Derived.OwnWalk
import Derived.Laws.BytesArg
import Derived.Laws.MakeOwn
import Derived.Laws.OwnMore
import Derived.Deep.OwnRows
import Derived.Tactics
import Derived.Lib.ConvBytes
import Derived.Laws.Slices
import Derived.WalkKit
import Derived.KernelRfl
import Derived.RowKit3
import Derived.Deep.LoopGhost
import Derived.Deep.QuietTactic
import Derived.BigQuiet
import Derived.WideLaws
import Derived.Deep.DeepCutAuto
import Derived.Deep.CutBlock
import Derived.Deep.RegionHeld3
import Derived.Laws.Rows
import Derived.Lib.AppendStr
import Derived.ArgAppend
import Derived.Laws.IdiomCopy
import Derived.OrdersHeld
import Derived.Laws.BitsLemmas
import Derived.RowKit
import Derived.Test.YtagpdfekeppbgaaWWords
import Derived.Test.YtagpdfekeppbgaaWLast
import Derived.Test.YtagpdfekeppbgaaWTab
import Derived.Test.YtagpdfekeppbgaaWFour
import Derived.Test.YtagpdfekeppbgaaWQPut
import Derived.Test.YtagpdfekeppbgaaWApart
import Derived.Test.YtagpdfekeppbgaaWArr
import Derived.Test.YtagpdfekeppbgaaWZeros
import Derived.Test.YtagpdfekeppbgaaWFoot
import Derived.Test.YtagpdfekeppbgaaWKept
import Derived.Test.YtagpdfekeppbgaaWShare
import Derived.Test.YtagpdfekeppbgaaWN
import Derived.Test.YtagpdfekeppbgaaWFootNe
import Derived.Test.YtagpdfekeppbgaaWAt
import Derived.Test.YtagpdfekeppbgaaWEqStruct
import Derived.Test.YtagpdfekeppbgaaWRepsOne
import Derived.Test.YtagpdfekeppbgaaWInv
import Derived.Test.YtagpdfekeppbgaaWInvWords
import Derived.Test.YtagpdfekeppbgaaWGuard
import Derived.Test.YtagpdfekeppbgaaWNEv
import Derived.Test.YtagpdfekeppbgaaWMore
import Derived.WalkSpells
import Derived.Outline
import Derived.Laws.CopyOwn
import Derived.Test.YtagpdfekeppbgaaOPkH
import Derived.Lib.SlBytesConst
namespace Go.Proofs.Ytagpdfekeppbgaa.X
open Go.RowKit Go.Proofs.YtagpdfekeppbgaaW.PrintWords Go.Proofs.YtagpdfekeppbgaaW.PrintLast Go.Proofs.YtagpdfekeppbgaaW.PrintMore
attribute [local go_sem] max2_int min2_int max_two min_two max_three min_three max_four min_four
set_option linter.unusedVariables false
set_option linter.unusedSimpArgs false
theorem rem8 (x : Int) : wrap64 (Int.tmod x 128) = Int.tmod x 128 := by
  have h := Int.tmod_lt_of_pos x (show (0 : Int) < 128 by decide)
  have h2 : -128 < Int.tmod x 128 := by
    have := Int.lt_tmod_of_pos x (show (0 : Int) < 128 by decide)
    omega
  unfold wrap64; omega
/-- The reference's loop: a number is being read; or an error has been told. -/
def NRel (w0 w : World) (g : Nat) (f0 : List Int) (f1 : Int) (R : List Int) (kq : Nat) (v i : Value) (wr : World) : Prop :=
  (∃ k : Nat, k ≤ R.length ∧ k ≤ 8 ∧ i = .int .i64 k ∧ v = .int .i64 (numV (R.take k)) ∧ numW k (R.drop k) = numW 0 R ∧ R.length - k < kq ∧ ∃ n, wr = w.drewN n) ∨
  (∃ i' v' : Int, -1 ≤ i' ∧ i' ≤ 100 ∧ i = .int .i64 i' ∧ v = .int .i64 v' ∧ (numW 0 R).1 ≠ 0 ∧ IsS66 w0 wr g f0 f1 (numW 0 R).1 ∧ Below w0.heap.size w0 wr ∧ KeepBut w wr g none)
def baileyref02_Reader_Num.f (f0 : List Int) (f1 f2 most : Int) : Option (Int × Int × Int) :=
  if f2 = 0 then some ((rdNum (rdRest f0 f1 0) most).1, f1 + (rdNum (rdRest f0 f1 0) most).2.1, (rdNum (rdRest f0 f1 0) most).2.2) else some (0, f1, f2)
set_option maxHeartbeats 1000000 in
set_option maxRecDepth 100000 in
theorem baileyref02_Reader_Num.calls (g : Nat) (f0 : List Int) (f1 f2 a1 : Int) (r1 r2 r3 : Int) (w0 w : World) (hN : ∀ x ∈ f0, 0 ≤ x) (hI : IsS66 w0 w g f0 f1 f2) (hB : Below w0.heap.size w0 w) (h : baileyref02_Reader_Num.f f0 f1 f2 a1 = some (r1, r2, r3)) :
    Calls Try.prog 35 #[.pointer (some ⟨g, 0, none⟩), .int .i64 a1] w fun e w' => e = .returned (.int .i64 r1) ∧ IsS66 w0 w' g f0 r2 r3 ∧ Below w0.heap.size w0 w' ∧ KeepBut w w' g none := by
  have HI := Aside0.mk hI
  have HBB := Aside0.mk hB
  have HH := Aside0.mk h
  have HP := Aside0.mk hI.pos
  have HN := Aside0.mk hN
  clear hN
  clear hB h
  obtain ⟨A, c, hb, hge, hc, hF, h0, h1⟩ := hI
  have c1' : w.cell? ⟨g, 1, none⟩ = some (.int .i64 f2) := blk_cell hb 1
  have c0' : w.cell? ⟨g, 0, none⟩ = some (.slice A (rdRest f0 f1 f2).length c) := blk_cell hb 0
  have f0' : w.frozen? ⟨g, 0, none⟩ = false := blk_frozen hb 0
  have X := Aside0.mk hb
  have HF := Aside0.mk hF
  clear hb hF
  by_cases h2 : f2 = 0
  · subst h2
    have hf : baileyref02_Reader_Num.f f0 f1 0 a1 = _ := if_pos rfl
    rw [hf] at HH
    clear hf
    generalize hR : rdRest f0 f1 0 = R at *
    have HR := Aside0.mk hR
    clear hR
    have hm : R.length ≤ 9223372036854775807 := (Kd.F_now HF.out).2.1
    go_enter Try.func35, Try.ntmps35
    go_wp2
    go_loopg [5, 6] (R.length + 1) (fun kq v i wr => NRel w0 w g f0 f1 R kq v i wr)
    case atStart => exact .inl ⟨0, Nat.zero_le _, Nat.zero_le _, rfl, rfl, rfl, by omega, 0, rfl⟩
    case round =>
      rcases hrel with ⟨k, hk, hk8, rfl, rfl, hw, hkq, n, rfl⟩ | ⟨i', v', hi0, hi1, rfl, rfl, hne, hI2, hB2, hK2⟩
      · have HW := Aside0.mk hw
        have HKQ := Aside0.mk hkq
        clear hw hkq
        by_cases hlt : k < R.length
        · obtain ⟨ad, e1, hcell⟩ := Kd.at_int (Kd.F_now HF.out) (k : Int) (by omega) (by omega)
          subst e1
          rw [Int.toNat_natCast] at hcell
          have hst := numW_step hlt
          rw [HW.out] at hst
          have HST := Aside0.mk hst
          have HS := Aside0.mk (numV_take R k hlt)
          have hv := numV_small (R.take k) (by rw [List.length_take]; omega)
          have hx0 : 0 ≤ rd R (k : Int) := HN.out _ (by
            have hmem : rd R (k : Int) ∈ R := by
              have e : rd R (k : Int) = R[k] := by simp [rd, List.getD_eq_getElem?_getD, List.getElem?_eq_getElem hlt]
              rw [e]; exact List.getElem_mem hlt
            have hRd : f0.drop f1.toNat = R := by rw [← HR.out]; unfold rdRest; rw [if_pos rfl]
            exact List.mem_of_mem_drop (i := f1.toNat) (by rw [hRd]; exact hmem))
          clear hst
          have hcell0 : k = 0 → w.cell? ad = some (.int .u8 (rd R (k : Int))) := fun h => by subst h; simpa [Addr.add] using hcell
          have hcell8 : k = 8 → w.cell? (ad.add 8) = some (.int .u8 (rd R (k : Int))) := fun h => by subst h; exact hcell
          generalize rd R (k : Int) = x at *
          generalize numV (R.take k) = v at *
          have hge1 : decide ((R.length : Int) ≤ (k : Int)) = false := decide_eq_false (by omega)
          have hge2 : decide (R.length ≤ k) = false := decide_eq_false (by omega)
          have HX0 := Aside0.mk hx0
          have hrem : Int.tmod x 128 = x % 128 := Int.tmod_eq_emod_of_nonneg hx0
          by_cases hbad : (k = 0 ∧ x = 128) ∨ (k = 8 ∧ 128 ≤ x)
          · have hE := HST.out.trans (if_pos hbad)
            have HE := Aside0.mk hE
            clear hE hrem hx0
            rcases hbad with ⟨hz, hx⟩ | ⟨hz, hx⟩
            · subst hz
              subst hx
              have hc0 := hcell0 rfl
              have hR1 : ¬ (R = []) := fun h => by rw [h] at hlt; simp at hlt
              have hR3 : decide ((R.length : Int) ≤ 0) = false := decide_eq_false (by omega)
              clear hcell0 hcell8
              go_wp2_with (go_at_call 38; refine (baileyref02_Reader_Fail.calls g f0 f1 0 3 f1 3 w0 _ (HI.out.drewN _) (pw_below_drewN HBB.out _) rfl).mono ?_; rintro e w1 ⟨rfl, hI1, hB1, hK1⟩)
              have HI1 := Aside0.mk hI1
              have HB1 := Aside0.mk hB1
              have HK1 := Aside0.mk hK1
              clear hI1 hB1 hK1
              go_wp2
              go_roundg 0
              case measure => have := HKQ.out; omega
              case rel =>
                have hA : (numW 0 R).1 ≠ 0 := by rw [HE.out]; decide
                have hB : IsS66 w0 w1 g f0 f1 (numW 0 R).1 := by rw [HE.out]; exact HI1.out
                have hK : KeepBut w w1 g none := (KeepBut.of_below (pw_below_drewN (Below.refl w.heap.size w) n) g none).trans HK1.out (.inl rfl)
                exact .inr ⟨1, v, by omega, by omega, rfl, rfl, hA, hB, HB1.out, hK⟩
            · have hz8 : ((k : Int) == 8) = true := beq_iff_eq.mpr (by omega)
              have hz0 : ((k : Int) == 0) = false := beq_eq_false_iff_ne.mpr (by omega)
              have hc8 : w.cell? ⟨ad.block, ad.off + 8, none⟩ = some (.int .u8 x) := hcell8 hz
              have hl8 : decide ((8 : Int) < (R.length : Int)) = true := decide_eq_true (by omega)
              have hl8' : 8 < R.length := by omega
              have HZ := Aside0.mk hz
              clear hz hcell0 hcell8
              have hx1 : decide (128 ≤ x) = true := decide_eq_true hx
              go_wp2_with (go_at_call 38; refine (baileyref02_Reader_Fail.calls g f0 f1 0 3 f1 3 w0 _ (HI.out.drewN _) (pw_below_drewN HBB.out _) rfl).mono ?_; rintro e w1 ⟨rfl, hI1, hB1, hK1⟩)
              have HI1 := Aside0.mk hI1
              have HB1 := Aside0.mk hB1
              have HK1 := Aside0.mk hK1
              clear hI1 hB1 hK1
              go_wp2
              go_roundg 0
              case measure => have := HKQ.out; omega
              case rel =>
                have hA : (numW 0 R).1 ≠ 0 := by rw [HE.out]; decide
                have hB : IsS66 w0 w1 g f0 f1 (numW 0 R).1 := by rw [HE.out]; exact HI1.out
                have hK : KeepBut w w1 g none := (KeepBut.of_below (pw_below_drewN (Below.refl w.heap.size w) n) g none).trans HK1.out (.inl rfl)
                exact .inr ⟨(k : Int) + 1, v, by omega, by omega, rfl, rfl, hA, hB, HB1.out, hK⟩
          · have hst := HST.out.trans (if_neg hbad)
            by_cases hl : x < 128
            · have hE := hst.trans (if_pos hl)
              have HE := Aside0.mk hE
              have hl1 : decide (x < 128) = true := decide_eq_true hl
              have hg1 : decide (128 ≤ x) = false := decide_eq_false (by omega)
              have he : (x == 128) = false := beq_eq_false_iff_ne.mpr (by omega)
              have HREM := Aside0.mk hrem
              have hkl : (k : Int) + 1 ≤ (R.length : Int) := by omega
              have hT : (k : Int).toNat + 1 = k + 1 := by omega
              have hrd : rdNum R a1 = if a1 < v * 128 + x % 128 then (0, 0, 5) else (v * 128 + x % 128, (k : Int) + 1, 0) := by
                unfold rdNum
                rw [HE.out]
                simp only [if_true]
                have e1 : ((k : Int) + 1).toNat = k + 1 := by omega
                rw [e1, HS.out]
              have HRD := Aside0.mk hrd
              clear hE hst hrem hT hrd
              by_cases hm1 : a1 < v * 128 + x % 128
              · have hmb : decide (a1 < v * 128 + x % 128) = true := decide_eq_true hm1
                obtain ⟨HH⟩ := HH
                rw [HRD.out, if_pos hm1] at HH
                simp only [Option.some.injEq, Prod.mk.injEq] at HH
                obtain ⟨rfl, rfl, rfl⟩ := HH
                by_cases hz : k = 0
                · subst hz
                  have hc0 := hcell0 rfl
                  have hR1 : ¬ (R = []) := fun h => by rw [h] at hlt; simp at hlt
                  have hR3 : decide ((R.length : Int) ≤ 0) = false := decide_eq_false (by omega)
                  clear hcell0 hcell8
                  by_cases hcm : c = 1
                  · have hz0 : c - (1) = 0 := by omega
                    go_wp2_with (first | (go_at_call 38; (refine (baileyref02_Reader_Fail.calls g f0 (f1 + ((1 : Nat) : Int)) 0 5 _ 5 w0 _ (close66 (m := 1) (A' := some ad) (c' := 0) (show (w.drewN n).heap[g]? = _ from X.out) hge (Kd.F_drewN HF.out n) h0 h1 HR.out (by omega) hc (by simp [*, Addr.add]) (by omega)) (below_set (pw_below_drewN HBB.out n) hge) rfl).mono ?_); rintro e w1 ⟨rfl, hI1, hB1, hK1⟩; have HI1 := Aside0.mk (hI1.any (by decide) HP.out.1 HP.out.2); have HB1 := Aside0.mk hB1; have HK1 := Aside0.mk ((KeepBut.set_ (KeepBut.of_below (pw_below_drewN (Below.refl w.heap.size w) n) g none) _ _).trans hK1 (.inl rfl)); clear hI1 hB1 hK1))
                    go_ret
                    exact ⟨rfl, by simpa using HI1.out, HB1.out, HK1.out⟩
                  · go_wp2_with (first | (go_at_call 38; (refine (baileyref02_Reader_Fail.calls g f0 (f1 + ((1 : Nat) : Int)) 0 5 _ 5 w0 _ (close66 (m := 1) (A' := some ⟨ad.block, ad.off + (1), none⟩) (c' := c - (1)) (show (w.drewN n).heap[g]? = _ from X.out) hge (Kd.F_drewN HF.out n) h0 h1 HR.out (by omega) hc (by simp [*, Addr.add]) (by omega)) (below_set (pw_below_drewN HBB.out n) hge) rfl).mono ?_); rintro e w1 ⟨rfl, hI1, hB1, hK1⟩; have HI1 := Aside0.mk (hI1.any (by decide) HP.out.1 HP.out.2); have HB1 := Aside0.mk hB1; have HK1 := Aside0.mk ((KeepBut.set_ (KeepBut.of_below (pw_below_drewN (Below.refl w.heap.size w) n) g none) _ _).trans hK1 (.inl rfl)); clear hI1 hB1 hK1))
                    go_ret
                    exact ⟨rfl, by simpa using HI1.out, HB1.out, HK1.out⟩
                · have hz1 : ((k : Int) == 0) = false := beq_eq_false_iff_ne.mpr (by omega)
                  have hz8 : ((k : Int) == 8) = true ∨ ((k : Int) == 8) = false := by cases ((k : Int) == 8) <;> simp
                  clear hcell0
                  rcases hz8 with hz8 | hz8
                  · have hk8 : k = 8 := by have := beq_iff_eq.mp hz8; omega
                    have hc8 : w.cell? ⟨ad.block, ad.off + 8, none⟩ = some (.int .u8 x) := hcell8 hk8
                    have hl8 : decide ((8 : Int) < (R.length : Int)) = true := decide_eq_true (by omega)
                    have hl8' : 8 < R.length := by omega
                    have hl8i : (8 : Int) < (R.length : Int) := by omega
                    have HK8 := Aside0.mk hk8
                    clear hk8 hcell8
                    by_cases hcm : c = k + 1
                    · have hz0 : c - (k + 1) = 0 := by omega
                      go_wp2_with (first | (go_at_call 38; (refine (baileyref02_Reader_Fail.calls g f0 (f1 + ((k + 1 : Nat) : Int)) 0 5 _ 5 w0 _ (close66 (m := k + 1) (A' := some ad) (c' := 0) (show (w.drewN n).heap[g]? = _ from X.out) hge (Kd.F_drewN HF.out n) h0 h1 HR.out (by omega) hc (by simp [*, Addr.add]) (by omega)) (below_set (pw_below_drewN HBB.out n) hge) rfl).mono ?_); rintro e w1 ⟨rfl, hI1, hB1, hK1⟩; have HI1 := Aside0.mk (hI1.any (by decide) HP.out.1 HP.out.2); have HB1 := Aside0.mk hB1; have HK1 := Aside0.mk ((KeepBut.set_ (KeepBut.of_below (pw_below_drewN (Below.refl w.heap.size w) n) g none) _ _).trans hK1 (.inl rfl)); clear hI1 hB1 hK1))
                      go_ret
                      exact ⟨rfl, by simpa using HI1.out, HB1.out, HK1.out⟩
                    · go_wp2_with (first | (go_at_call 38; (refine (baileyref02_Reader_Fail.calls g f0 (f1 + ((k + 1 : Nat) : Int)) 0 5 _ 5 w0 _ (close66 (m := k + 1) (A' := some ⟨ad.block, ad.off + (k + 1), none⟩) (c' := c - (k + 1)) (show (w.drewN n).heap[g]? = _ from X.out) hge (Kd.F_drewN HF.out n) h0 h1 HR.out (by omega) hc (by simp [*, Addr.add]) (by omega)) (below_set (pw_below_drewN HBB.out n) hge) rfl).mono ?_); rintro e w1 ⟨rfl, hI1, hB1, hK1⟩; have HI1 := Aside0.mk (hI1.any (by decide) HP.out.1 HP.out.2); have HB1 := Aside0.mk hB1; have HK1 := Aside0.mk ((KeepBut.set_ (KeepBut.of_below (pw_below_drewN (Below.refl w.heap.size w) n) g none) _ _).trans hK1 (.inl rfl)); clear hI1 hB1 hK1))
                      go_ret
                      exact ⟨rfl, by simpa using HI1.out, HB1.out, HK1.out⟩
                  · clear hcell8
                    by_cases hcm : c = k + 1
                    · have hz0 : c - (k + 1) = 0 := by omega
                      go_wp2_with (first | (go_at_call 38; (refine (baileyref02_Reader_Fail.calls g f0 (f1 + ((k + 1 : Nat) : Int)) 0 5 _ 5 w0 _ (close66 (m := k + 1) (A' := some ad) (c' := 0) (show (w.drewN n).heap[g]? = _ from X.out) hge (Kd.F_drewN HF.out n) h0 h1 HR.out (by omega) hc (by simp [*, Addr.add]) (by omega)) (below_set (pw_below_drewN HBB.out n) hge) rfl).mono ?_); rintro e w1 ⟨rfl, hI1, hB1, hK1⟩; have HI1 := Aside0.mk (hI1.any (by decide) HP.out.1 HP.out.2); have HB1 := Aside0.mk hB1; have HK1 := Aside0.mk ((KeepBut.set_ (KeepBut.of_below (pw_below_drewN (Below.refl w.heap.size w) n) g none) _ _).trans hK1 (.inl rfl)); clear hI1 hB1 hK1))
                      go_ret
                      exact ⟨rfl, by simpa using HI1.out, HB1.out, HK1.out⟩
                    · go_wp2_with (first | (go_at_call 38; (refine (baileyref02_Reader_Fail.calls g f0 (f1 + ((k + 1 : Nat) : Int)) 0 5 _ 5 w0 _ (close66 (m := k + 1) (A' := some ⟨ad.block, ad.off + (k + 1), none⟩) (c' := c - (k + 1)) (show (w.drewN n).heap[g]? = _ from X.out) hge (Kd.F_drewN HF.out n) h0 h1 HR.out (by omega) hc (by simp [*, Addr.add]) (by omega)) (below_set (pw_below_drewN HBB.out n) hge) rfl).mono ?_); rintro e w1 ⟨rfl, hI1, hB1, hK1⟩; have HI1 := Aside0.mk (hI1.any (by decide) HP.out.1 HP.out.2); have HB1 := Aside0.mk hB1; have HK1 := Aside0.mk ((KeepBut.set_ (KeepBut.of_below (pw_below_drewN (Below.refl w.heap.size w) n) g none) _ _).trans hK1 (.inl rfl)); clear hI1 hB1 hK1))
                      go_ret
                      exact ⟨rfl, by simpa using HI1.out, HB1.out, HK1.out⟩
              · have hmb : decide (a1 < v * 128 + x % 128) = false := decide_eq_false hm1
                obtain ⟨HH⟩ := HH
                rw [HRD.out, if_neg hm1] at HH
                simp only [Option.some.injEq, Prod.mk.injEq] at HH
                obtain ⟨rfl, rfl, rfl⟩ := HH
                by_cases hz : k = 0
                · subst hz
                  have hc0 := hcell0 rfl
                  have hR1 : ¬ (R = []) := fun h => by rw [h] at hlt; simp at hlt
                  have hR3 : decide ((R.length : Int) ≤ 0) = false := decide_eq_false (by omega)
                  clear hcell0 hcell8
                  go_wp2
                  all_goals
                    go_ret
                    exact ⟨rfl, by first
                      | exact close66 (m := 1) (show (w.drewN n).heap[g]? = _ from X.out) hge (Kd.F_drewN HF.out n) h0 h1 HR.out (by omega) hc (by simp [*, Addr.add]) (by omega)
                      | (have q := close66 (w0 := w0) (m := 1) (A' := some ad) (c' := 0) (show (w.drewN n).heap[g]? = _ from X.out) hge (Kd.F_drewN HF.out n) h0 h1 HR.out (by omega) hc (by simp [*]) (by omega)
                         have e1 : R.length - (1) = 0 := by omega
                         rw [e1] at q; exact q), below_set (pw_below_drewN HBB.out n) hge, KeepBut.set_ (KeepBut.of_below (pw_below_drewN (Below.refl _ _) n) g none) _ _⟩
                · have hz1 : ((k : Int) == 0) = false := beq_eq_false_iff_ne.mpr (by omega)
                  have hz8 : ((k : Int) == 8) = true ∨ ((k : Int) == 8) = false := by cases ((k : Int) == 8) <;> simp
                  clear hcell0
                  rcases hz8 with hz8 | hz8
                  · have hk8 : k = 8 := by have := beq_iff_eq.mp hz8; omega
                    have hc8 : w.cell? ⟨ad.block, ad.off + 8, none⟩ = some (.int .u8 x) := hcell8 hk8
                    have hl8 : decide ((8 : Int) < (R.length : Int)) = true := decide_eq_true (by omega)
                    have hl8' : 8 < R.length := by omega
                    have hl8i : (8 : Int) < (R.length : Int) := by omega
                    have HK8 := Aside0.mk hk8
                    clear hk8 hcell8
                    go_wp2
                    all_goals
                      go_ret
                      exact ⟨rfl, by first
                        | exact close66 (m := k + 1) (show (w.drewN n).heap[g]? = _ from X.out) hge (Kd.F_drewN HF.out n) h0 h1 HR.out (by omega) hc (by simp [*, Addr.add]) (by omega)
                        | (have q := close66 (w0 := w0) (m := k + 1) (A' := some ad) (c' := 0) (show (w.drewN n).heap[g]? = _ from X.out) hge (Kd.F_drewN HF.out n) h0 h1 HR.out (by omega) hc (by simp [*]) (by omega)
                           have e1 : R.length - (k + 1) = 0 := by omega
                           rw [e1] at q; exact q), below_set (pw_below_drewN HBB.out n) hge, KeepBut.set_ (KeepBut.of_below (pw_below_drewN (Below.refl _ _) n) g none) _ _⟩
                  · clear hcell8
                    go_wp2
                    all_goals
                      go_ret
                      exact ⟨rfl, by first
                        | exact close66 (m := k + 1) (show (w.drewN n).heap[g]? = _ from X.out) hge (Kd.F_drewN HF.out n) h0 h1 HR.out (by omega) hc (by simp [*, Addr.add]) (by omega)
                        | (have q := close66 (w0 := w0) (m := k + 1) (A' := some ad) (c' := 0) (show (w.drewN n).heap[g]? = _ from X.out) hge (Kd.F_drewN HF.out n) h0 h1 HR.out (by omega) hc (by simp [*]) (by omega)
                           have e1 : R.length - (k + 1) = 0 := by omega
                           rw [e1] at q; exact q), below_set (pw_below_drewN HBB.out n) hge, KeepBut.set_ (KeepBut.of_below (pw_below_drewN (Below.refl _ _) n) g none) _ _⟩
            · have hE := Aside0.mk (hst.trans (if_neg hl)).symm
              have hk8 : k ≠ 8 := fun h => hbad (.inr ⟨h, by omega⟩)
              have hl1 : decide (x < 128) = false := decide_eq_false hl
              have HREM := Aside0.mk hrem
              clear hst hrem
              by_cases hz : k = 0
              · subst hz
                have hc0 := hcell0 rfl
                have he : (x == 128) = false := beq_eq_false_iff_ne.mpr (by rintro rfl; exact hbad (.inl ⟨rfl, rfl⟩))
                have hR1 : ¬ (R = []) := fun h => by rw [h] at hlt; simp at hlt
                have hR3 : decide ((R.length : Int) ≤ 0) = false := decide_eq_false (by omega)
                clear hcell0 hcell8
                go_wp2
                go_roundg (gk - 1)
                case measure => have := HKQ.out; omega
                case rel =>
                  exact .inl ⟨1, by omega, by omega, rfl, by rw [HS.out], hE.out, by have := HKQ.out; omega, _, rfl⟩
              · have hz1 : ((k : Int) == 0) = false := beq_eq_false_iff_ne.mpr (by omega)
                have hz8 : ((k : Int) == 8) = false := beq_eq_false_iff_ne.mpr (by omega)
                clear hcell0 hcell8
                go_wp2
                go_roundg (gk - 1)
                case measure => have := HKQ.out; omega
                case rel =>
                  exact .inl ⟨k + 1, by omega, by omega, by go_num, by rw [HS.out], hE.out, by have := HKQ.out; omega, _, rfl⟩
        · have hE := HW.out.symm.trans (numW_end (by omega))
          have HE := Aside0.mk hE
          clear hE
          have hge1 : decide ((R.length : Int) ≤ (k : Int)) = true := decide_eq_true (by omega)
          have hge2 : decide (R.length ≤ k) = true := decide_eq_true (by omega)
          go_wp2_with (go_at_call 38; refine (baileyref02_Reader_Fail.calls g f0 f1 0 4 f1 4 w0 _ (HI.out.drewN _) (pw_below_drewN HBB.out _) rfl).mono ?_; rintro e w1 ⟨rfl, hI1, hB1, hK1⟩)
          have HI1 := Aside0.mk hI1
          have HB1 := Aside0.mk hB1
          have HK1 := Aside0.mk hK1
          clear hI1 hB1 hK1
          go_wp2
          go_roundg 0
          case measure => have := HKQ.out; omega
          case rel => exact .inr ⟨_, _, by omega, by omega, rfl, rfl, by rw [HE.out]; decide, by rw [HE.out]; exact HI1.out, HB1.out, (KeepBut.of_below (pw_below_drewN (Below.refl _ _) _) g none).trans HK1.out (.inl rfl)⟩
      · obtain ⟨HH⟩ := HH
        have hneb : ((numW 0 R).1 == 0) = false := beq_eq_false_iff_ne.mpr hne
        have hH2 : rdNum R a1 = (0, 0, (numW 0 R).1) := if_neg hne
        rw [hH2] at HH
        simp only [Option.some.injEq, Prod.mk.injEq] at HH
        obtain ⟨rfl, rfl, rfl⟩ := HH
        have HI2 := Aside0.mk hI2
        obtain ⟨A2, c2, hb2, _⟩ := hI2
        have c12 : wr.cell? ⟨g, 1, none⟩ = some (.int .i64 (numW 0 R).1) := blk_cell hb2 1
        have HB2 := Aside0.mk hB2
        have HK2 := Aside0.mk hK2
        have HNE := Aside0.mk hne
        clear hb2 hB2 hK2 hH2 c1' c0' f0' hne
        generalize hee : (numW 0 R).1 = er at *
        have HEE := Aside0.mk hee
        clear hee
        go_wp2
        go_ret
        exact ⟨rfl, by rw [HEE.out]; simpa using HI2.out, HB2.out, HK2.out⟩
  · have hf : baileyref02_Reader_Num.f f0 f1 f2 a1 = _ := if_neg h2
    rw [hf] at HH
    obtain ⟨HH⟩ := HH
    simp only [Option.some.injEq, Prod.mk.injEq] at HH
    obtain ⟨rfl, rfl, rfl⟩ := HH
    have hf1 : (f2 == 0) = false := beq_eq_false_iff_ne.mpr h2
    clear hf c0' f0'
    go_enter Try.func35, Try.ntmps35
    go_wp2
    go_loopg [5, 6] 0 (fun kq v i wr => wr = w)
    case atStart => rfl
    case round =>
      subst hrel
      go_wp2
      go_ret
      exact ⟨rfl, HI.out, HBB.out, KeepBut.refl _ _ _⟩
end Go.Proofs.Ytagpdfekeppbgaa.X
