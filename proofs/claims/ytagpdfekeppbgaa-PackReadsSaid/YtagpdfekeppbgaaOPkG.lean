/- One part of the proofs about layer 2: the reader of the reference: fails, left, error, end. No condition.
   (Lines that the kit's print wrote for this claim, and walks of ours, as one text of our own: not a printed one.) -/
import Derived.Test.YtagpdfekeppbgaaProg
import Derived.Below
import Derived.Deep.Draws
import Derived.Deep.AppendLies
import Derived.Maps.AppendAt
import Derived.OwnWalk
import Derived.Laws.BytesArg
import Derived.Laws.MakeOwn
import Derived.Laws.OwnMore
import Derived.Deep.OwnRows
import Derived.Tactics
import Derived.Lib.ConvBytes
import Derived.Laws.Slices
import Derived.WalkKit
import Derived.KernelRfl
import Derived.RowKit3
import Derived.Deep.LoopGhost
import Derived.Deep.QuietTactic
import Derived.BigQuiet
import Derived.WideLaws
import Derived.Deep.DeepCutAuto
import Derived.Deep.CutBlock
import Derived.Deep.RegionHeld3
import Derived.Laws.Rows
import Derived.Lib.AppendStr
import Derived.ArgAppend
import Derived.Laws.IdiomCopy
import Derived.OrdersHeld
import Derived.Laws.BitsLemmas
import Derived.RowKit
import Derived.Test.YtagpdfekeppbgaaWWords
import Derived.Test.YtagpdfekeppbgaaWLast
import Derived.Test.YtagpdfekeppbgaaWTab
import Derived.Test.YtagpdfekeppbgaaWFour
import Derived.Test.YtagpdfekeppbgaaWQPut
import Derived.Test.YtagpdfekeppbgaaWApart
import Derived.Test.YtagpdfekeppbgaaWArr
import Derived.Test.YtagpdfekeppbgaaWZeros
import Derived.Test.YtagpdfekeppbgaaWFoot
import Derived.Test.YtagpdfekeppbgaaWKept
import Derived.Test.YtagpdfekeppbgaaWShare
import Derived.Test.YtagpdfekeppbgaaWN
import Derived.Test.YtagpdfekeppbgaaWFootNe
import Derived.Test.YtagpdfekeppbgaaWAt
import Derived.Test.YtagpdfekeppbgaaWEqStruct
import Derived.Test.YtagpdfekeppbgaaWRepsOne
import Derived.Test.YtagpdfekeppbgaaWInv
import Derived.Test.YtagpdfekeppbgaaWInvWords
import Derived.Test.YtagpdfekeppbgaaWGuard
import Derived.Test.YtagpdfekeppbgaaWNEv
import Derived.Test.YtagpdfekeppbgaaWMore
import Derived.WalkSpells
import Derived.Outline
import Derived.Laws.CopyOwn
import Derived.Test.YtagpdfekeppbgaaOPkE
import Derived.Lib.SlBytesConst
namespace Go.Proofs.Ytagpdfekeppbgaa.X
open Go.RowKit Go.Proofs.YtagpdfekeppbgaaW.PrintWords Go.Proofs.YtagpdfekeppbgaaW.PrintLast Go.Proofs.YtagpdfekeppbgaaW.PrintMore
attribute [local go_sem] max2_int min2_int max_two min_two max_three min_three max_four min_four
set_option linter.unusedVariables false
set_option linter.unusedSimpArgs false
/-- The reference's reader at block g of W. -/
def IsS66 (w0 W : World) (g : Nat) (f0 : List Int) (f1 f2 : Int) : Prop :=
  ∃ A c, W.heap[g]? = some (.cells #[.slice A (rdRest f0 f1 f2).length c, .int .i64 f2] 66 (0, 0)) ∧ w0.heap.size ≤ g ∧ (rdRest f0 f1 f2).length ≤ c ∧
    Kd.F (Kd.int .u8) W (U8 W) A (rdRest f0 f1 f2).length (rdRest f0 f1 f2) ∧ 0 ≤ f1 ∧ f1 ≤ f0.length
section
variable {w0 W W1 w w' : World} {g g' : Nat} {f0 : List Int} {f1 f2 p : Int}
theorem IsS66.drewN (h : IsS66 w0 W g f0 f1 f2) (m : Nat) : IsS66 w0 (W.drewN m) g f0 f1 f2 := by
  obtain ⟨A, c, hb, hg, hc, hF, h0, h1⟩ := h
  exact ⟨A, c, hb, hg, hc, Kd.F_drewN hF m, h0, h1⟩
theorem IsS66.keep (h : IsS66 w0 W g f0 f1 f2) (hg : W1.heap[g]? = W.heap[g]?) (hu : ∀ k, U8 W k → W1.heap[k]? = W.heap[k]?) : IsS66 w0 W1 g f0 f1 f2 := by
  obtain ⟨A, c, hb, hge, hc, hF, h0, h1⟩ := h
  exact ⟨A, c, hg.trans hb, hge, hc, F8_far hF hu, h0, h1⟩
theorem IsS66.lt (h : IsS66 w0 W g f0 f1 f2) : g < W.heap.size := by obtain ⟨A, c, hb, _⟩ := h; exact blk_lt hb
theorem IsS66.below (h : IsS66 w0 W g f0 f1 f2) (hw : Below W.heap.size W W1) : IsS66 w0 W1 g f0 f1 f2 :=
  h.keep (hw.block g h.lt) (fun k hk => by obtain ⟨cur, fr, e⟩ := hk; exact hw.block k (blk_lt e))
theorem IsS66.kb (h : IsS66 w0 w g f0 f1 f2) (hk : KeepBut w w' g' none) (hne : g ≠ g') (ht : ∃ cs t fr, w.heap[g']? = some (.cells cs t fr) ∧ t ≠ 5) : IsS66 w0 w' g f0 f1 f2 := by
  obtain ⟨cs, t, fr, hb', ht'⟩ := ht
  exact h.keep (hk.2 g h.lt hne (by simp)) (fun k hk2 => hk.2 k (by obtain ⟨_, _, e⟩ := hk2; exact blk_lt e) (U8.ne hk2 hb' ht') (by simp))
theorem IsS66.any (h : IsS66 w0 W g f0 f1 f2) (he : f2 ≠ 0) (h0 : 0 ≤ p) (h1 : p ≤ f0.length) : IsS66 w0 W g f0 p f2 := by
  obtain ⟨A, c, hb, hg, hc, hF, _, _⟩ := h
  have e1 : rdRest f0 f1 f2 = [] := by unfold rdRest; rw [if_neg he]
  have e2 : rdRest f0 p f2 = [] := by unfold rdRest; rw [if_neg he]
  rw [e1] at hb hc hF
  exact ⟨A, c, by rw [e2]; exact hb, hg, by rw [e2]; exact hc, by rw [e2]; exact hF, h0, h1⟩
theorem IsS66.pos (h : IsS66 w0 W g f0 f1 f2) : 0 ≤ f1 ∧ f1 ≤ f0.length := by
  obtain ⟨A, c, hb, hg, hc, hF, h0, h1⟩ := h
  exact ⟨h0, h1⟩
theorem close66 {R : List Int} {A : Option Addr} {c m : Nat} (hb : w.heap[g]? = some (.cells #[.slice A R.length c, .int .i64 f2] 66 (0, 0))) (hge : w0.heap.size ≤ g)
    (hF : Kd.F (Kd.int .u8) w (U8 w) A R.length R) (h0 : 0 ≤ f1) (h1 : f1 ≤ f0.length) (hR : rdRest f0 f1 f2 = R) (hm : m ≤ R.length) (hc : R.length ≤ c) {A' : Option Addr} {c' : Nat} (hA : A' = if c = m then A else A.map (·.add m)) (hc' : c' = c - m) :
    IsS66 w0 (w.setCell ⟨g, 0, none⟩ (.slice A' (R.length - m) c')) g f0 (f1 + (m : Int)) f2 := by
  have hr2 : rdRest f0 (f1 + (m : Int)) f2 = R.drop m := by
    have := rdRest_take (f0 := f0) (f1 := f1) (f2 := f2) (n := (m : Int)) h0 (by omega)
    rw [hR] at this; rw [← this]; simp
  have hlen : (R.drop m).length = R.length - m := by simp
  have hset : ∀ u k, U8 w k → (w.setCell ⟨g, 0, none⟩ u).heap[k]? = w.heap[k]? := fun u k hk => Below.heap_setCell _ _ _ k (U8.ne hk hb (by decide))
  have hl : R.length ≤ f0.length - f1.toNat := by
    rw [← hR]; unfold rdRest; split <;> simp
  subst hA
  subst hc'
  refine ⟨(if c = m then A else A.map (·.add m)), c - m, ?_, hge, ?_, ?_, by omega, by omega⟩
  · rw [hr2, hlen, blk_set hb]; simp
  · rw [hr2, hlen]; omega
  · rw [hr2, hlen]; exact F8_far (F8_drop hF m hm hc) (hset _)
end
def baileyref02_Reader_Fail.f (f0 : List Int) (f1 f2 e : Int) : Option (Int × Int) := some (f1, if f2 = 0 then e else f2)
set_option maxHeartbeats 400000 in
theorem baileyref02_Reader_Fail.calls (g : Nat) (f0 : List Int) (f1 f2 a1 : Int) (r1 r2 : Int) (w0 w : World) (hI : IsS66 w0 w g f0 f1 f2) (hB : Below w0.heap.size w0 w) (h : baileyref02_Reader_Fail.f f0 f1 f2 a1 = some (r1, r2)) :
    Calls Try.prog 38 #[.pointer (some ⟨g, 0, none⟩), .int .i64 a1] w fun e w' => e = .returned (.tuple #[]) ∧ IsS66 w0 w' g f0 r1 r2 ∧ Below w0.heap.size w0 w' ∧ KeepBut w w' g none := by
  unfold baileyref02_Reader_Fail.f at h
  simp only [Option.some.injEq, Prod.mk.injEq] at h
  obtain ⟨rfl, rfl⟩ := h
  have HI := Aside0.mk hI
  have HB := Aside0.mk hB
  obtain ⟨A, c, hb, hge, hc, hF, h0, h1⟩ := hI
  have c1' : w.cell? ⟨g, 1, none⟩ = some (.int .i64 f2) := blk_cell hb 1
  have f1' : w.frozen? ⟨g, 1, none⟩ = false := blk_frozen hb 1
  have c0' : w.cell? ⟨g, 0, none⟩ = some (.slice A (rdRest f0 f1 f2).length c) := blk_cell hb 0
  have f0' : w.frozen? ⟨g, 0, none⟩ = false := blk_frozen hb 0
  have X := Aside0.mk hb
  have HF := Aside0.mk hF
  have fin : ∀ (e : Int) (W : World), (∃ n, W.heap[g]? = some (.cells #[n, .int .i64 e] 66 (0, 0)) ∧ n = .slice none 0 0) → e ≠ 0 → IsS66 w0 W g f0 f1 e := by
    intro e W hW he
    obtain ⟨n, hW, rfl⟩ := hW
    have hz : rdRest f0 f1 e = [] := by unfold rdRest; rw [if_neg he]
    exact ⟨none, 0, by rw [hz]; exact hW, hge, by rw [hz]; exact Nat.le_refl _, by rw [hz]; exact Kd.F_nil _ _ _, h0, h1⟩
  have FIN := Aside0.mk fin
  clear hb hF hB fin
  by_cases h2 : f2 = 0
  · subst h2
    by_cases he : a1 = 0
    · subst he
      go_enter Try.func38, Try.ntmps38
      go_wp2
      first | go_end0 | ((try simp only [Exit.inBlock, Exit.then]); refine bodyPost_ret (results_none rfl _ _ _) rfl ?_)
      refine ⟨rfl, ?_, below_set HB.out hge, KeepBut.set_ (KeepBut.refl _ _ _) _ _⟩
      refine HI.out.keep ?_ (fun k hk => Below.heap_setCell _ _ _ k (U8.ne hk X.out (by decide)))
      rw [blk_set X.out, X.out]; rfl
    · have he1 : (a1 == 0) = false := beq_eq_false_iff_ne.mpr he
      have he2 : (a1 != 0) = true := bne_iff_ne.mpr he
      have HE := Aside0.mk he
      clear he
      go_enter Try.func38, Try.ntmps38
      go_wp2
      first | go_end0 | ((try simp only [Exit.inBlock, Exit.then]); refine bodyPost_ret (results_none rfl _ _ _) rfl ?_)
      refine ⟨rfl, ?_, below_set (below_set HB.out hge) hge, KeepBut.set_ (KeepBut.set_ (KeepBut.refl _ _ _) _ _) _ _⟩
      first | rw [if_pos rfl] | skip
      exact FIN.out a1 _ ⟨_, blk_set (blk_set X.out 1 _) 0 _, rfl⟩ HE.out
  · have hf : (f2 == 0) = false := beq_eq_false_iff_ne.mpr h2
    have hf2 : (f2 != 0) = true := bne_iff_ne.mpr h2
    have HE := Aside0.mk h2
    go_enter Try.func38, Try.ntmps38
    go_wp2
    first | go_end0 | ((try simp only [Exit.inBlock, Exit.then]); refine bodyPost_ret (results_none rfl _ _ _) rfl ?_)
    refine ⟨rfl, ?_, below_set HB.out hge, KeepBut.set_ (KeepBut.refl _ _ _) _ _⟩
    first | rw [if_neg HE.out] | skip
    exact FIN.out f2 _ ⟨_, blk_set X.out 0 _, rfl⟩ HE.out
def baileyref02_Reader_Left.f (f0 : List Int) (f1 f2 : Int) : Option (Int × Int × Int) := some (((rdRest f0 f1 f2).length : Int), f1, f2)
set_option maxHeartbeats 400000 in
theorem baileyref02_Reader_Left.calls (g : Nat) (f0 : List Int) (f1 f2 : Int) (r1 r2 r3 : Int) (w0 w : World) (hI : IsS66 w0 w g f0 f1 f2) (hB : Below w0.heap.size w0 w) (h : baileyref02_Reader_Left.f f0 f1 f2 = some (r1, r2, r3)) :
    Calls Try.prog 39 #[.pointer (some ⟨g, 0, none⟩)] w fun e w' => e = .returned (.int .i64 r1) ∧ IsS66 w0 w' g f0 r2 r3 ∧ Below w0.heap.size w0 w' ∧ KeepBut w w' g none := by
  unfold baileyref02_Reader_Left.f at h
  simp only [Option.some.injEq, Prod.mk.injEq] at h
  obtain ⟨rfl, rfl, rfl⟩ := h
  have HI := Aside0.mk hI
  have HBB := Aside0.mk hB
  obtain ⟨A, c, hb, _⟩ := hI
  have c0' : w.cell? ⟨g, 0, none⟩ = some (.slice A (rdRest f0 f1 f2).length c) := blk_cell hb 0
  clear hb hB
  generalize hR : rdRest f0 f1 f2 = R at *
  clear hR
  go_enter Try.func39, Try.ntmps39
  go_wp2
  go_ret
  exact ⟨rfl, HI.out, HBB.out, KeepBut.refl _ _ _⟩
def baileyref02_Reader_Err.f (f0 : List Int) (f1 f2 : Int) : Option (Int × Int × Int) := some (f2, f1, f2)
set_option maxHeartbeats 400000 in
theorem baileyref02_Reader_Err.calls (g : Nat) (f0 : List Int) (f1 f2 : Int) (r1 r2 r3 : Int) (w0 w : World) (hI : IsS66 w0 w g f0 f1 f2) (hB : Below w0.heap.size w0 w) (h : baileyref02_Reader_Err.f f0 f1 f2 = some (r1, r2, r3)) :
    Calls Try.prog 40 #[.pointer (some ⟨g, 0, none⟩)] w fun e w' => e = .returned (.int .i64 r1) ∧ IsS66 w0 w' g f0 r2 r3 ∧ Below w0.heap.size w0 w' ∧ KeepBut w w' g none := by
  unfold baileyref02_Reader_Err.f at h
  simp only [Option.some.injEq, Prod.mk.injEq] at h
  obtain ⟨rfl, rfl, rfl⟩ := h
  have HI := Aside0.mk hI
  have HBB := Aside0.mk hB
  obtain ⟨A, c, hb, _⟩ := hI
  have c1' : w.cell? ⟨g, 1, none⟩ = some (.int .i64 f2) := blk_cell hb 1
  clear hb hB
  go_enter Try.func40, Try.ntmps40
  go_wp2
  go_ret
  exact ⟨rfl, HI.out, HBB.out, KeepBut.refl _ _ _⟩
def baileyref02_Reader_End.f (f0 : List Int) (f1 f2 : Int) : Option (Int × Int × Int) := some (if 0 < (rdRest f0 f1 f2).length then 3 else f2, f1, f2)
set_option maxHeartbeats 400000 in
theorem baileyref02_Reader_End.calls (g : Nat) (f0 : List Int) (f1 f2 : Int) (r1 r2 r3 : Int) (w0 w : World) (hI : IsS66 w0 w g f0 f1 f2) (hB : Below w0.heap.size w0 w) (h : baileyref02_Reader_End.f f0 f1 f2 = some (r1, r2, r3)) :
    Calls Try.prog 41 #[.pointer (some ⟨g, 0, none⟩)] w fun e w' => e = .returned (.int .i64 r1) ∧ IsS66 w0 w' g f0 r2 r3 ∧ Below w0.heap.size w0 w' ∧ KeepBut w w' g none := by
  unfold baileyref02_Reader_End.f at h
  simp only [Option.some.injEq, Prod.mk.injEq] at h
  obtain ⟨rfl, rfl, rfl⟩ := h
  have HI := Aside0.mk hI
  have HBB := Aside0.mk hB
  obtain ⟨A, c, hb, _⟩ := hI
  have c0' : w.cell? ⟨g, 0, none⟩ = some (.slice A (rdRest f0 f1 f2).length c) := blk_cell hb 0
  have c1' : w.cell? ⟨g, 1, none⟩ = some (.int .i64 f2) := blk_cell hb 1
  clear hb hB
  by_cases h2 : f2 = 0
  · have hf : (f2 == 0) = true := beq_iff_eq.mpr h2
    by_cases hp : 0 < (rdRest f0 f1 f2).length
    · rw [if_pos hp]
      generalize hR : rdRest f0 f1 f2 = R at *
      clear hR h2
      have hp1 : decide ((0 : Int) < (R.length : Int)) = true := decide_eq_true (by omega)
      have hp2 : decide (0 < R.length) = true := decide_eq_true hp
      go_enter Try.func41, Try.ntmps41
      go_wp2
      go_ret
      exact ⟨rfl, HI.out, HBB.out, KeepBut.refl _ _ _⟩
    · rw [if_neg hp]
      generalize hR : rdRest f0 f1 f2 = R at *
      clear hR h2
      have hp1 : decide ((0 : Int) < (R.length : Int)) = false := decide_eq_false (by omega)
      have hp2 : decide (0 < R.length) = false := decide_eq_false hp
      go_enter Try.func41, Try.ntmps41
      go_wp2
      go_ret
      exact ⟨rfl, HI.out, HBB.out, KeepBut.refl _ _ _⟩
  · have hf : (f2 == 0) = false := beq_eq_false_iff_ne.mpr h2
    have hz : rdRest f0 f1 f2 = [] := by unfold rdRest; rw [if_neg h2]
    have HZ := Aside0.mk hz
    rw [if_neg (by rw [hz]; simp)]
    clear hz h2 c0'
    go_enter Try.func41, Try.ntmps41
    go_wp2
    go_ret
    exact ⟨rfl, HI.out, HBB.out, KeepBut.refl _ _ _⟩

end Go.Proofs.Ytagpdfekeppbgaa.X
