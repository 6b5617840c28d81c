/- One part of the proofs about layer 2: the statement about one number. No condition.
   (Lines that the kit's print wrote for this claim, and walks of ours, as one text of our own: not a printed one.) -/
import Derived.Test.YtagpdfekeppbgaaProg
import Derived.Below
import Derived.Deep.Draws
import Derived.Deep.AppendLies
import Derived.Maps.AppendAt
import Derived.OwnWalk
import Derived.Laws.BytesArg
import Derived.Laws.MakeOwn
import Derived.Laws.OwnMore
import Derived.Deep.OwnRows
import Derived.Tactics
import Derived.Lib.ConvBytes
import Derived.Laws.Slices
import Derived.WalkKit
import Derived.KernelRfl
import Derived.RowKit3
import Derived.Deep.LoopGhost
import Derived.Deep.QuietTactic
import Derived.BigQuiet
import Derived.WideLaws
import Derived.Deep.DeepCutAuto
import Derived.Deep.CutBlock
import Derived.Deep.RegionHeld3
import Derived.Laws.Rows
import Derived.Lib.AppendStr
import Derived.ArgAppend
import Derived.Laws.IdiomCopy
import Derived.OrdersHeld
import Derived.Laws.BitsLemmas
import Derived.RowKit
import Derived.Test.YtagpdfekeppbgaaWWords
import Derived.Test.YtagpdfekeppbgaaWLast
import Derived.Test.YtagpdfekeppbgaaWTab
import Derived.Test.YtagpdfekeppbgaaWFour
import Derived.Test.YtagpdfekeppbgaaWQPut
import Derived.Test.YtagpdfekeppbgaaWApart
import Derived.Test.YtagpdfekeppbgaaWArr
import Derived.Test.YtagpdfekeppbgaaWZeros
import Derived.Test.YtagpdfekeppbgaaWFoot
import Derived.Test.YtagpdfekeppbgaaWKept
import Derived.Test.YtagpdfekeppbgaaWShare
import Derived.Test.YtagpdfekeppbgaaWN
import Derived.Test.YtagpdfekeppbgaaWFootNe
import Derived.Test.YtagpdfekeppbgaaWAt
import Derived.Test.YtagpdfekeppbgaaWEqStruct
import Derived.Test.YtagpdfekeppbgaaWRepsOne
import Derived.Test.YtagpdfekeppbgaaWInv
import Derived.Test.YtagpdfekeppbgaaWInvWords
import Derived.Test.YtagpdfekeppbgaaWGuard
import Derived.Test.YtagpdfekeppbgaaWNEv
import Derived.Test.YtagpdfekeppbgaaWMore
import Derived.WalkSpells
import Derived.Outline
import Derived.Laws.CopyOwn
import Derived.Test.YtagpdfekeppbgaaOPkPQ
import Derived.Lib.SlBytesConst
namespace Go.Proofs.Ytagpdfekeppbgaa.X
open Go.RowKit Go.Proofs.YtagpdfekeppbgaaW.PrintWords Go.Proofs.YtagpdfekeppbgaaW.PrintLast Go.Proofs.YtagpdfekeppbgaaW.PrintMore
attribute [local go_sem] max2_int min2_int max_two min_two max_three min_three max_four min_four
set_option linter.unusedVariables false
set_option linter.unusedSimpArgs false
/-- What the law of one number needs: how the reader answers. -/
theorem rdNum_err (l : List Int) (most : Int) (h : (rdNum l most).2.2 ≠ 0) : (rdNum l most).1 = 0 ∧ (rdNum l most).2.1 = 0 := by
  unfold rdNum at h ⊢
  split at h
  · rename_i h1
    rw [if_pos h1]
    split at h
    · rename_i h2; rw [if_pos h2]; exact ⟨rfl, rfl⟩
    · exact absurd rfl h
  · rename_i h1
    rw [if_neg h1]; exact ⟨rfl, rfl⟩
theorem rdNum_ok (l : List Int) (most : Int) (hb : ∀ x ∈ l, 0 ≤ x ∧ x ≤ 255) (h : (rdNum l most).2.2 = 0) : ∃ wd : Nat, (rdNum l most).2.1 = (wd : Int) ∧ numB (rdNum l most).1 = l.take wd ∧ 1 ≤ wd ∧ wd ≤ 9 ∧ wd ≤ l.length ∧ 0 ≤ (rdNum l most).1 ∧ (rdNum l most).1 ≤ 9223372036854775807 ∧ (rdNum l most).1 ≤ most := by
  unfold rdNum at h ⊢
  split at h
  · rename_i h1
    rw [if_pos h1]
    split at h
    · rename_i h2; simp at h
    · rename_i h2
      rw [if_neg h2]
      obtain ⟨a1, a2, a3, a4, a5, a6⟩ := read_back l (numW 0 l).2 hb (by rw [← h1])
      refine ⟨(numW 0 l).2.toNat, ?_, a1, by omega, by omega, by omega, a5, a6, by omega⟩
      show (numW 0 l).2 = _
      omega
  · rename_i h1
    rcases numW_err l 0 with h2 | ⟨h2, _⟩
    · exact absurd h2 h1
    · simp only at h; omega
theorem eq_calls' (k : Nat) (A0 : Option Addr) (c0 n0 : Nat) (l0 : List Int) (A1 : Option Addr) (c1 n1 : Nat) (l1 : List Int) (r : Bool) (w : World) (h0 : n0 = l0.length) (h1 : n1 = l1.length) (hr0 : Kd.C (Kd.int .u8) w A0 l0.length l0) (hc0 : l0.length ≤ c0) (hr1 : Kd.C (Kd.int .u8) w A1 l1.length l1) (hc1 : l1.length ≤ c1) (h : slices_Equal_byte_byte.f k l0 l1 = some r) :
    Calls Try.prog 15 #[.slice A0 n0 c0, .slice A1 n1 c1] w fun e w' => e = .returned (.bool r) ∧ Drawn0 w w' := by
  subst h0 h1
  exact slices_Equal_byte_byte.calls k A0 c0 l0 A1 c1 l1 r w hr0 hc0 hr1 hc1 h
set_option maxHeartbeats 4000000 in
set_option maxRecDepth 100000 in
theorem baileylaw02_PackOne.calls (A0 : Option Addr) (c0 : Nat) (l0 : List Int) (a1 : Int) (w : World) (hr0 : Kd.C (Kd.int .u8) w A0 l0.length l0) (hc0 : l0.length ≤ c0) (hb : ∀ x ∈ l0, 0 ≤ x ∧ x ≤ 255) (ha : -9223372036854775808 ≤ a1 ∧ a1 ≤ 9223372036854775807) :
    Calls Try.prog 5 #[.slice A0 l0.length c0, .int .i64 a1] w fun e w' => e = .returned (.bool true) ∧ Below w.heap.size w w' := by
  have HR0 := Aside0.mk hr0
  have HC0 := Aside0.mk hc0
  clear hr0 hc0
  by_cases h1 : (l0.length : Int) > 2000
  · have c1 : decide ((l0.length : Int) > 2000) = true := decide_eq_true h1
    have c2 : decide (2000 < (l0.length : Int)) = true := decide_eq_true h1
    go_enter Try.func5, Try.ntmps5
    go_wp2_with (first | (go_at_call 16; refine (baileylaw02_awake.calls true _ rfl).mono ?_; rintro e w1 ⟨rfl, hB1⟩))
    go_ret
    exact ⟨rfl, hB1⟩
  · have c1 : decide ((l0.length : Int) > 2000) = false := decide_eq_false h1
    have c2 : decide (2000 < (l0.length : Int)) = false := decide_eq_false h1
    have HCl := Aside0.mk (show Clone.f l0 = some l0 from if_pos (by omega))
    have HOp := Aside0.mk (show pack_Open.f l0 = some (l0, 0, 0) from if_pos (by omega))
    have e0 : rdRest l0 0 0 = l0 := by simp [rdRest]
    by_cases he : (rdNum l0 a1).2.2 = 0
    · obtain ⟨wd, e1, e2, e3, e4, e5, e6, e7, e8⟩ := rdNum_ok l0 a1 hb he
      obtain ⟨v, hv⟩ : ∃ v, v = (rdNum l0 a1).1 := ⟨_, rfl⟩
      obtain ⟨q, hq⟩ : ∃ q : Nat, l0.length = wd + q := ⟨l0.length - wd, by omega⟩
      have HNm := Aside0.mk (show pack_Reader_Num.f l0 0 0 a1 = some (v, (wd : Int), 0) by
        unfold pack_Reader_Num.f; rw [if_pos rfl, e0, e1, he, ← hv]; simp)
      have HLf := Aside0.mk (show pack_Reader_Left.f l0 (wd : Int) 0 = some ((q : Int), (wd : Int), 0) by
        unfold pack_Reader_Left.f; congr 2; unfold rdRest; rw [if_pos rfl]; simp; omega)
      rw [← hv] at e2 e6 e7 e8
      have hlen : (numB v).length = wd := by rw [e2]; simp; omega
      have HPn := Aside0.mk (show pack_Num.f 4000 [] v = some (l0.take wd) by rw [pack_num [] v 4000 (by simp) (by omega) e7 (by omega)]; simp [e2])
      have HSz := Aside0.mk (show pack_Size.f 4000 v = some (wd : Int) by rw [pack_size v 4000 (by omega) e7 (by omega), hlen])
      have HEq := Aside0.mk (eq_same (l0.take wd) (by simp; omega) 4000 (by simp; omega))
      have HX := Aside0.mk (And.intro hq (And.intro e3 (And.intro e4 (And.intro e5 (And.intro h1 (And.intro e6 e7))))))
      have t1 : wrap64 ((l0.length : Int) - (q : Int)) = (wd : Int) := by unfold wrap64; omega
      have t2 : decide ((wd : Int) ≥ 1) = true := decide_eq_true (by omega)
      have t3 : decide ((wd : Int) ≤ (l0.length : Int)) = true := decide_eq_true (by omega)
      have t4 : decide (v ≤ a1) = true := decide_eq_true e8
      have t5 : decide (1 ≤ (wd : Int)) = true := decide_eq_true (by omega)
      have t6 : decide (wd ≤ l0.length) = true := decide_eq_true (by omega)
      have k1 : wd ≤ c0 := by have := HC0.out; omega
      have k2 : (wd : Int) ≤ (c0 : Int) := by omega
      have k3 : ((wd : Int) ≤ (c0 : Int)) = True := eq_true k2
      have k4 : (wd ≤ c0) = True := eq_true k1
      have k5 : ((wd : Int) < 0) = False := eq_false (by omega)
      clear e1 he hv hq e2 e3 e4 e5 e6 e7 e8 hlen h1
      go_enter Try.func5, Try.ntmps5
      go_wp2_with (first | (go_at_call 17; refine (Clone.calls A0 c0 l0 l0 _ HR0.out HC0.out HCl.out).mono ?_; rintro e w1 ⟨v1, rfl, hR1, hB1⟩; have HR1 := Aside0.mk hR1; have HB1 := Aside0.mk hB1; clear hR1 hB1; obtain ⟨A1, c1', e1⟩ := Kd.R_slice HR1.out; subst e1) | (go_at_call 26; refine (pack_Open.calls A1 c1' l0 l0 0 0 w _ HB1.out (Kd.R_reads' HR1.out).2.2 (Kd.R_reads' HR1.out).2.1 HOp.out).mono ?_; rintro e w2 ⟨g, rfl, hI2, hB2, hb2⟩; have HI2 := Aside0.mk hI2; have HB2 := Aside0.mk hB2; clear hI2 hB2 hb2) | (go_at_call 27; refine (pack_Reader_Num.calls g l0 0 0 a1 v wd 0 w _ HI2.out HB2.out HNm.out).mono ?_; rintro e w3 ⟨rfl, hI3, hB3, hK3⟩; have HI3 := Aside0.mk hI3; have HB3 := Aside0.mk hB3; clear hI3 hB3 hK3) | (go_at_call 28; refine (pack_Reader_Err.calls g l0 wd 0 0 wd 0 w _ HI3.out HB3.out rfl).mono ?_; rintro e w4 ⟨rfl, hI4, hB4, hK4⟩; have HI4 := Aside0.mk hI4; have HB4 := Aside0.mk hB4; clear hI4 hB4 hK4) | (go_at_call 29; refine (pack_Reader_Left.calls g l0 wd 0 q wd 0 w _ HI4.out HB4.out HLf.out).mono ?_; rintro e w5 ⟨rfl, hI5, hB5, hK5⟩; have HB5 := Aside0.mk hB5; clear hI5 hB5 hK5))
      go_region_held3 (fun _ => True) (trivial) (first | (go_at_call 18; refine (pack_Num.calls 4000 none 0 [] v (l0.take wd) _ nil_C (Nat.le_refl _) HPn.out).mono ?_; rintro e w6 ⟨v6, rfl, hR6, hB6⟩; have HR6 := Aside0.mk hR6; have HB6 := Aside0.mk (below_then (below_drew1 HB5.out) (by first | exact HB5.out.size | exact Nat.le_trans HB5.out.size (Nat.le_refl _)) hB6); clear hR6 hB6; obtain ⟨A6, c6, e6⟩ := Kd.R_slice HR6.out; subst e6) | (go_at_call 24; refine (pack_Size.calls 4000 v wd _ HSz.out).mono ?_; rintro e w8 ⟨rfl, m8, rfl⟩) | (go_at_call 16; refine (baileylaw02_awake.calls true _ rfl).mono ?_; rintro e w9 ⟨rfl, hB9⟩) | (go_at_call 15; refine (eq_calls' 4000 A6 c6 _ (l0.take wd) A0 _ _ (l0.take wd) true _ ?sx ?sy (Kd.R_reads' HR6.out).2.2 (Kd.R_reads' HR6.out).2.1 (Kd.C_take (Kd.C_below HR0.out HB6.out) HX.out.2.2.2.1) ?sc HEq.out).mono ?_; (case sx => first | rfl | (simp; done)); (case sy => have := HX.out; simp; omega); (case sc => have := HX.out; have := HC0.out; simp; omega); rintro e w7 ⟨rfl, m7, rfl⟩))
      go_wp2
      go_ret
      exact ⟨rfl, below_then (pw_below_drewN HB6.out (m7 + m8)) HB6.out.size hB9⟩
    · obtain ⟨e1, e2⟩ := rdNum_err l0 a1 he
      obtain ⟨er, her⟩ : ∃ er, er = (rdNum l0 a1).2.2 := ⟨_, rfl⟩
      have HNm := Aside0.mk (show pack_Reader_Num.f l0 0 0 a1 = some (0, 0, er) by
        unfold pack_Reader_Num.f; rw [if_pos rfl, e0, e1, e2, ← her]; simp)
      rw [← her] at he
      have HLf := Aside0.mk (show pack_Reader_Left.f l0 0 er = some (0, 0, er) by
        unfold pack_Reader_Left.f; congr 2; unfold rdRest; rw [if_neg he]; rfl)
      have t1 : (er == 0) = false := beq_eq_false_iff_ne.mpr he
      have t2 : (er != 0) = true := bne_iff_ne.mpr he
      clear he her e1 e2 h1
      go_enter Try.func5, Try.ntmps5
      go_wp2_with (first | (go_at_call 17; refine (Clone.calls A0 c0 l0 l0 _ HR0.out HC0.out HCl.out).mono ?_; rintro e w1 ⟨v1, rfl, hR1, hB1⟩; have HR1 := Aside0.mk hR1; have HB1 := Aside0.mk hB1; clear hR1 hB1; obtain ⟨A1, c1', e1⟩ := Kd.R_slice HR1.out; subst e1) | (go_at_call 26; refine (pack_Open.calls A1 c1' l0 l0 0 0 w _ HB1.out (Kd.R_reads' HR1.out).2.2 (Kd.R_reads' HR1.out).2.1 HOp.out).mono ?_; rintro e w2 ⟨g, rfl, hI2, hB2, hb2⟩; have HI2 := Aside0.mk hI2; have HB2 := Aside0.mk hB2; clear hI2 hB2 hb2) | (go_at_call 27; refine (pack_Reader_Num.calls g l0 0 0 a1 0 0 er w _ HI2.out HB2.out HNm.out).mono ?_; rintro e w3 ⟨rfl, hI3, hB3, hK3⟩; have HI3 := Aside0.mk hI3; have HB3 := Aside0.mk hB3; clear hI3 hB3 hK3) | (go_at_call 28; refine (pack_Reader_Err.calls g l0 0 er er 0 er w _ HI3.out HB3.out rfl).mono ?_; rintro e w4 ⟨rfl, hI4, hB4, hK4⟩; have HI4 := Aside0.mk hI4; have HB4 := Aside0.mk hB4; clear hI4 hB4 hK4) | (go_at_call 29; refine (pack_Reader_Left.calls g l0 0 er 0 0 er w _ HI4.out HB4.out HLf.out).mono ?_; rintro e w5 ⟨rfl, hI5, hB5, hK5⟩; have HB5 := Aside0.mk hB5; clear hI5 hB5 hK5) | (go_at_call 16; refine (baileylaw02_awake.calls true _ rfl).mono ?_; rintro e w9 ⟨rfl, hB9⟩))
      go_ret
      exact ⟨rfl, below_then HB5.out HB5.out.size hB9⟩
theorem b64X {x : Int} (h : (Lit.int .i64 x).wf = true) : -9223372036854775808 ≤ x ∧ x ≤ 9223372036854775807 := by
  simpa [Lit.wf, IntKind.min, IntKind.max, IntKind.signed, IntKind.bits] using h
theorem b8X {x : Int} (h : (Lit.int .u8 x).wf = true) : 0 ≤ x ∧ x ≤ 255 := by
  simpa [Lit.wf, IntKind.min, IntKind.max, IntKind.signed, IntKind.bits] using h
theorem baileylaw02_PackOne.walk (a0 : Option Addr) (len0 cap0 : Nat) (z0 : List Int) (a1 : Int) (w : World) (w0 : (a0 = none ∧ len0 = 0 ∧ cap0 = 0 ∧ z0 = []) ∨ ∃ x, a0 = some x ∧ len0 ≤ cap0 ∧ cap0 ≤ maxLen ∧ z0.length = cap0 ∧ (∀ i, i < z0.length → w.cell? (x.add i) = some (.int .u8 (z0.getD i 0))) ∧ ∀ n ∈ z0, (Lit.int .u8 n).wf = true) (y0 : len0 * 1 ≤ 140737488351232) (w1 : (Lit.int .i64 a1).wf = true) :
    Calls Try.prog 5 #[.slice a0 len0 cap0, .int .i64 a1] w fun e w' => e = .returned (.bool true) ∧ Below w.heap.size w w' := by
  obtain ⟨l0, rfl, hr0, hm0, hw0, hc0⟩ := ReadsInt.ofRowC w0
  exact baileylaw02_PackOne.calls _ _ l0 a1 w (Kd.C_of_reads (d := (0 : Int)) (h1 := fun _ => rfl) hr0) hc0 (fun x hx => b8X (hw0 x hx)) (b64X w1)
end Go.Proofs.Ytagpdfekeppbgaa.X
