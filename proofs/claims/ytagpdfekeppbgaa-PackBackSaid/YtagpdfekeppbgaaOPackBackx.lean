/- One part of the proofs about layer 2: the statement PackBack itself: a plain Lean function of the same answers and the walk that shows it. No condition.
   (Lines that the kit's print wrote for this claim, and walks of ours, as one text of our own: not a printed one.) -/
import Derived.Test.YtagpdfekeppbgaaProg
import Derived.Below
import Derived.Deep.Draws
import Derived.Deep.AppendLies
import Derived.Maps.AppendAt
import Derived.OwnWalk
import Derived.Laws.BytesArg
import Derived.Laws.MakeOwn
import Derived.Laws.OwnMore
import Derived.Deep.OwnRows
import Derived.Tactics
import Derived.Lib.ConvBytes
import Derived.Laws.Slices
import Derived.WalkKit
import Derived.KernelRfl
import Derived.RowKit3
import Derived.Deep.LoopGhost
import Derived.Deep.QuietTactic
import Derived.BigQuiet
import Derived.WideLaws
import Derived.Deep.DeepCutAuto
import Derived.Deep.CutBlock
import Derived.Deep.RegionHeld3
import Derived.Laws.Rows
import Derived.Lib.AppendStr
import Derived.ArgAppend
import Derived.Laws.IdiomCopy
import Derived.OrdersHeld
import Derived.Laws.BitsLemmas
import Derived.RowKit
import Derived.Test.YtagpdfekeppbgaaWWords
import Derived.Test.YtagpdfekeppbgaaWLast
import Derived.Test.YtagpdfekeppbgaaWTab
import Derived.Test.YtagpdfekeppbgaaWFour
import Derived.Test.YtagpdfekeppbgaaWQPut
import Derived.Test.YtagpdfekeppbgaaWApart
import Derived.Test.YtagpdfekeppbgaaWArr
import Derived.Test.YtagpdfekeppbgaaWZeros
import Derived.Test.YtagpdfekeppbgaaWFoot
import Derived.Test.YtagpdfekeppbgaaWKept
import Derived.Test.YtagpdfekeppbgaaWShare
import Derived.Test.YtagpdfekeppbgaaWN
import Derived.Test.YtagpdfekeppbgaaWFootNe
import Derived.Test.YtagpdfekeppbgaaWAt
import Derived.Test.YtagpdfekeppbgaaWEqStruct
import Derived.Test.YtagpdfekeppbgaaWRepsOne
import Derived.Test.YtagpdfekeppbgaaWInv
import Derived.Test.YtagpdfekeppbgaaWInvWords
import Derived.Test.YtagpdfekeppbgaaWGuard
import Derived.Test.YtagpdfekeppbgaaWNEv
import Derived.Test.YtagpdfekeppbgaaWMore
import Derived.WalkSpells
import Derived.Outline
import Derived.Laws.CopyOwn
import Derived.Test.YtagpdfekeppbgaaOPkPO
import Derived.Lib.SlBytesConst
namespace Go.Proofs.Ytagpdfekeppbgaa.X
open Go.RowKit Go.Proofs.YtagpdfekeppbgaaW.PrintWords Go.Proofs.YtagpdfekeppbgaaW.PrintLast Go.Proofs.YtagpdfekeppbgaaW.PrintMore
attribute [local go_sem] max2_int min2_int max_two min_two max_three min_three max_four min_four
set_option linter.unusedVariables false
set_option linter.unusedSimpArgs false
theorem str_bytes (s : ByteArray) : strOfNums (bytesOf s) = s := by
  unfold strOfNums bytesOf
  have : (s.data.toList.map fun b => (b.toNat : Int)).map (fun n => UInt8.ofNat n.toNat) = s.data.toList := by
    rw [List.map_map]
    conv => rhs; rw [← List.map_id s.data.toList]
    apply List.map_congr_left
    intro b _
    simp
  rw [this]
def pbB (n : Int) (s : ByteArray) (y : Bool) : List Int := [] ++ numB n ++ numB (s.size : Int) ++ bytesOf s ++ [if y then 1 else 0]
theorem pb_read (n : Int) (s : ByteArray) (y : Bool) (rest : List Int) (h0 : -9223372036854775808 ≤ n) (h1 : n ≤ 9223372036854775807) (hs : s.size ≤ 2000) :
    pack_Reader_Num.f (pbB n s y ++ rest) 0 0 9223372036854775807 = some (mx n 0, ((numB n).length : Int), 0) ∧
    pack_Reader_Text.f (pbB n s y ++ rest) ((numB n).length : Int) 0 2000 = some (s, (((numB n).length + (numB (s.size : Int)).length + s.size : Nat) : Int), 0) ∧
    pack_Reader_Yes.f (pbB n s y ++ rest) ((numB n).length + (numB (s.size : Int)).length + s.size : Nat) 0 = some (y, (((numB n).length + (numB (s.size : Int)).length + s.size + 1 : Nat) : Int), 0) ∧
    pack_Reader_Left.f (pbB n s y ++ rest) ((numB n).length + (numB (s.size : Int)).length + s.size + 1 : Nat) 0 = some ((rest.length : Int), (((numB n).length + (numB (s.size : Int)).length + s.size + 1 : Nat) : Int), 0) := by
  have hbl := bytesOf_length s
  have d0 : rdRest (pbB n s y ++ rest) 0 0 = numB n ++ (numB (s.size : Int) ++ (bytesOf s ++ ([if y then 1 else 0] ++ rest))) := by
    unfold rdRest pbB; rw [if_pos rfl]; simp
  have d1 : rdRest (pbB n s y ++ rest) ((numB n).length : Int) 0 = numB (s.size : Int) ++ (bytesOf s ++ ([if y then 1 else 0] ++ rest)) := by
    unfold rdRest pbB; rw [if_pos rfl]; simp
  have d2 : rdRest (pbB n s y ++ rest) (((numB n).length : Int) + ((numB (s.size : Int)).length : Int)) 0 = bytesOf s ++ ([if y then 1 else 0] ++ rest) := by
    have e : (((numB n).length : Int) + ((numB (s.size : Int)).length : Int)).toNat = (numB n ++ numB (s.size : Int)).length := by simp; omega
    unfold rdRest pbB; rw [if_pos rfl, e]
    have : [] ++ numB n ++ numB (s.size : Int) ++ bytesOf s ++ [if y then 1 else 0] ++ rest = (numB n ++ numB (s.size : Int)) ++ (bytesOf s ++ ([if y then 1 else 0] ++ rest)) := by simp
    rw [this, List.drop_left]
  have d3 : rdRest (pbB n s y ++ rest) (((numB n).length + (numB (s.size : Int)).length + s.size : Nat) : Int) 0 = [if y then 1 else 0] ++ rest := by
    have e : (((numB n).length + (numB (s.size : Int)).length + s.size : Nat) : Int).toNat = (numB n ++ numB (s.size : Int) ++ bytesOf s).length := by simp; omega
    unfold rdRest pbB; rw [if_pos rfl, e]
    have : [] ++ numB n ++ numB (s.size : Int) ++ bytesOf s ++ [if y then 1 else 0] ++ rest = (numB n ++ numB (s.size : Int) ++ bytesOf s) ++ ([if y then 1 else 0] ++ rest) := by simp
    rw [this, List.drop_left]
  have d4 : rdRest (pbB n s y ++ rest) (((numB n).length + (numB (s.size : Int)).length + s.size + 1 : Nat) : Int) 0 = rest := by
    have e : (((numB n).length + (numB (s.size : Int)).length + s.size + 1 : Nat) : Int).toNat = (pbB n s y).length := by unfold pbB; simp; omega
    unfold rdRest; rw [if_pos rfl, e, List.drop_left]
  refine ⟨?_, ?_, ?_, ?_⟩
  · unfold pack_Reader_Num.f
    rw [if_pos rfl, d0, num_read n _ h0 h1 9223372036854775807 (by omega), mx_max]; simp
  · have hn := num_read (s.size : Int) (bytesOf s ++ ([if y then 1 else 0] ++ rest)) (by omega) (by omega) 2000 (by omega)
    unfold pack_Reader_Text.f rdText
    rw [if_pos rfl, d1, hn]
    have em : max (s.size : Int) 0 = (s.size : Int) := by omega
    simp only [em, if_true, d2]
    rw [if_pos (by simp; omega)]
    have : (bytesOf s ++ ([if y then 1 else 0] ++ rest)).take (s.size : Int).toNat = bytesOf s := by rw [show (s.size : Int).toNat = (bytesOf s).length by omega, List.take_left]
    rw [this, str_bytes]
    simp
  · unfold pack_Reader_Yes.f rdYes
    rw [if_pos rfl, d3]
    cases y <;> simp
  · unfold pack_Reader_Left.f
    rw [d4]
set_option maxHeartbeats 4000000 in
set_option maxRecDepth 100000 in
theorem baileylaw02_PackBack.calls (a0 : Int) (a1 : ByteArray) (a2 : Bool) (A3 : Option Addr) (c3 : Nat) (l3 : List Int) (w : World) (hr0 : Kd.C (Kd.int .u8) w A3 l3.length l3) (hc0 : l3.length ≤ c3) (ha : -9223372036854775808 ≤ a0 ∧ a0 ≤ 9223372036854775807) :
    Calls Try.prog 7 #[.int .i64 a0, .string a1, .bool a2, .slice A3 l3.length c3] w fun e w' => e = .returned (.bool true) ∧ Below w.heap.size w w' := by
  have HR0 := Aside0.mk hr0
  have HC0 := Aside0.mk hc0
  clear hr0 hc0
  by_cases h1 : (l3.length : Int) > 2000
  · have c1 : decide ((l3.length : Int) > 2000) = true := decide_eq_true h1
    have c2 : decide (2000 < (l3.length : Int)) = true := decide_eq_true h1
    have k3 : decide (2000 < l3.length) = true := decide_eq_true (by omega)
    go_enter Try.func7, Try.ntmps7
    go_wp2_with (first | (go_at_call 16; refine (baileylaw02_awake.calls true _ rfl).mono ?_; rintro e w1 ⟨rfl, hB1⟩))
    go_ret
    exact ⟨rfl, hB1⟩
  · by_cases h2 : (a1.size : Int) > 2000
    · have c1 : decide ((l3.length : Int) > 2000) = false := decide_eq_false h1
      have c2 : decide (2000 < (l3.length : Int)) = false := decide_eq_false h1
      have k3 : decide (2000 < l3.length) = false := decide_eq_false (by omega)
      have d1 : decide ((a1.size : Int) > 2000) = true := decide_eq_true h2
      have d2 : decide (2000 < (a1.size : Int)) = true := decide_eq_true h2
      have d3 : decide (2000 < a1.size) = true := decide_eq_true (by omega)
      go_enter Try.func7, Try.ntmps7
      go_wp2_with (first | (go_at_call 16; refine (baileylaw02_awake.calls true _ rfl).mono ?_; rintro e w1 ⟨rfl, hB1⟩))
      go_ret
      exact ⟨rfl, hB1⟩
    · have c1 : decide ((l3.length : Int) > 2000) = false := decide_eq_false h1
      have c2 : decide (2000 < (l3.length : Int)) = false := decide_eq_false h1
      have k3 : decide (2000 < l3.length) = false := decide_eq_false (by omega)
      have d1 : decide ((a1.size : Int) > 2000) = false := decide_eq_false h2
      have d2 : decide (2000 < (a1.size : Int)) = false := decide_eq_false h2
      have d3 : decide (2000 < a1.size) = false := decide_eq_false (by omega)
      obtain ⟨p1, p2, p3, p4⟩ := pb_read a0 a1 a2 l3 ha.1 ha.2 (by omega)
      have z1 := numB_len a0
      have z2 := numB_len (a1.size : Int)
      have z3 := bytesOf_length a1
      obtain ⟨T1, e1⟩ : ∃ T, T = [] ++ numB a0 := ⟨_, rfl⟩
      obtain ⟨T2, e2⟩ : ∃ T, T = T1 ++ numB (a1.size : Int) ++ bytesOf a1 := ⟨_, rfl⟩
      obtain ⟨T3, e3⟩ : ∃ T, T = T2 ++ [if a2 then (1 : Int) else 0] := ⟨_, rfl⟩
      obtain ⟨T4, e4⟩ : ∃ T, T = T3 ++ l3 := ⟨_, rfl⟩
      have e5 : pbB a0 a1 a2 ++ l3 = T4 := by rw [e4, e3, e2, e1]; rfl
      have hn1 := pack_num [] a0 4000 (by simp) ha.1 ha.2 (by omega)
      rw [← e1] at hn1
      have l1 : T1.length ≤ 9 := by rw [e1]; simp; omega
      have ht1 := pack_text T1 a1 4000 (by omega) (by omega) (by omega)
      rw [← e2] at ht1
      have l2 : T2.length ≤ 3000 := by rw [e2]; simp; omega
      have hy1 := pack_yes T2 a2 4000 (by omega) (by omega)
      rw [← e3] at hy1
      have l3' : T3.length ≤ 4000 := by rw [e3]; simp; omega
      have l4 : T4.length ≤ 7000 := by rw [e4]; simp; omega
      have HN := Aside0.mk hn1
      have HT := Aside0.mk ht1
      have HY := Aside0.mk hy1
      have HL := Aside0.mk (show (T3.length + l3.length) * 1 ≤ 140737488355328 by omega)
      have HOp := Aside0.mk (show pack_Open.f T4 = some (T4, 0, 0) from if_pos (by omega))
      rw [e5] at p1 p2 p3 p4
      obtain ⟨q1, hq1⟩ : ∃ q : Int, q = ((numB a0).length : Int) := ⟨_, rfl⟩
      obtain ⟨q2, hq2⟩ : ∃ q : Int, q = (((numB a0).length + (numB (a1.size : Int)).length + a1.size : Nat) : Int) := ⟨_, rfl⟩
      obtain ⟨q3, hq3⟩ : ∃ q : Int, q = (((numB a0).length + (numB (a1.size : Int)).length + a1.size + 1 : Nat) : Int) := ⟨_, rfl⟩
      rw [← hq1] at p1 p2
      rw [← hq2] at p2 p3
      rw [← hq3] at p3 p4
      have P1 := Aside0.mk p1
      have P2 := Aside0.mk p2
      have P3 := Aside0.mk p3
      have P4 := Aside0.mk p4
      have E4 := Aside0.mk e4
      have MX := Aside0.mk (show (a0 < 0 → mx a0 0 = 0) ∧ (0 ≤ a0 → mx a0 0 = a0) from ⟨fun _ => by rw [mx_max]; omega, fun _ => by rw [mx_max]; omega⟩)
      clear p1 p2 p3 p4 z1 z2 z3 hq1 hq2 hq3 h1 h2 e1 e2 e3 e4 e5 hn1 l1 ht1 l2 hy1 l3' l4
      go_enter Try.func7, Try.ntmps7
      go_wp2_with (first | (go_at_call 18; refine (pack_Num.calls 4000 none 0 [] a0 T1 _ nil_C (Nat.le_refl _) HN.out).mono ?_; rintro e w1 ⟨v1, rfl, hR1, hB1⟩; have HR1 := Aside0.mk hR1; have HB1 := Aside0.mk hB1; clear hR1 hB1; obtain ⟨A1, c1', e1⟩ := Kd.R_slice HR1.out; subst e1) | (go_at_call 20; refine (pack_Text.calls 4000 A1 c1' T1 a1 T2 _ (Kd.R_reads' HR1.out).2.2 (Kd.R_reads' HR1.out).2.1 HT.out).mono ?_; rintro e w2 ⟨v2, rfl, hR2, hB2⟩; have HR2 := Aside0.mk hR2; have HB2 := Aside0.mk (below_then HB1.out HB1.out.size hB2); clear hR2 hB2; obtain ⟨A2, c2', e2⟩ := Kd.R_slice HR2.out; subst e2) | (go_at_call 22; refine (pack_Yes.calls 4000 A2 c2' T2 a2 T3 _ (Kd.R_reads' HR2.out).2.2 (Kd.R_reads' HR2.out).2.1 HY.out).mono ?_; rintro e w3 ⟨v3, rfl, hR3, hB3⟩; have HR3 := Aside0.mk (Kd.R_lower hR3 HB2.out.size); have HB3 := Aside0.mk (below_then HB2.out HB2.out.size hB3); clear hR3 hB3; obtain ⟨A3', c3', e3⟩ := Kd.R_slice HR3.out; subst e3) | (at_builtin; refine Kd.R_append_rows (Kd.int .u8) (w0 := w) w.heap.size ?hg (.tmp 24) (.tmp 25) 22 5 (.int .u8 0) 1 ?ho Try.underlying22 info5 rfl (by decide) (by decide) (.slice A3' T3.length c3') T3 l3 A3 l3.length c3 (fun _ => True) (fun _ => False) ?hs ?hx HR3.out (Kd.C_below HR0.out HB3.out) ?hKM ?hokp (fun _ _ => trivial) HB3.out HB3.out.size HL.out ?hh; (case hg => rfl); (case ho => rfl); (case hs => rfl); (case hx => rfl); (case hKM => exact fun _ _ h => h); (case hokp => exact fun _ h => h.elim); intro v4 w4 hO hb4 hg4 hat4; rw [← E4.out] at hO; have HR4 := Aside0.mk hO; have HB4 := Aside0.mk hb4; clear hO hb4 hg4 hat4; obtain ⟨A4, c4, e4⟩ := Kd.R_slice HR4.out; subst e4) | (go_at_call 26; refine (pack_Open.calls A4 c4 T4 T4 0 0 w _ HB4.out (Kd.R_reads' HR4.out).2.2 (Kd.R_reads' HR4.out).2.1 HOp.out).mono ?_; rintro e w5 ⟨g, rfl, hI5, hB5, hb5⟩; have HI5 := Aside0.mk hI5; have HB5 := Aside0.mk hB5; clear hI5 hB5 hb5) | (go_at_call 27; refine (pack_Reader_Num.calls g T4 0 0 9223372036854775807 _ q1 0 w _ HI5.out HB5.out P1.out).mono ?_; rintro e w6 ⟨rfl, hI6, hB6, hK6⟩; have HI6 := Aside0.mk hI6; have HB6 := Aside0.mk hB6; clear hI6 hB6 hK6) | (go_at_call 31; refine (pack_Reader_Text.calls g T4 q1 0 2000 a1 q2 0 w _ HI6.out HB6.out P2.out).mono ?_; rintro e w7 ⟨rfl, hI7, hB7, hK7⟩; have HI7 := Aside0.mk hI7; have HB7 := Aside0.mk hB7; clear hI7 hB7 hK7) | (go_at_call 32; refine (pack_Reader_Yes.calls g T4 q2 0 a2 q3 0 w _ HI7.out HB7.out P3.out).mono ?_; rintro e w8 ⟨rfl, hI8, hB8, hK8⟩; have HI8 := Aside0.mk hI8; have HB8 := Aside0.mk hB8; clear hI8 hB8 hK8) | (go_at_call 28; refine (pack_Reader_Err.calls g T4 q3 0 0 q3 0 w _ HI8.out HB8.out rfl).mono ?_; rintro e w9 ⟨rfl, hI9, hB9, hK9⟩; have HI9 := Aside0.mk hI9; have HB9 := Aside0.mk hB9; clear hI9 hB9 hK9) | (go_at_call 29; refine (pack_Reader_Left.calls g T4 q3 0 l3.length q3 0 w _ HI9.out HB9.out P4.out).mono ?_; rintro e w10 ⟨rfl, hI10, hB10, hK10⟩; have HB10 := Aside0.mk hB10; clear hI10 hB10 hK10) | (go_at_call 16; refine (baileylaw02_awake.calls true _ rfl).mono ?_; rintro e w11 ⟨rfl, hB11⟩))
      all_goals first | exact absurd (MX.out.1 (by assumption)) (by assumption) | exact absurd (MX.out.2 (by assumption)) (by assumption) | (go_ret; exact ⟨rfl, below_then HB10.out HB10.out.size hB11⟩)
theorem baileylaw02_PackBack.walk (a0 : Int) (a1 : ByteArray) (a2 : Bool) (a3 : Option Addr) (len3 cap3 : Nat) (z3 : List Int) (w : World) (w0 : (Lit.int .i64 a0).wf = true) (w1 : a1.size ≤ 140737488351232) (w3 : (a3 = none ∧ len3 = 0 ∧ cap3 = 0 ∧ z3 = []) ∨ ∃ x, a3 = some x ∧ len3 ≤ cap3 ∧ cap3 ≤ maxLen ∧ z3.length = cap3 ∧ (∀ i, i < z3.length → w.cell? (x.add i) = some (.int .u8 (z3.getD i 0))) ∧ ∀ n ∈ z3, (Lit.int .u8 n).wf = true) (y3 : len3 * 1 ≤ 140737488351232) :
    Calls Try.prog 7 #[.int .i64 a0, .string a1, .bool a2, .slice a3 len3 cap3] w fun e w' => e = .returned (.bool true) ∧ Below w.heap.size w w' := by
  obtain ⟨l3, rfl, hr0, hm0, hw0, hc0⟩ := ReadsInt.ofRowC w3
  exact baileylaw02_PackBack.calls a0 a1 a2 _ _ l3 w (Kd.C_of_reads (d := (0 : Int)) (h1 := fun _ => rfl) hr0) hc0 (b64X w0)
end Go.Proofs.Ytagpdfekeppbgaa.X
