/- One part of the proofs about layer 2: the statement about the readers: its walk. No condition.
   (Lines that the kit's print wrote for this claim, and walks of ours, as one text of our own: not a printed one.) -/
import Derived.Test.YtagpdfekeppbgaaProg
import Derived.Below
import Derived.Deep.Draws
import Derived.Deep.AppendLies
import Derived.Maps.AppendAt
import Derived.OwnWalk
import Derived.Laws.BytesArg
import Derived.Laws.MakeOwn
import Derived.Laws.OwnMore
import Derived.Deep.OwnRows
import Derived.Tactics
import Derived.Lib.ConvBytes
import Derived.Laws.Slices
import Derived.WalkKit
import Derived.KernelRfl
import Derived.RowKit3
import Derived.Deep.LoopGhost
import Derived.Deep.QuietTactic
import Derived.BigQuiet
import Derived.WideLaws
import Derived.Deep.DeepCutAuto
import Derived.Deep.CutBlock
import Derived.Deep.RegionHeld3
import Derived.Laws.Rows
import Derived.Lib.AppendStr
import Derived.ArgAppend
import Derived.Laws.IdiomCopy
import Derived.OrdersHeld
import Derived.Laws.BitsLemmas
import Derived.RowKit
import Derived.Test.YtagpdfekeppbgaaWWords
import Derived.Test.YtagpdfekeppbgaaWLast
import Derived.Test.YtagpdfekeppbgaaWTab
import Derived.Test.YtagpdfekeppbgaaWFour
import Derived.Test.YtagpdfekeppbgaaWQPut
import Derived.Test.YtagpdfekeppbgaaWApart
import Derived.Test.YtagpdfekeppbgaaWArr
import Derived.Test.YtagpdfekeppbgaaWZeros
import Derived.Test.YtagpdfekeppbgaaWFoot
import Derived.Test.YtagpdfekeppbgaaWKept
import Derived.Test.YtagpdfekeppbgaaWShare
import Derived.Test.YtagpdfekeppbgaaWN
import Derived.Test.YtagpdfekeppbgaaWFootNe
import Derived.Test.YtagpdfekeppbgaaWAt
import Derived.Test.YtagpdfekeppbgaaWEqStruct
import Derived.Test.YtagpdfekeppbgaaWRepsOne
import Derived.Test.YtagpdfekeppbgaaWInv
import Derived.Test.YtagpdfekeppbgaaWInvWords
import Derived.Test.YtagpdfekeppbgaaWGuard
import Derived.Test.YtagpdfekeppbgaaWNEv
import Derived.Test.YtagpdfekeppbgaaWMore
import Derived.WalkSpells
import Derived.Outline
import Derived.Laws.CopyOwn
import Derived.Test.YtagpdfekeppbgaaOPkK
import Derived.Test.YtagpdfekeppbgaaOPkPO
import Derived.Lib.SlBytesConst
namespace Go.Proofs.Ytagpdfekeppbgaa.X
open Go.RowKit Go.Proofs.YtagpdfekeppbgaaW.PrintWords Go.Proofs.YtagpdfekeppbgaaW.PrintLast Go.Proofs.YtagpdfekeppbgaaW.PrintMore
attribute [local go_sem] max2_int min2_int max_two min_two max_three min_three max_four min_four
set_option linter.unusedVariables false
set_option linter.unusedSimpArgs false
/-- Both readers at one bytes, and the call that is looked at. -/
def PRS (w W : World) (g g3 b : Nat) (l0 : List Int) (op q p e p3 e3 : Int) : Prop :=
  IsS40 w W g l0 p e ∧ IsS66 w W g3 l0 p3 e3 ∧ Below w.heap.size w W ∧ W.heap[b]? = some (.cells #[.int .i64 op, .int .i64 q] 49 (0, 0)) ∧ g < b ∧ g3 < b ∧ g ≠ g3
section
variable {w W W' : World} {g g3 b : Nat} {l0 : List Int} {op q p e p3 e3 p' e' : Int}
theorem PRS.cell (h : PRS w W g g3 b l0 op q p e p3 e3) : W.cell? ⟨b, 1, none⟩ = some (.int .i64 q) := blk_cell h.2.2.2.1 1
theorem PRS.drewN (h : PRS w W g g3 b l0 op q p e p3 e3) (m : Nat) : PRS w (W.drewN m) g g3 b l0 op q p e p3 e3 :=
  ⟨h.1.drewN m, h.2.1.drewN m, pw_below_drewN h.2.2.1 m, h.2.2.2.1, h.2.2.2.2⟩
theorem PRS.drew (h : PRS w W g g3 b l0 op q p e p3 e3) : PRS w W.drew g g3 b l0 op q p e p3 e3 := h.drewN 1
theorem PRS.lo (h : PRS w W g g3 b l0 op q p e p3 e3) : Below w.heap.size w W := h.2.2.1
theorem PRS.step40 (h : PRS w W g g3 b l0 op q p e p3 e3) (hI : IsS40 w W' g l0 p' e') (hB : Below w.heap.size w W') (hK : KeepBut W W' g none) : PRS w W' g g3 b l0 op q p' e' p3 e3 := by
  obtain ⟨h1, h2, h3, h4, h5, h6, h7⟩ := h
  obtain ⟨A, c, hb, _⟩ := h1
  exact ⟨hI, h2.kb hK (Ne.symm h7) ⟨_, _, _, hb, by decide⟩, hB, hK.blk h4 (by omega) (by simp), h5, h6, h7⟩
theorem PRS.step66 (h : PRS w W g g3 b l0 op q p e p3 e3) (hI : IsS66 w W' g3 l0 p' e') (hB : Below w.heap.size w W') (hK : KeepBut W W' g3 none) : PRS w W' g g3 b l0 op q p e p' e' := by
  obtain ⟨h1, h2, h3, h4, h5, h6, h7⟩ := h
  obtain ⟨A, c, hb, _⟩ := h2
  exact ⟨h1.kb hK h7 ⟨_, _, _, hb, by decide⟩, hI, hB, hK.blk h4 (by omega) (by simp), h5, h6, h7⟩
end
set_option maxHeartbeats 4000000 in
set_option maxRecDepth 100000 in
theorem baileylaw02_PackReads.calls (A0 : Option Addr) (c0 : Nat) (l0 : List Int) (A1 : Option Addr) (n1 c1 : Nat) (w : World) (hr0 : Kd.C (Kd.int .u8) w A0 l0.length l0) (hc0 : l0.length ≤ c0) (hN : ∀ x ∈ l0, 0 ≤ x)
    (hd : ∀ i, i < n1 → ∃ a p q, A1 = some a ∧ w.cell? (a.add (i * 2)) = some (.int .i64 p) ∧ w.cell? ⟨(a.add (i * 2)).block, (a.add (i * 2)).off + 1, none⟩ = some (.int .i64 q)) (hn : (n1 : Int) ≤ 9223372036854775807) :
    Calls Try.prog 8 #[.slice A0 l0.length c0, .slice A1 n1 c1] w fun e w' => e = .returned (.bool true) ∧ Below w.heap.size w w' := by
  have HR0 := Aside0.mk hr0
  have HC0 := Aside0.mk hc0
  have HD := Aside0.mk hd
  have HNN := Aside0.mk hN
  clear hr0 hc0 hd hN
  by_cases h1 : (l0.length : Int) > 2000
  · have d1 : decide ((l0.length : Int) > 2000) = true := decide_eq_true h1
    have d2 : decide (2000 < (l0.length : Int)) = true := decide_eq_true h1
    have d3 : decide (2000 < l0.length) = true := decide_eq_true (by omega)
    clear h1
    go_enter Try.func8, Try.ntmps8
    go_wp2_with (first | (go_at_call 16; refine (baileylaw02_awake.calls true _ rfl).mono ?_; rintro e w9 ⟨rfl, hB9⟩))
    go_ret
    exact ⟨rfl, hB9⟩
  have d1 : decide ((l0.length : Int) > 2000) = false := decide_eq_false h1
  have d2 : decide (2000 < (l0.length : Int)) = false := decide_eq_false h1
  have d3 : decide (2000 < l0.length) = false := decide_eq_false (by omega)
  have HCl := Aside0.mk (show Clone.f l0 = some l0 from if_pos (by omega))
  have HOp := Aside0.mk (show pack_Open.f l0 = some (l0, 0, 0) from if_pos (by omega))
  have HOr := Aside0.mk (show baileyref02_Open.f l0 = some (l0, 0, 0) from if_pos (by omega))
  clear h1
  go_enter Try.func8, Try.ntmps8
  go_wp2_with (first | (go_at_call 17; refine (Clone.calls A0 c0 l0 l0 _ HR0.out HC0.out HCl.out).mono ?_; rintro e w1 ⟨v1, rfl, hR1, hB1⟩; have HR1 := Aside0.mk hR1; have HB1 := Aside0.mk hB1; clear hR1 hB1; obtain ⟨A1', c1', e1⟩ := Kd.R_slice HR1.out; subst e1) | (go_at_call 26; refine (pack_Open.calls A1' c1' l0 l0 0 0 w _ HB1.out (Kd.R_reads' HR1.out).2.2 (Kd.R_reads' HR1.out).2.1 HOp.out).mono ?_; rintro e w2 ⟨g, rfl, hI2, hB2, hb2⟩; have HI2 := Aside0.mk hI2; have HB2 := Aside0.mk hB2; have HX2 := Aside0.mk hb2; clear hI2 hB2 hb2) | (go_at_call 34; refine (baileyref02_Open.calls A0 c0 l0 l0 0 0 w _ HB2.out (Kd.C_below HR0.out HB2.out) HC0.out HOr.out).mono ?_; rintro e w3 ⟨g3, rfl, hI3, hB3, hb3⟩; have HI3 := Aside0.mk hI3; have HB3 := Aside0.mk hB3; have HX3 := Aside0.mk hb3; clear hI3 hB3 hb3))
  have HNE := Aside0.mk (show g ≠ g3 by
    intro e
    subst e
    obtain ⟨A, c, hb, _⟩ := HI2.out
    obtain ⟨A', c', hb', _⟩ := HI3.out
    have := HX3.out.block g (blk_lt hb)
    rw [hb, hb'] at this
    simp at this)
  go_loopw [21] (fun idx wr => ∃ (k : Nat) (p e : Int), k ≤ n1 ∧ idx = .int .i64 k ∧ IsS40 w wr g l0 p e ∧ IsS66 w wr g3 l0 p e ∧ Below w.heap.size w wr) (fun idx _ => n1 - (intOf idx).toNat)
  case atStart => exact ⟨0, 0, 0, Nat.zero_le _, rfl, HI2.out.below HX3.out, HI3.out, HB3.out⟩
  case round =>
    obtain ⟨k, p, e, hk, rfl, hI40, hI66, hBB⟩ := hrel
    have HBB := Aside0.mk hBB
    by_cases hlt : k < n1
    · obtain ⟨a, op, q, rfl, hc1, hc2⟩ := HD.out k hlt
      have hc1 := (HBB.out.cell (World.block_lt_of_cell? w _ hc1)).trans hc1
      have hc2 := (HBB.out.cell (World.block_lt_of_cell? w _ hc2)).trans hc2
      have t1 : decide ((k : Int) < (n1 : Int)) = true := decide_eq_true (by omega)
      by_cases h30 : 30 ≤ k
      · have t2 : decide ((k : Int) ≥ 30) = true := decide_eq_true (by omega)
        have t3 : decide (30 ≤ (k : Int)) = true := decide_eq_true (by omega)
        have t4 : decide (30 ≤ k) = true := decide_eq_true (by omega)
        clear hI40 hI66 hBB
        go_wp2_with (first | (go_at_call 16; refine (baileylaw02_awake.calls true _ rfl).mono ?_; rintro e w9 ⟨rfl, hB9⟩))
        go_ret
        exact ⟨rfl, below_then (by repeat (first | exact HBB.out | apply below_alloc | apply pw_below_drewN)) (by first | exact HBB.out.size | (simp; exact HBB.out.size) | (have := HBB.out.size; simp; omega)) hB9⟩
      · have t2 : decide ((k : Int) ≥ 30) = false := decide_eq_false (by omega)
        have t3 : decide (30 ≤ (k : Int)) = false := decide_eq_false (by omega)
        have t4 : decide (30 ≤ k) = false := decide_eq_false (by omega)
        have HS := Aside0.mk (show PRS w (wr.alloc (Obj.cells #[.int .i64 op, .int .i64 q] 49)) g g3 wr.heap.size l0 op q p e p e from
          ⟨hI40.below (below_alloc (Below.refl _ _) _), hI66.below (below_alloc (Below.refl _ _) _), below_alloc hBB _, blk_new wr _, (by obtain ⟨A, c, hb, _⟩ := hI40; exact blk_lt hb), (by obtain ⟨A, c, hb, _⟩ := hI66; exact blk_lt hb), HNE.out⟩)
        clear hI40 hI66 hBB
        by_cases ho0 : op = 0
        · subst ho0
          obtain ⟨v, p1, e1, hv⟩ : ∃ v p1 e1, pack_Reader_Num.f l0 p e q = some (v, p1, e1) := by
            unfold pack_Reader_Num.f
            split
            · exact ⟨_, _, _, rfl⟩
            · exact ⟨_, _, _, rfl⟩
          have HV := Aside0.mk hv
          clear hv
          obtain ⟨LL, hl⟩ : ∃ LL, pack_Reader_Left.f l0 p1 e1 = some (LL, p1, e1) := ⟨_, rfl⟩
          obtain ⟨EN, he⟩ : ∃ EN, pack_Reader_End.f l0 p1 e1 = some (EN, p1, e1) := ⟨_, rfl⟩
          have HL := Aside0.mk hl
          have HE := Aside0.mk he
          clear hl he
          go_wp2_with fail
          go_region_held3 (fun w' => w'.cell? ⟨wr.heap.size, 1, none⟩ = some (.int .i64 q)) (first | exact HS.out.cell | exact HS.out.drew.cell | assumption) (first | (go_at_call 27; refine (pack_Reader_Num.calls g l0 p e q v p1 e1 w _ HS.out.1 HS.out.lo HV.out).mono ?_; rintro e_ wa ⟨rfl, hI, hB, hK⟩; have n2_ := Aside0.mk (HS.out.step40 hI hB hK); clear HS hI hB hK; have HS := n2_; clear n2_) | (go_at_call 27; refine (pack_Reader_Num.calls g l0 p e q v p1 e1 w _ HS.out.drew.1 HS.out.drew.lo HV.out).mono ?_; rintro e_ wa ⟨rfl, hI, hB, hK⟩; have n2_ := Aside0.mk (HS.out.drew.step40 hI hB hK); clear HS hI hB hK; have HS := n2_; clear n2_) | (go_at_call 35; refine (baileyref02_Reader_Num.calls g3 l0 p e q v p1 e1 w _ HNN.out HS.out.2.1 HS.out.lo HV.out).mono ?_; rintro e_ wa ⟨rfl, hI, hB, hK⟩; have n2_ := Aside0.mk (HS.out.step66 hI hB hK); clear HS hI hB hK; have HS := n2_; clear n2_) | (go_at_call 35; refine (baileyref02_Reader_Num.calls g3 l0 p e q v p1 e1 w _ HNN.out HS.out.drew.2.1 HS.out.drew.lo HV.out).mono ?_; rintro e_ wa ⟨rfl, hI, hB, hK⟩; have n2_ := Aside0.mk (HS.out.drew.step66 hI hB hK); clear HS hI hB hK; have HS := n2_; clear n2_))
          go_wp2_with (first | (go_at_call 29; refine (pack_Reader_Left.calls g l0 p1 e1 LL p1 e1 w _ HS.out.1 HS.out.lo HL.out).mono ?_; rintro e_ wa ⟨rfl, hI, hB, hK⟩; have n2_ := Aside0.mk (HS.out.step40 hI hB hK); clear HS hI hB hK; have HS := n2_; clear n2_) | (go_at_call 29; refine (pack_Reader_Left.calls g l0 p1 e1 LL p1 e1 w _ HS.out.drew.1 HS.out.drew.lo HL.out).mono ?_; rintro e_ wa ⟨rfl, hI, hB, hK⟩; have n2_ := Aside0.mk (HS.out.drew.step40 hI hB hK); clear HS hI hB hK; have HS := n2_; clear n2_) | (go_at_call 39; refine (baileyref02_Reader_Left.calls g3 l0 p1 e1 LL p1 e1 w _ HS.out.2.1 HS.out.lo HL.out).mono ?_; rintro e_ wa ⟨rfl, hI, hB, hK⟩; have n2_ := Aside0.mk (HS.out.step66 hI hB hK); clear HS hI hB hK; have HS := n2_; clear n2_) | (go_at_call 39; refine (baileyref02_Reader_Left.calls g3 l0 p1 e1 LL p1 e1 w _ HS.out.drew.2.1 HS.out.drew.lo HL.out).mono ?_; rintro e_ wa ⟨rfl, hI, hB, hK⟩; have n2_ := Aside0.mk (HS.out.drew.step66 hI hB hK); clear HS hI hB hK; have HS := n2_; clear n2_) | (go_at_call 28; refine (pack_Reader_Err.calls g l0 p1 e1 e1 p1 e1 w _ HS.out.1 HS.out.lo rfl).mono ?_; rintro e_ wa ⟨rfl, hI, hB, hK⟩; have n2_ := Aside0.mk (HS.out.step40 hI hB hK); clear HS hI hB hK; have HS := n2_; clear n2_) | (go_at_call 28; refine (pack_Reader_Err.calls g l0 p1 e1 e1 p1 e1 w _ HS.out.drew.1 HS.out.drew.lo rfl).mono ?_; rintro e_ wa ⟨rfl, hI, hB, hK⟩; have n2_ := Aside0.mk (HS.out.drew.step40 hI hB hK); clear HS hI hB hK; have HS := n2_; clear n2_) | (go_at_call 40; refine (baileyref02_Reader_Err.calls g3 l0 p1 e1 e1 p1 e1 w _ HS.out.2.1 HS.out.lo rfl).mono ?_; rintro e_ wa ⟨rfl, hI, hB, hK⟩; have n2_ := Aside0.mk (HS.out.step66 hI hB hK); clear HS hI hB hK; have HS := n2_; clear n2_) | (go_at_call 40; refine (baileyref02_Reader_Err.calls g3 l0 p1 e1 e1 p1 e1 w _ HS.out.drew.2.1 HS.out.drew.lo rfl).mono ?_; rintro e_ wa ⟨rfl, hI, hB, hK⟩; have n2_ := Aside0.mk (HS.out.drew.step66 hI hB hK); clear HS hI hB hK; have HS := n2_; clear n2_) | (go_at_call 33; refine (pack_Reader_End.calls g l0 p1 e1 EN p1 e1 w _ HS.out.1 HS.out.lo HE.out).mono ?_; rintro e_ wa ⟨rfl, hI, hB, hK⟩; have n2_ := Aside0.mk (HS.out.step40 hI hB hK); clear HS hI hB hK; have HS := n2_; clear n2_) | (go_at_call 33; refine (pack_Reader_End.calls g l0 p1 e1 EN p1 e1 w _ HS.out.drew.1 HS.out.drew.lo HE.out).mono ?_; rintro e_ wa ⟨rfl, hI, hB, hK⟩; have n2_ := Aside0.mk (HS.out.drew.step40 hI hB hK); clear HS hI hB hK; have HS := n2_; clear n2_) | (go_at_call 41; refine (baileyref02_Reader_End.calls g3 l0 p1 e1 EN p1 e1 w _ HS.out.2.1 HS.out.lo HE.out).mono ?_; rintro e_ wa ⟨rfl, hI, hB, hK⟩; have n2_ := Aside0.mk (HS.out.step66 hI hB hK); clear HS hI hB hK; have HS := n2_; clear n2_) | (go_at_call 41; refine (baileyref02_Reader_End.calls g3 l0 p1 e1 EN p1 e1 w _ HS.out.drew.2.1 HS.out.drew.lo HE.out).mono ?_; rintro e_ wa ⟨rfl, hI, hB, hK⟩; have n2_ := Aside0.mk (HS.out.drew.step66 hI hB hK); clear HS hI hB hK; have HS := n2_; clear n2_))
          go_roundw
          case rel => exact ⟨k + 1, p1, e1, by omega, by go_num, HS.out.1, HS.out.2.1, HS.out.lo⟩
          case measure => simp [intOf]; omega
        by_cases ho1 : op = 1
        · subst ho1
          obtain ⟨v, p1, e1, hv⟩ : ∃ v p1 e1, pack_Reader_Num.f l0 p e q = some (v, p1, e1) := by
            unfold pack_Reader_Num.f
            split
            · exact ⟨_, _, _, rfl⟩
            · exact ⟨_, _, _, rfl⟩
          have HV := Aside0.mk hv
          clear hv
          obtain ⟨LL, hl⟩ : ∃ LL, pack_Reader_Left.f l0 p1 e1 = some (LL, p1, e1) := ⟨_, rfl⟩
          obtain ⟨EN, he⟩ : ∃ EN, pack_Reader_End.f l0 p1 e1 = some (EN, p1, e1) := ⟨_, rfl⟩
          have HL := Aside0.mk hl
          have HE := Aside0.mk he
          clear hl he
          go_wp2_with fail
          go_region_held3 (fun w' => w'.cell? ⟨wr.heap.size, 1, none⟩ = some (.int .i64 q)) (first | exact HS.out.cell | exact HS.out.drew.cell | assumption) (first | (go_at_call 27; refine (pack_Reader_Num.calls g l0 p e q v p1 e1 w _ HS.out.1 HS.out.lo HV.out).mono ?_; rintro e_ wa ⟨rfl, hI, hB, hK⟩; have n2_ := Aside0.mk (HS.out.step40 hI hB hK); clear HS hI hB hK; have HS := n2_; clear n2_) | (go_at_call 27; refine (pack_Reader_Num.calls g l0 p e q v p1 e1 w _ HS.out.drew.1 HS.out.drew.lo HV.out).mono ?_; rintro e_ wa ⟨rfl, hI, hB, hK⟩; have n2_ := Aside0.mk (HS.out.drew.step40 hI hB hK); clear HS hI hB hK; have HS := n2_; clear n2_) | (go_at_call 35; refine (baileyref02_Reader_Num.calls g3 l0 p e q v p1 e1 w _ HNN.out HS.out.2.1 HS.out.lo HV.out).mono ?_; rintro e_ wa ⟨rfl, hI, hB, hK⟩; have n2_ := Aside0.mk (HS.out.step66 hI hB hK); clear HS hI hB hK; have HS := n2_; clear n2_) | (go_at_call 35; refine (baileyref02_Reader_Num.calls g3 l0 p e q v p1 e1 w _ HNN.out HS.out.drew.2.1 HS.out.drew.lo HV.out).mono ?_; rintro e_ wa ⟨rfl, hI, hB, hK⟩; have n2_ := Aside0.mk (HS.out.drew.step66 hI hB hK); clear HS hI hB hK; have HS := n2_; clear n2_))
          go_wp2_with (first | (go_at_call 29; refine (pack_Reader_Left.calls g l0 p1 e1 LL p1 e1 w _ HS.out.1 HS.out.lo HL.out).mono ?_; rintro e_ wa ⟨rfl, hI, hB, hK⟩; have n2_ := Aside0.mk (HS.out.step40 hI hB hK); clear HS hI hB hK; have HS := n2_; clear n2_) | (go_at_call 29; refine (pack_Reader_Left.calls g l0 p1 e1 LL p1 e1 w _ HS.out.drew.1 HS.out.drew.lo HL.out).mono ?_; rintro e_ wa ⟨rfl, hI, hB, hK⟩; have n2_ := Aside0.mk (HS.out.drew.step40 hI hB hK); clear HS hI hB hK; have HS := n2_; clear n2_) | (go_at_call 39; refine (baileyref02_Reader_Left.calls g3 l0 p1 e1 LL p1 e1 w _ HS.out.2.1 HS.out.lo HL.out).mono ?_; rintro e_ wa ⟨rfl, hI, hB, hK⟩; have n2_ := Aside0.mk (HS.out.step66 hI hB hK); clear HS hI hB hK; have HS := n2_; clear n2_) | (go_at_call 39; refine (baileyref02_Reader_Left.calls g3 l0 p1 e1 LL p1 e1 w _ HS.out.drew.2.1 HS.out.drew.lo HL.out).mono ?_; rintro e_ wa ⟨rfl, hI, hB, hK⟩; have n2_ := Aside0.mk (HS.out.drew.step66 hI hB hK); clear HS hI hB hK; have HS := n2_; clear n2_) | (go_at_call 28; refine (pack_Reader_Err.calls g l0 p1 e1 e1 p1 e1 w _ HS.out.1 HS.out.lo rfl).mono ?_; rintro e_ wa ⟨rfl, hI, hB, hK⟩; have n2_ := Aside0.mk (HS.out.step40 hI hB hK); clear HS hI hB hK; have HS := n2_; clear n2_) | (go_at_call 28; refine (pack_Reader_Err.calls g l0 p1 e1 e1 p1 e1 w _ HS.out.drew.1 HS.out.drew.lo rfl).mono ?_; rintro e_ wa ⟨rfl, hI, hB, hK⟩; have n2_ := Aside0.mk (HS.out.drew.step40 hI hB hK); clear HS hI hB hK; have HS := n2_; clear n2_) | (go_at_call 40; refine (baileyref02_Reader_Err.calls g3 l0 p1 e1 e1 p1 e1 w _ HS.out.2.1 HS.out.lo rfl).mono ?_; rintro e_ wa ⟨rfl, hI, hB, hK⟩; have n2_ := Aside0.mk (HS.out.step66 hI hB hK); clear HS hI hB hK; have HS := n2_; clear n2_) | (go_at_call 40; refine (baileyref02_Reader_Err.calls g3 l0 p1 e1 e1 p1 e1 w _ HS.out.drew.2.1 HS.out.drew.lo rfl).mono ?_; rintro e_ wa ⟨rfl, hI, hB, hK⟩; have n2_ := Aside0.mk (HS.out.drew.step66 hI hB hK); clear HS hI hB hK; have HS := n2_; clear n2_) | (go_at_call 33; refine (pack_Reader_End.calls g l0 p1 e1 EN p1 e1 w _ HS.out.1 HS.out.lo HE.out).mono ?_; rintro e_ wa ⟨rfl, hI, hB, hK⟩; have n2_ := Aside0.mk (HS.out.step40 hI hB hK); clear HS hI hB hK; have HS := n2_; clear n2_) | (go_at_call 33; refine (pack_Reader_End.calls g l0 p1 e1 EN p1 e1 w _ HS.out.drew.1 HS.out.drew.lo HE.out).mono ?_; rintro e_ wa ⟨rfl, hI, hB, hK⟩; have n2_ := Aside0.mk (HS.out.drew.step40 hI hB hK); clear HS hI hB hK; have HS := n2_; clear n2_) | (go_at_call 41; refine (baileyref02_Reader_End.calls g3 l0 p1 e1 EN p1 e1 w _ HS.out.2.1 HS.out.lo HE.out).mono ?_; rintro e_ wa ⟨rfl, hI, hB, hK⟩; have n2_ := Aside0.mk (HS.out.step66 hI hB hK); clear HS hI hB hK; have HS := n2_; clear n2_) | (go_at_call 41; refine (baileyref02_Reader_End.calls g3 l0 p1 e1 EN p1 e1 w _ HS.out.drew.2.1 HS.out.drew.lo HE.out).mono ?_; rintro e_ wa ⟨rfl, hI, hB, hK⟩; have n2_ := Aside0.mk (HS.out.drew.step66 hI hB hK); clear HS hI hB hK; have HS := n2_; clear n2_))
          go_roundw
          case rel => exact ⟨k + 1, p1, e1, by omega, by go_num, HS.out.1, HS.out.2.1, HS.out.lo⟩
          case measure => simp [intOf]; omega
        by_cases ho2 : op = 2
        · subst ho2
          obtain ⟨v, p1, e1, hv⟩ : ∃ v p1 e1, pack_Reader_Num.f l0 p e q = some (v, p1, e1) := by
            unfold pack_Reader_Num.f
            split
            · exact ⟨_, _, _, rfl⟩
            · exact ⟨_, _, _, rfl⟩
          have HV := Aside0.mk hv
          clear hv
          obtain ⟨LL, hl⟩ : ∃ LL, pack_Reader_Left.f l0 p1 e1 = some (LL, p1, e1) := ⟨_, rfl⟩
          obtain ⟨EN, he⟩ : ∃ EN, pack_Reader_End.f l0 p1 e1 = some (EN, p1, e1) := ⟨_, rfl⟩
          have HL := Aside0.mk hl
          have HE := Aside0.mk he
          clear hl he
          go_wp2_with fail
          go_region_held3 (fun w' => w'.cell? ⟨wr.heap.size, 1, none⟩ = some (.int .i64 q)) (first | exact HS.out.cell | exact HS.out.drew.cell | assumption) (first | (go_at_call 27; refine (pack_Reader_Num.calls g l0 p e q v p1 e1 w _ HS.out.1 HS.out.lo HV.out).mono ?_; rintro e_ wa ⟨rfl, hI, hB, hK⟩; have n2_ := Aside0.mk (HS.out.step40 hI hB hK); clear HS hI hB hK; have HS := n2_; clear n2_) | (go_at_call 27; refine (pack_Reader_Num.calls g l0 p e q v p1 e1 w _ HS.out.drew.1 HS.out.drew.lo HV.out).mono ?_; rintro e_ wa ⟨rfl, hI, hB, hK⟩; have n2_ := Aside0.mk (HS.out.drew.step40 hI hB hK); clear HS hI hB hK; have HS := n2_; clear n2_) | (go_at_call 35; refine (baileyref02_Reader_Num.calls g3 l0 p e q v p1 e1 w _ HNN.out HS.out.2.1 HS.out.lo HV.out).mono ?_; rintro e_ wa ⟨rfl, hI, hB, hK⟩; have n2_ := Aside0.mk (HS.out.step66 hI hB hK); clear HS hI hB hK; have HS := n2_; clear n2_) | (go_at_call 35; refine (baileyref02_Reader_Num.calls g3 l0 p e q v p1 e1 w _ HNN.out HS.out.drew.2.1 HS.out.drew.lo HV.out).mono ?_; rintro e_ wa ⟨rfl, hI, hB, hK⟩; have n2_ := Aside0.mk (HS.out.drew.step66 hI hB hK); clear HS hI hB hK; have HS := n2_; clear n2_))
          go_wp2_with (first | (go_at_call 29; refine (pack_Reader_Left.calls g l0 p1 e1 LL p1 e1 w _ HS.out.1 HS.out.lo HL.out).mono ?_; rintro e_ wa ⟨rfl, hI, hB, hK⟩; have n2_ := Aside0.mk (HS.out.step40 hI hB hK); clear HS hI hB hK; have HS := n2_; clear n2_) | (go_at_call 29; refine (pack_Reader_Left.calls g l0 p1 e1 LL p1 e1 w _ HS.out.drew.1 HS.out.drew.lo HL.out).mono ?_; rintro e_ wa ⟨rfl, hI, hB, hK⟩; have n2_ := Aside0.mk (HS.out.drew.step40 hI hB hK); clear HS hI hB hK; have HS := n2_; clear n2_) | (go_at_call 39; refine (baileyref02_Reader_Left.calls g3 l0 p1 e1 LL p1 e1 w _ HS.out.2.1 HS.out.lo HL.out).mono ?_; rintro e_ wa ⟨rfl, hI, hB, hK⟩; have n2_ := Aside0.mk (HS.out.step66 hI hB hK); clear HS hI hB hK; have HS := n2_; clear n2_) | (go_at_call 39; refine (baileyref02_Reader_Left.calls g3 l0 p1 e1 LL p1 e1 w _ HS.out.drew.2.1 HS.out.drew.lo HL.out).mono ?_; rintro e_ wa ⟨rfl, hI, hB, hK⟩; have n2_ := Aside0.mk (HS.out.drew.step66 hI hB hK); clear HS hI hB hK; have HS := n2_; clear n2_) | (go_at_call 28; refine (pack_Reader_Err.calls g l0 p1 e1 e1 p1 e1 w _ HS.out.1 HS.out.lo rfl).mono ?_; rintro e_ wa ⟨rfl, hI, hB, hK⟩; have n2_ := Aside0.mk (HS.out.step40 hI hB hK); clear HS hI hB hK; have HS := n2_; clear n2_) | (go_at_call 28; refine (pack_Reader_Err.calls g l0 p1 e1 e1 p1 e1 w _ HS.out.drew.1 HS.out.drew.lo rfl).mono ?_; rintro e_ wa ⟨rfl, hI, hB, hK⟩; have n2_ := Aside0.mk (HS.out.drew.step40 hI hB hK); clear HS hI hB hK; have HS := n2_; clear n2_) | (go_at_call 40; refine (baileyref02_Reader_Err.calls g3 l0 p1 e1 e1 p1 e1 w _ HS.out.2.1 HS.out.lo rfl).mono ?_; rintro e_ wa ⟨rfl, hI, hB, hK⟩; have n2_ := Aside0.mk (HS.out.step66 hI hB hK); clear HS hI hB hK; have HS := n2_; clear n2_) | (go_at_call 40; refine (baileyref02_Reader_Err.calls g3 l0 p1 e1 e1 p1 e1 w _ HS.out.drew.2.1 HS.out.drew.lo rfl).mono ?_; rintro e_ wa ⟨rfl, hI, hB, hK⟩; have n2_ := Aside0.mk (HS.out.drew.step66 hI hB hK); clear HS hI hB hK; have HS := n2_; clear n2_) | (go_at_call 33; refine (pack_Reader_End.calls g l0 p1 e1 EN p1 e1 w _ HS.out.1 HS.out.lo HE.out).mono ?_; rintro e_ wa ⟨rfl, hI, hB, hK⟩; have n2_ := Aside0.mk (HS.out.step40 hI hB hK); clear HS hI hB hK; have HS := n2_; clear n2_) | (go_at_call 33; refine (pack_Reader_End.calls g l0 p1 e1 EN p1 e1 w _ HS.out.drew.1 HS.out.drew.lo HE.out).mono ?_; rintro e_ wa ⟨rfl, hI, hB, hK⟩; have n2_ := Aside0.mk (HS.out.drew.step40 hI hB hK); clear HS hI hB hK; have HS := n2_; clear n2_) | (go_at_call 41; refine (baileyref02_Reader_End.calls g3 l0 p1 e1 EN p1 e1 w _ HS.out.2.1 HS.out.lo HE.out).mono ?_; rintro e_ wa ⟨rfl, hI, hB, hK⟩; have n2_ := Aside0.mk (HS.out.step66 hI hB hK); clear HS hI hB hK; have HS := n2_; clear n2_) | (go_at_call 41; refine (baileyref02_Reader_End.calls g3 l0 p1 e1 EN p1 e1 w _ HS.out.drew.2.1 HS.out.drew.lo HE.out).mono ?_; rintro e_ wa ⟨rfl, hI, hB, hK⟩; have n2_ := Aside0.mk (HS.out.drew.step66 hI hB hK); clear HS hI hB hK; have HS := n2_; clear n2_))
          go_roundw
          case rel => exact ⟨k + 1, p1, e1, by omega, by go_num, HS.out.1, HS.out.2.1, HS.out.lo⟩
          case measure => simp [intOf]; omega
        by_cases ho3 : op = 3
        · subst ho3
          obtain ⟨v, p1, e1, hv⟩ : ∃ v p1 e1, pack_Reader_Text.f l0 p e q = some (v, p1, e1) := by
            unfold pack_Reader_Text.f
            exact ⟨_, _, _, rfl⟩
          have HV := Aside0.mk hv
          clear hv
          obtain ⟨LL, hl⟩ : ∃ LL, pack_Reader_Left.f l0 p1 e1 = some (LL, p1, e1) := ⟨_, rfl⟩
          obtain ⟨EN, he⟩ : ∃ EN, pack_Reader_End.f l0 p1 e1 = some (EN, p1, e1) := ⟨_, rfl⟩
          have HL := Aside0.mk hl
          have HE := Aside0.mk he
          clear hl he
          go_wp2_with fail
          go_region_held3 (fun w' => w'.cell? ⟨wr.heap.size, 1, none⟩ = some (.int .i64 q)) (first | exact HS.out.cell | exact HS.out.drew.cell | assumption) (first | (go_at_call 31; refine (pack_Reader_Text.calls g l0 p e q v p1 e1 w _ HS.out.1 HS.out.lo HV.out).mono ?_; rintro e_ wa ⟨rfl, hI, hB, hK⟩; have n2_ := Aside0.mk (HS.out.step40 hI hB hK); clear HS hI hB hK; have HS := n2_; clear n2_) | (go_at_call 31; refine (pack_Reader_Text.calls g l0 p e q v p1 e1 w _ HS.out.drew.1 HS.out.drew.lo HV.out).mono ?_; rintro e_ wa ⟨rfl, hI, hB, hK⟩; have n2_ := Aside0.mk (HS.out.drew.step40 hI hB hK); clear HS hI hB hK; have HS := n2_; clear n2_) | (go_at_call 36; refine (baileyref02_Reader_Text.calls g3 l0 p e q v p1 e1 w _ HNN.out HS.out.2.1 HS.out.lo HV.out).mono ?_; rintro e_ wa ⟨rfl, hI, hB, hK⟩; have n2_ := Aside0.mk (HS.out.step66 hI hB hK); clear HS hI hB hK; have HS := n2_; clear n2_) | (go_at_call 36; refine (baileyref02_Reader_Text.calls g3 l0 p e q v p1 e1 w _ HNN.out HS.out.drew.2.1 HS.out.drew.lo HV.out).mono ?_; rintro e_ wa ⟨rfl, hI, hB, hK⟩; have n2_ := Aside0.mk (HS.out.drew.step66 hI hB hK); clear HS hI hB hK; have HS := n2_; clear n2_))
          go_wp2_with (first | (go_at_call 29; refine (pack_Reader_Left.calls g l0 p1 e1 LL p1 e1 w _ HS.out.1 HS.out.lo HL.out).mono ?_; rintro e_ wa ⟨rfl, hI, hB, hK⟩; have n2_ := Aside0.mk (HS.out.step40 hI hB hK); clear HS hI hB hK; have HS := n2_; clear n2_) | (go_at_call 29; refine (pack_Reader_Left.calls g l0 p1 e1 LL p1 e1 w _ HS.out.drew.1 HS.out.drew.lo HL.out).mono ?_; rintro e_ wa ⟨rfl, hI, hB, hK⟩; have n2_ := Aside0.mk (HS.out.drew.step40 hI hB hK); clear HS hI hB hK; have HS := n2_; clear n2_) | (go_at_call 39; refine (baileyref02_Reader_Left.calls g3 l0 p1 e1 LL p1 e1 w _ HS.out.2.1 HS.out.lo HL.out).mono ?_; rintro e_ wa ⟨rfl, hI, hB, hK⟩; have n2_ := Aside0.mk (HS.out.step66 hI hB hK); clear HS hI hB hK; have HS := n2_; clear n2_) | (go_at_call 39; refine (baileyref02_Reader_Left.calls g3 l0 p1 e1 LL p1 e1 w _ HS.out.drew.2.1 HS.out.drew.lo HL.out).mono ?_; rintro e_ wa ⟨rfl, hI, hB, hK⟩; have n2_ := Aside0.mk (HS.out.drew.step66 hI hB hK); clear HS hI hB hK; have HS := n2_; clear n2_) | (go_at_call 28; refine (pack_Reader_Err.calls g l0 p1 e1 e1 p1 e1 w _ HS.out.1 HS.out.lo rfl).mono ?_; rintro e_ wa ⟨rfl, hI, hB, hK⟩; have n2_ := Aside0.mk (HS.out.step40 hI hB hK); clear HS hI hB hK; have HS := n2_; clear n2_) | (go_at_call 28; refine (pack_Reader_Err.calls g l0 p1 e1 e1 p1 e1 w _ HS.out.drew.1 HS.out.drew.lo rfl).mono ?_; rintro e_ wa ⟨rfl, hI, hB, hK⟩; have n2_ := Aside0.mk (HS.out.drew.step40 hI hB hK); clear HS hI hB hK; have HS := n2_; clear n2_) | (go_at_call 40; refine (baileyref02_Reader_Err.calls g3 l0 p1 e1 e1 p1 e1 w _ HS.out.2.1 HS.out.lo rfl).mono ?_; rintro e_ wa ⟨rfl, hI, hB, hK⟩; have n2_ := Aside0.mk (HS.out.step66 hI hB hK); clear HS hI hB hK; have HS := n2_; clear n2_) | (go_at_call 40; refine (baileyref02_Reader_Err.calls g3 l0 p1 e1 e1 p1 e1 w _ HS.out.drew.2.1 HS.out.drew.lo rfl).mono ?_; rintro e_ wa ⟨rfl, hI, hB, hK⟩; have n2_ := Aside0.mk (HS.out.drew.step66 hI hB hK); clear HS hI hB hK; have HS := n2_; clear n2_) | (go_at_call 33; refine (pack_Reader_End.calls g l0 p1 e1 EN p1 e1 w _ HS.out.1 HS.out.lo HE.out).mono ?_; rintro e_ wa ⟨rfl, hI, hB, hK⟩; have n2_ := Aside0.mk (HS.out.step40 hI hB hK); clear HS hI hB hK; have HS := n2_; clear n2_) | (go_at_call 33; refine (pack_Reader_End.calls g l0 p1 e1 EN p1 e1 w _ HS.out.drew.1 HS.out.drew.lo HE.out).mono ?_; rintro e_ wa ⟨rfl, hI, hB, hK⟩; have n2_ := Aside0.mk (HS.out.drew.step40 hI hB hK); clear HS hI hB hK; have HS := n2_; clear n2_) | (go_at_call 41; refine (baileyref02_Reader_End.calls g3 l0 p1 e1 EN p1 e1 w _ HS.out.2.1 HS.out.lo HE.out).mono ?_; rintro e_ wa ⟨rfl, hI, hB, hK⟩; have n2_ := Aside0.mk (HS.out.step66 hI hB hK); clear HS hI hB hK; have HS := n2_; clear n2_) | (go_at_call 41; refine (baileyref02_Reader_End.calls g3 l0 p1 e1 EN p1 e1 w _ HS.out.drew.2.1 HS.out.drew.lo HE.out).mono ?_; rintro e_ wa ⟨rfl, hI, hB, hK⟩; have n2_ := Aside0.mk (HS.out.drew.step66 hI hB hK); clear HS hI hB hK; have HS := n2_; clear n2_))
          go_roundw
          case rel => exact ⟨k + 1, p1, e1, by omega, by go_num, HS.out.1, HS.out.2.1, HS.out.lo⟩
          case measure => simp [intOf]; omega
        by_cases ho4 : op = 4
        · subst ho4
          obtain ⟨v, p1, e1, hv⟩ : ∃ v p1 e1, pack_Reader_Text.f l0 p e q = some (v, p1, e1) := by
            unfold pack_Reader_Text.f
            exact ⟨_, _, _, rfl⟩
          have HV := Aside0.mk hv
          clear hv
          obtain ⟨LL, hl⟩ : ∃ LL, pack_Reader_Left.f l0 p1 e1 = some (LL, p1, e1) := ⟨_, rfl⟩
          obtain ⟨EN, he⟩ : ∃ EN, pack_Reader_End.f l0 p1 e1 = some (EN, p1, e1) := ⟨_, rfl⟩
          have HL := Aside0.mk hl
          have HE := Aside0.mk he
          clear hl he
          go_wp2_with fail
          go_region_held3 (fun w' => w'.cell? ⟨wr.heap.size, 1, none⟩ = some (.int .i64 q)) (first | exact HS.out.cell | exact HS.out.drew.cell | assumption) (first | (go_at_call 31; refine (pack_Reader_Text.calls g l0 p e q v p1 e1 w _ HS.out.1 HS.out.lo HV.out).mono ?_; rintro e_ wa ⟨rfl, hI, hB, hK⟩; have n2_ := Aside0.mk (HS.out.step40 hI hB hK); clear HS hI hB hK; have HS := n2_; clear n2_) | (go_at_call 31; refine (pack_Reader_Text.calls g l0 p e q v p1 e1 w _ HS.out.drew.1 HS.out.drew.lo HV.out).mono ?_; rintro e_ wa ⟨rfl, hI, hB, hK⟩; have n2_ := Aside0.mk (HS.out.drew.step40 hI hB hK); clear HS hI hB hK; have HS := n2_; clear n2_) | (go_at_call 36; refine (baileyref02_Reader_Text.calls g3 l0 p e q v p1 e1 w _ HNN.out HS.out.2.1 HS.out.lo HV.out).mono ?_; rintro e_ wa ⟨rfl, hI, hB, hK⟩; have n2_ := Aside0.mk (HS.out.step66 hI hB hK); clear HS hI hB hK; have HS := n2_; clear n2_) | (go_at_call 36; refine (baileyref02_Reader_Text.calls g3 l0 p e q v p1 e1 w _ HNN.out HS.out.drew.2.1 HS.out.drew.lo HV.out).mono ?_; rintro e_ wa ⟨rfl, hI, hB, hK⟩; have n2_ := Aside0.mk (HS.out.drew.step66 hI hB hK); clear HS hI hB hK; have HS := n2_; clear n2_))
          go_wp2_with (first | (go_at_call 29; refine (pack_Reader_Left.calls g l0 p1 e1 LL p1 e1 w _ HS.out.1 HS.out.lo HL.out).mono ?_; rintro e_ wa ⟨rfl, hI, hB, hK⟩; have n2_ := Aside0.mk (HS.out.step40 hI hB hK); clear HS hI hB hK; have HS := n2_; clear n2_) | (go_at_call 29; refine (pack_Reader_Left.calls g l0 p1 e1 LL p1 e1 w _ HS.out.drew.1 HS.out.drew.lo HL.out).mono ?_; rintro e_ wa ⟨rfl, hI, hB, hK⟩; have n2_ := Aside0.mk (HS.out.drew.step40 hI hB hK); clear HS hI hB hK; have HS := n2_; clear n2_) | (go_at_call 39; refine (baileyref02_Reader_Left.calls g3 l0 p1 e1 LL p1 e1 w _ HS.out.2.1 HS.out.lo HL.out).mono ?_; rintro e_ wa ⟨rfl, hI, hB, hK⟩; have n2_ := Aside0.mk (HS.out.step66 hI hB hK); clear HS hI hB hK; have HS := n2_; clear n2_) | (go_at_call 39; refine (baileyref02_Reader_Left.calls g3 l0 p1 e1 LL p1 e1 w _ HS.out.drew.2.1 HS.out.drew.lo HL.out).mono ?_; rintro e_ wa ⟨rfl, hI, hB, hK⟩; have n2_ := Aside0.mk (HS.out.drew.step66 hI hB hK); clear HS hI hB hK; have HS := n2_; clear n2_) | (go_at_call 28; refine (pack_Reader_Err.calls g l0 p1 e1 e1 p1 e1 w _ HS.out.1 HS.out.lo rfl).mono ?_; rintro e_ wa ⟨rfl, hI, hB, hK⟩; have n2_ := Aside0.mk (HS.out.step40 hI hB hK); clear HS hI hB hK; have HS := n2_; clear n2_) | (go_at_call 28; refine (pack_Reader_Err.calls g l0 p1 e1 e1 p1 e1 w _ HS.out.drew.1 HS.out.drew.lo rfl).mono ?_; rintro e_ wa ⟨rfl, hI, hB, hK⟩; have n2_ := Aside0.mk (HS.out.drew.step40 hI hB hK); clear HS hI hB hK; have HS := n2_; clear n2_) | (go_at_call 40; refine (baileyref02_Reader_Err.calls g3 l0 p1 e1 e1 p1 e1 w _ HS.out.2.1 HS.out.lo rfl).mono ?_; rintro e_ wa ⟨rfl, hI, hB, hK⟩; have n2_ := Aside0.mk (HS.out.step66 hI hB hK); clear HS hI hB hK; have HS := n2_; clear n2_) | (go_at_call 40; refine (baileyref02_Reader_Err.calls g3 l0 p1 e1 e1 p1 e1 w _ HS.out.drew.2.1 HS.out.drew.lo rfl).mono ?_; rintro e_ wa ⟨rfl, hI, hB, hK⟩; have n2_ := Aside0.mk (HS.out.drew.step66 hI hB hK); clear HS hI hB hK; have HS := n2_; clear n2_) | (go_at_call 33; refine (pack_Reader_End.calls g l0 p1 e1 EN p1 e1 w _ HS.out.1 HS.out.lo HE.out).mono ?_; rintro e_ wa ⟨rfl, hI, hB, hK⟩; have n2_ := Aside0.mk (HS.out.step40 hI hB hK); clear HS hI hB hK; have HS := n2_; clear n2_) | (go_at_call 33; refine (pack_Reader_End.calls g l0 p1 e1 EN p1 e1 w _ HS.out.drew.1 HS.out.drew.lo HE.out).mono ?_; rintro e_ wa ⟨rfl, hI, hB, hK⟩; have n2_ := Aside0.mk (HS.out.drew.step40 hI hB hK); clear HS hI hB hK; have HS := n2_; clear n2_) | (go_at_call 41; refine (baileyref02_Reader_End.calls g3 l0 p1 e1 EN p1 e1 w _ HS.out.2.1 HS.out.lo HE.out).mono ?_; rintro e_ wa ⟨rfl, hI, hB, hK⟩; have n2_ := Aside0.mk (HS.out.step66 hI hB hK); clear HS hI hB hK; have HS := n2_; clear n2_) | (go_at_call 41; refine (baileyref02_Reader_End.calls g3 l0 p1 e1 EN p1 e1 w _ HS.out.drew.2.1 HS.out.drew.lo HE.out).mono ?_; rintro e_ wa ⟨rfl, hI, hB, hK⟩; have n2_ := Aside0.mk (HS.out.drew.step66 hI hB hK); clear HS hI hB hK; have HS := n2_; clear n2_))
          go_roundw
          case rel => exact ⟨k + 1, p1, e1, by omega, by go_num, HS.out.1, HS.out.2.1, HS.out.lo⟩
          case measure => simp [intOf]; omega
        by_cases ho5 : op = 5
        · subst ho5
          obtain ⟨v, p1, e1, hv⟩ : ∃ v p1 e1, pack_Reader_Yes.f l0 p e = some (v, p1, e1) := by
            unfold pack_Reader_Yes.f
            exact ⟨_, _, _, rfl⟩
          have HV := Aside0.mk hv
          clear hv
          obtain ⟨LL, hl⟩ : ∃ LL, pack_Reader_Left.f l0 p1 e1 = some (LL, p1, e1) := ⟨_, rfl⟩
          obtain ⟨EN, he⟩ : ∃ EN, pack_Reader_End.f l0 p1 e1 = some (EN, p1, e1) := ⟨_, rfl⟩
          have HL := Aside0.mk hl
          have HE := Aside0.mk he
          clear hl he
          go_wp2_with (first | (go_at_call 32; refine (pack_Reader_Yes.calls g l0 p e v p1 e1 w _ HS.out.1 HS.out.lo HV.out).mono ?_; rintro e_ wa ⟨rfl, hI, hB, hK⟩; have n2_ := Aside0.mk (HS.out.step40 hI hB hK); clear HS hI hB hK; have HS := n2_; clear n2_) | (go_at_call 32; refine (pack_Reader_Yes.calls g l0 p e v p1 e1 w _ HS.out.drew.1 HS.out.drew.lo HV.out).mono ?_; rintro e_ wa ⟨rfl, hI, hB, hK⟩; have n2_ := Aside0.mk (HS.out.drew.step40 hI hB hK); clear HS hI hB hK; have HS := n2_; clear n2_) | (go_at_call 37; refine (baileyref02_Reader_Yes.calls g3 l0 p e v p1 e1 w _ HS.out.2.1 HS.out.lo HV.out).mono ?_; rintro e_ wa ⟨rfl, hI, hB, hK⟩; have n2_ := Aside0.mk (HS.out.step66 hI hB hK); clear HS hI hB hK; have HS := n2_; clear n2_) | (go_at_call 37; refine (baileyref02_Reader_Yes.calls g3 l0 p e v p1 e1 w _ HS.out.drew.2.1 HS.out.drew.lo HV.out).mono ?_; rintro e_ wa ⟨rfl, hI, hB, hK⟩; have n2_ := Aside0.mk (HS.out.drew.step66 hI hB hK); clear HS hI hB hK; have HS := n2_; clear n2_) | (go_at_call 29; refine (pack_Reader_Left.calls g l0 p1 e1 LL p1 e1 w _ HS.out.1 HS.out.lo HL.out).mono ?_; rintro e_ wa ⟨rfl, hI, hB, hK⟩; have n2_ := Aside0.mk (HS.out.step40 hI hB hK); clear HS hI hB hK; have HS := n2_; clear n2_) | (go_at_call 29; refine (pack_Reader_Left.calls g l0 p1 e1 LL p1 e1 w _ HS.out.drew.1 HS.out.drew.lo HL.out).mono ?_; rintro e_ wa ⟨rfl, hI, hB, hK⟩; have n2_ := Aside0.mk (HS.out.drew.step40 hI hB hK); clear HS hI hB hK; have HS := n2_; clear n2_) | (go_at_call 39; refine (baileyref02_Reader_Left.calls g3 l0 p1 e1 LL p1 e1 w _ HS.out.2.1 HS.out.lo HL.out).mono ?_; rintro e_ wa ⟨rfl, hI, hB, hK⟩; have n2_ := Aside0.mk (HS.out.step66 hI hB hK); clear HS hI hB hK; have HS := n2_; clear n2_) | (go_at_call 39; refine (baileyref02_Reader_Left.calls g3 l0 p1 e1 LL p1 e1 w _ HS.out.drew.2.1 HS.out.drew.lo HL.out).mono ?_; rintro e_ wa ⟨rfl, hI, hB, hK⟩; have n2_ := Aside0.mk (HS.out.drew.step66 hI hB hK); clear HS hI hB hK; have HS := n2_; clear n2_) | (go_at_call 28; refine (pack_Reader_Err.calls g l0 p1 e1 e1 p1 e1 w _ HS.out.1 HS.out.lo rfl).mono ?_; rintro e_ wa ⟨rfl, hI, hB, hK⟩; have n2_ := Aside0.mk (HS.out.step40 hI hB hK); clear HS hI hB hK; have HS := n2_; clear n2_) | (go_at_call 28; refine (pack_Reader_Err.calls g l0 p1 e1 e1 p1 e1 w _ HS.out.drew.1 HS.out.drew.lo rfl).mono ?_; rintro e_ wa ⟨rfl, hI, hB, hK⟩; have n2_ := Aside0.mk (HS.out.drew.step40 hI hB hK); clear HS hI hB hK; have HS := n2_; clear n2_) | (go_at_call 40; refine (baileyref02_Reader_Err.calls g3 l0 p1 e1 e1 p1 e1 w _ HS.out.2.1 HS.out.lo rfl).mono ?_; rintro e_ wa ⟨rfl, hI, hB, hK⟩; have n2_ := Aside0.mk (HS.out.step66 hI hB hK); clear HS hI hB hK; have HS := n2_; clear n2_) | (go_at_call 40; refine (baileyref02_Reader_Err.calls g3 l0 p1 e1 e1 p1 e1 w _ HS.out.drew.2.1 HS.out.drew.lo rfl).mono ?_; rintro e_ wa ⟨rfl, hI, hB, hK⟩; have n2_ := Aside0.mk (HS.out.drew.step66 hI hB hK); clear HS hI hB hK; have HS := n2_; clear n2_) | (go_at_call 33; refine (pack_Reader_End.calls g l0 p1 e1 EN p1 e1 w _ HS.out.1 HS.out.lo HE.out).mono ?_; rintro e_ wa ⟨rfl, hI, hB, hK⟩; have n2_ := Aside0.mk (HS.out.step40 hI hB hK); clear HS hI hB hK; have HS := n2_; clear n2_) | (go_at_call 33; refine (pack_Reader_End.calls g l0 p1 e1 EN p1 e1 w _ HS.out.drew.1 HS.out.drew.lo HE.out).mono ?_; rintro e_ wa ⟨rfl, hI, hB, hK⟩; have n2_ := Aside0.mk (HS.out.drew.step40 hI hB hK); clear HS hI hB hK; have HS := n2_; clear n2_) | (go_at_call 41; refine (baileyref02_Reader_End.calls g3 l0 p1 e1 EN p1 e1 w _ HS.out.2.1 HS.out.lo HE.out).mono ?_; rintro e_ wa ⟨rfl, hI, hB, hK⟩; have n2_ := Aside0.mk (HS.out.step66 hI hB hK); clear HS hI hB hK; have HS := n2_; clear n2_) | (go_at_call 41; refine (baileyref02_Reader_End.calls g3 l0 p1 e1 EN p1 e1 w _ HS.out.drew.2.1 HS.out.drew.lo HE.out).mono ?_; rintro e_ wa ⟨rfl, hI, hB, hK⟩; have n2_ := Aside0.mk (HS.out.drew.step66 hI hB hK); clear HS hI hB hK; have HS := n2_; clear n2_))
          go_roundw
          case rel => exact ⟨k + 1, p1, e1, by omega, by go_num, HS.out.1, HS.out.2.1, HS.out.lo⟩
          case measure => simp [intOf]; omega
        by_cases ho6 : op = 6
        · subst ho6
          obtain ⟨v, p1, e1, hv⟩ : ∃ v p1 e1, pack_Reader_Yes.f l0 p e = some (v, p1, e1) := by
            unfold pack_Reader_Yes.f
            exact ⟨_, _, _, rfl⟩
          have HV := Aside0.mk hv
          clear hv
          obtain ⟨LL, hl⟩ : ∃ LL, pack_Reader_Left.f l0 p1 e1 = some (LL, p1, e1) := ⟨_, rfl⟩
          obtain ⟨EN, he⟩ : ∃ EN, pack_Reader_End.f l0 p1 e1 = some (EN, p1, e1) := ⟨_, rfl⟩
          have HL := Aside0.mk hl
          have HE := Aside0.mk he
          clear hl he
          go_wp2_with (first | (go_at_call 32; refine (pack_Reader_Yes.calls g l0 p e v p1 e1 w _ HS.out.1 HS.out.lo HV.out).mono ?_; rintro e_ wa ⟨rfl, hI, hB, hK⟩; have n2_ := Aside0.mk (HS.out.step40 hI hB hK); clear HS hI hB hK; have HS := n2_; clear n2_) | (go_at_call 32; refine (pack_Reader_Yes.calls g l0 p e v p1 e1 w _ HS.out.drew.1 HS.out.drew.lo HV.out).mono ?_; rintro e_ wa ⟨rfl, hI, hB, hK⟩; have n2_ := Aside0.mk (HS.out.drew.step40 hI hB hK); clear HS hI hB hK; have HS := n2_; clear n2_) | (go_at_call 37; refine (baileyref02_Reader_Yes.calls g3 l0 p e v p1 e1 w _ HS.out.2.1 HS.out.lo HV.out).mono ?_; rintro e_ wa ⟨rfl, hI, hB, hK⟩; have n2_ := Aside0.mk (HS.out.step66 hI hB hK); clear HS hI hB hK; have HS := n2_; clear n2_) | (go_at_call 37; refine (baileyref02_Reader_Yes.calls g3 l0 p e v p1 e1 w _ HS.out.drew.2.1 HS.out.drew.lo HV.out).mono ?_; rintro e_ wa ⟨rfl, hI, hB, hK⟩; have n2_ := Aside0.mk (HS.out.drew.step66 hI hB hK); clear HS hI hB hK; have HS := n2_; clear n2_) | (go_at_call 29; refine (pack_Reader_Left.calls g l0 p1 e1 LL p1 e1 w _ HS.out.1 HS.out.lo HL.out).mono ?_; rintro e_ wa ⟨rfl, hI, hB, hK⟩; have n2_ := Aside0.mk (HS.out.step40 hI hB hK); clear HS hI hB hK; have HS := n2_; clear n2_) | (go_at_call 29; refine (pack_Reader_Left.calls g l0 p1 e1 LL p1 e1 w _ HS.out.drew.1 HS.out.drew.lo HL.out).mono ?_; rintro e_ wa ⟨rfl, hI, hB, hK⟩; have n2_ := Aside0.mk (HS.out.drew.step40 hI hB hK); clear HS hI hB hK; have HS := n2_; clear n2_) | (go_at_call 39; refine (baileyref02_Reader_Left.calls g3 l0 p1 e1 LL p1 e1 w _ HS.out.2.1 HS.out.lo HL.out).mono ?_; rintro e_ wa ⟨rfl, hI, hB, hK⟩; have n2_ := Aside0.mk (HS.out.step66 hI hB hK); clear HS hI hB hK; have HS := n2_; clear n2_) | (go_at_call 39; refine (baileyref02_Reader_Left.calls g3 l0 p1 e1 LL p1 e1 w _ HS.out.drew.2.1 HS.out.drew.lo HL.out).mono ?_; rintro e_ wa ⟨rfl, hI, hB, hK⟩; have n2_ := Aside0.mk (HS.out.drew.step66 hI hB hK); clear HS hI hB hK; have HS := n2_; clear n2_) | (go_at_call 28; refine (pack_Reader_Err.calls g l0 p1 e1 e1 p1 e1 w _ HS.out.1 HS.out.lo rfl).mono ?_; rintro e_ wa ⟨rfl, hI, hB, hK⟩; have n2_ := Aside0.mk (HS.out.step40 hI hB hK); clear HS hI hB hK; have HS := n2_; clear n2_) | (go_at_call 28; refine (pack_Reader_Err.calls g l0 p1 e1 e1 p1 e1 w _ HS.out.drew.1 HS.out.drew.lo rfl).mono ?_; rintro e_ wa ⟨rfl, hI, hB, hK⟩; have n2_ := Aside0.mk (HS.out.drew.step40 hI hB hK); clear HS hI hB hK; have HS := n2_; clear n2_) | (go_at_call 40; refine (baileyref02_Reader_Err.calls g3 l0 p1 e1 e1 p1 e1 w _ HS.out.2.1 HS.out.lo rfl).mono ?_; rintro e_ wa ⟨rfl, hI, hB, hK⟩; have n2_ := Aside0.mk (HS.out.step66 hI hB hK); clear HS hI hB hK; have HS := n2_; clear n2_) | (go_at_call 40; refine (baileyref02_Reader_Err.calls g3 l0 p1 e1 e1 p1 e1 w _ HS.out.drew.2.1 HS.out.drew.lo rfl).mono ?_; rintro e_ wa ⟨rfl, hI, hB, hK⟩; have n2_ := Aside0.mk (HS.out.drew.step66 hI hB hK); clear HS hI hB hK; have HS := n2_; clear n2_) | (go_at_call 33; refine (pack_Reader_End.calls g l0 p1 e1 EN p1 e1 w _ HS.out.1 HS.out.lo HE.out).mono ?_; rintro e_ wa ⟨rfl, hI, hB, hK⟩; have n2_ := Aside0.mk (HS.out.step40 hI hB hK); clear HS hI hB hK; have HS := n2_; clear n2_) | (go_at_call 33; refine (pack_Reader_End.calls g l0 p1 e1 EN p1 e1 w _ HS.out.drew.1 HS.out.drew.lo HE.out).mono ?_; rintro e_ wa ⟨rfl, hI, hB, hK⟩; have n2_ := Aside0.mk (HS.out.drew.step40 hI hB hK); clear HS hI hB hK; have HS := n2_; clear n2_) | (go_at_call 41; refine (baileyref02_Reader_End.calls g3 l0 p1 e1 EN p1 e1 w _ HS.out.2.1 HS.out.lo HE.out).mono ?_; rintro e_ wa ⟨rfl, hI, hB, hK⟩; have n2_ := Aside0.mk (HS.out.step66 hI hB hK); clear HS hI hB hK; have HS := n2_; clear n2_) | (go_at_call 41; refine (baileyref02_Reader_End.calls g3 l0 p1 e1 EN p1 e1 w _ HS.out.drew.2.1 HS.out.drew.lo HE.out).mono ?_; rintro e_ wa ⟨rfl, hI, hB, hK⟩; have n2_ := Aside0.mk (HS.out.drew.step66 hI hB hK); clear HS hI hB hK; have HS := n2_; clear n2_))
          go_roundw
          case rel => exact ⟨k + 1, p1, e1, by omega, by go_num, HS.out.1, HS.out.2.1, HS.out.lo⟩
          case measure => simp [intOf]; omega
        have zo0 : (op == 0) = false := beq_eq_false_iff_ne.mpr ho0
        have zo1 : (op == 1) = false := beq_eq_false_iff_ne.mpr ho1
        have zo2 : (op == 2) = false := beq_eq_false_iff_ne.mpr ho2
        have zo3 : (op == 3) = false := beq_eq_false_iff_ne.mpr ho3
        have zo4 : (op == 4) = false := beq_eq_false_iff_ne.mpr ho4
        have zo5 : (op == 5) = false := beq_eq_false_iff_ne.mpr ho5
        have zo6 : (op == 6) = false := beq_eq_false_iff_ne.mpr ho6
        clear ho0 ho1 ho2 ho3 ho4 ho5 ho6
        obtain ⟨LL, hl⟩ : ∃ LL, pack_Reader_Left.f l0 p (if e = 0 then Int.tmod q 30 else e) = some (LL, p, (if e = 0 then Int.tmod q 30 else e)) := ⟨_, rfl⟩
        obtain ⟨EN, he⟩ : ∃ EN, pack_Reader_End.f l0 p (if e = 0 then Int.tmod q 30 else e) = some (EN, p, (if e = 0 then Int.tmod q 30 else e)) := ⟨_, rfl⟩
        have HL := Aside0.mk hl
        have HE := Aside0.mk he
        clear hl he
        go_wp2_with (first | (go_at_call 30; refine (pack_Reader_Fail.calls g l0 p e _ _ _ w _ HS.out.1 HS.out.lo rfl).mono ?_; rintro e_ wa ⟨rfl, hI, hB, hK⟩; have n2_ := Aside0.mk (HS.out.step40 hI hB hK); clear HS hI hB hK; have HS := n2_; clear n2_; have hcq := HS.out.cell) | (go_at_call 30; refine (pack_Reader_Fail.calls g l0 p e _ _ _ w _ HS.out.drew.1 HS.out.drew.lo rfl).mono ?_; rintro e_ wa ⟨rfl, hI, hB, hK⟩; have n2_ := Aside0.mk (HS.out.drew.step40 hI hB hK); clear HS hI hB hK; have HS := n2_; clear n2_; have hcq := HS.out.cell) | (go_at_call 38; refine (baileyref02_Reader_Fail.calls g3 l0 p e _ _ _ w _ HS.out.2.1 HS.out.lo rfl).mono ?_; rintro e_ wa ⟨rfl, hI, hB, hK⟩; have n2_ := Aside0.mk (HS.out.step66 hI hB hK); clear HS hI hB hK; have HS := n2_; clear n2_; have hcq := HS.out.cell) | (go_at_call 38; refine (baileyref02_Reader_Fail.calls g3 l0 p e _ _ _ w _ HS.out.drew.2.1 HS.out.drew.lo rfl).mono ?_; rintro e_ wa ⟨rfl, hI, hB, hK⟩; have n2_ := Aside0.mk (HS.out.drew.step66 hI hB hK); clear HS hI hB hK; have HS := n2_; clear n2_; have hcq := HS.out.cell) | (go_at_call 29; refine (pack_Reader_Left.calls g l0 p (if e = 0 then Int.tmod q 30 else e) LL p (if e = 0 then Int.tmod q 30 else e) w _ HS.out.1 HS.out.lo HL.out).mono ?_; rintro e_ wa ⟨rfl, hI, hB, hK⟩; have n2_ := Aside0.mk (HS.out.step40 hI hB hK); clear HS hI hB hK; have HS := n2_; clear n2_) | (go_at_call 29; refine (pack_Reader_Left.calls g l0 p (if e = 0 then Int.tmod q 30 else e) LL p (if e = 0 then Int.tmod q 30 else e) w _ HS.out.drew.1 HS.out.drew.lo HL.out).mono ?_; rintro e_ wa ⟨rfl, hI, hB, hK⟩; have n2_ := Aside0.mk (HS.out.drew.step40 hI hB hK); clear HS hI hB hK; have HS := n2_; clear n2_) | (go_at_call 39; refine (baileyref02_Reader_Left.calls g3 l0 p (if e = 0 then Int.tmod q 30 else e) LL p (if e = 0 then Int.tmod q 30 else e) w _ HS.out.2.1 HS.out.lo HL.out).mono ?_; rintro e_ wa ⟨rfl, hI, hB, hK⟩; have n2_ := Aside0.mk (HS.out.step66 hI hB hK); clear HS hI hB hK; have HS := n2_; clear n2_) | (go_at_call 39; refine (baileyref02_Reader_Left.calls g3 l0 p (if e = 0 then Int.tmod q 30 else e) LL p (if e = 0 then Int.tmod q 30 else e) w _ HS.out.drew.2.1 HS.out.drew.lo HL.out).mono ?_; rintro e_ wa ⟨rfl, hI, hB, hK⟩; have n2_ := Aside0.mk (HS.out.drew.step66 hI hB hK); clear HS hI hB hK; have HS := n2_; clear n2_) | (go_at_call 28; refine (pack_Reader_Err.calls g l0 p (if e = 0 then Int.tmod q 30 else e) (if e = 0 then Int.tmod q 30 else e) p (if e = 0 then Int.tmod q 30 else e) w _ HS.out.1 HS.out.lo rfl).mono ?_; rintro e_ wa ⟨rfl, hI, hB, hK⟩; have n2_ := Aside0.mk (HS.out.step40 hI hB hK); clear HS hI hB hK; have HS := n2_; clear n2_) | (go_at_call 28; refine (pack_Reader_Err.calls g l0 p (if e = 0 then Int.tmod q 30 else e) (if e = 0 then Int.tmod q 30 else e) p (if e = 0 then Int.tmod q 30 else e) w _ HS.out.drew.1 HS.out.drew.lo rfl).mono ?_; rintro e_ wa ⟨rfl, hI, hB, hK⟩; have n2_ := Aside0.mk (HS.out.drew.step40 hI hB hK); clear HS hI hB hK; have HS := n2_; clear n2_) | (go_at_call 40; refine (baileyref02_Reader_Err.calls g3 l0 p (if e = 0 then Int.tmod q 30 else e) (if e = 0 then Int.tmod q 30 else e) p (if e = 0 then Int.tmod q 30 else e) w _ HS.out.2.1 HS.out.lo rfl).mono ?_; rintro e_ wa ⟨rfl, hI, hB, hK⟩; have n2_ := Aside0.mk (HS.out.step66 hI hB hK); clear HS hI hB hK; have HS := n2_; clear n2_) | (go_at_call 40; refine (baileyref02_Reader_Err.calls g3 l0 p (if e = 0 then Int.tmod q 30 else e) (if e = 0 then Int.tmod q 30 else e) p (if e = 0 then Int.tmod q 30 else e) w _ HS.out.drew.2.1 HS.out.drew.lo rfl).mono ?_; rintro e_ wa ⟨rfl, hI, hB, hK⟩; have n2_ := Aside0.mk (HS.out.drew.step66 hI hB hK); clear HS hI hB hK; have HS := n2_; clear n2_) | (go_at_call 33; refine (pack_Reader_End.calls g l0 p (if e = 0 then Int.tmod q 30 else e) EN p (if e = 0 then Int.tmod q 30 else e) w _ HS.out.1 HS.out.lo HE.out).mono ?_; rintro e_ wa ⟨rfl, hI, hB, hK⟩; have n2_ := Aside0.mk (HS.out.step40 hI hB hK); clear HS hI hB hK; have HS := n2_; clear n2_) | (go_at_call 33; refine (pack_Reader_End.calls g l0 p (if e = 0 then Int.tmod q 30 else e) EN p (if e = 0 then Int.tmod q 30 else e) w _ HS.out.drew.1 HS.out.drew.lo HE.out).mono ?_; rintro e_ wa ⟨rfl, hI, hB, hK⟩; have n2_ := Aside0.mk (HS.out.drew.step40 hI hB hK); clear HS hI hB hK; have HS := n2_; clear n2_) | (go_at_call 41; refine (baileyref02_Reader_End.calls g3 l0 p (if e = 0 then Int.tmod q 30 else e) EN p (if e = 0 then Int.tmod q 30 else e) w _ HS.out.2.1 HS.out.lo HE.out).mono ?_; rintro e_ wa ⟨rfl, hI, hB, hK⟩; have n2_ := Aside0.mk (HS.out.step66 hI hB hK); clear HS hI hB hK; have HS := n2_; clear n2_) | (go_at_call 41; refine (baileyref02_Reader_End.calls g3 l0 p (if e = 0 then Int.tmod q 30 else e) EN p (if e = 0 then Int.tmod q 30 else e) w _ HS.out.drew.2.1 HS.out.drew.lo HE.out).mono ?_; rintro e_ wa ⟨rfl, hI, hB, hK⟩; have n2_ := Aside0.mk (HS.out.drew.step66 hI hB hK); clear HS hI hB hK; have HS := n2_; clear n2_))
        go_roundw
        case rel => exact ⟨k + 1, p, _, by omega, by go_num, HS.out.1, HS.out.2.1, HS.out.lo⟩
        case measure => simp [intOf]; omega
    · have t1 : decide ((k : Int) < (n1 : Int)) = false := decide_eq_false (by omega)
      have t5 : decide (k < n1) = false := decide_eq_false hlt
      clear hI40 hI66 hBB
      go_wp2_with (first | (go_at_call 16; refine (baileylaw02_awake.calls true _ rfl).mono ?_; rintro e w9 ⟨rfl, hB9⟩))
      go_ret
      exact ⟨rfl, below_then HBB.out HBB.out.size hB9⟩
end Go.Proofs.Ytagpdfekeppbgaa.X
