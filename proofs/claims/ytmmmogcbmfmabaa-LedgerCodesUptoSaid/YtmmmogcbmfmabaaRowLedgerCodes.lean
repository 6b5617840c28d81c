/- Any ledger has the bytes of the document, and any bytes are the ledger that it says, for every two ledgers and bytes whose bulk is at most 1048576. Condition: that bulk. -/
import Derived.Test.YtmmmogcbmfmabaaRows
import Derived.Test.YtmmmogcbmfmabaaOldc5
import Derived.Test.YtmmmogcbmfmabaaOldcO
import Derived.WalkKit
import Derived.ProofKit
import Derived.OpenShut
import Derived.ShutString
import Derived.ChangeOld
import Derived.Below
import Derived.JoinedCond
set_option linter.unusedVariables false
set_option maxRecDepth 100000
namespace Go.Proofs.Ytmmmogcbmfmabaa.ledgerCodes
open Go.ChangeShapes Go.WideShapes Go.ChangeAt Go.RowKit
open Go.ChangeMaps (open_string shut_string)
theorem own : ownKnob Try.prog.godebug = none := by kernel_rfl
theorem laidOut : laidOutB Try.prog = true := by kernel_rfl
open Go.T in
theorem walk (W : World) (v0 : Value) (h0 : ∃ xs, Sh.fitss [.int .i64, .int .i64, .int .i64, .int .i64, .sl true [.int .i64, .int .i64, .int .i64, .int .i64, .int .i64, .str]] xs ∧ ArgR W (.agg xs) v0 ∧ TV.letss xs ≤ 1048576) (v1 : Value) (h1 : ∃ xs, Sh.fitss [.int .i64, .int .i64, .int .i64, .int .i64, .sl true [.int .i64, .int .i64, .int .i64, .int .i64, .int .i64, .str]] xs ∧ ArgR W (.agg xs) v1 ∧ TV.letss xs ≤ 1048576) (v2 : Value) (h2 : ∃ x, (.sl false [.int .u8] : Sh).fits x ∧ ArgR W x v2 ∧ x.lets ≤ 1048576) :
    Calls Try.prog 9 #[v0, v1, v2] W (fun e W' => e = .returned (.bool true) ∧ Below W.heap.size W W') := by
  obtain ⟨x0, f0, g0, n0⟩ := h0
  obtain ⟨x1, f1, g1, _⟩ := h1
  obtain ⟨x2, f2, g2, _⟩ := h2
  obtain ⟨l, hl, e0⟩ := Lg.fits f0
  obtain ⟨m, hm, e1⟩ := Lg.fits f1
  obtain ⟨b, hb, e2⟩ := Sh.bytes f2
  rw [e0] at g0
  rw [e1] at g1
  rw [e2, bl_of] at g2
  have hn := Lg.lets_names e0 n0
  exact glue3 (callT_sound tabOk ext_ord ext_snd) (codes l m hl hm _ (bl_by b) (by rw [List.length_map]; exact hb) hn) g0 g1 g2

theorem all_sum {H : Type} (l : List (DataW H)) : (l.map Rows.uptoBulk).sum = Rows.uptoBulkAll l := by
  induction l with
  | nil => simp [Rows.uptoBulkAll]
  | cons x l ih => simp only [List.map_cons, List.sum_cons, Rows.uptoBulkAll, ih]
theorem msr {H : Type} : Go.T.Msr (Rows.uptoBulk (H := H)) :=
  ⟨fun bytes => by simp only [Rows.uptoBulk]; omega, fun ps => by simp only [Rows.uptoBulk, all_sum]; omega, fun es rest => by simp only [Rows.uptoBulk, all_sum]; omega⟩
theorem lifted (os : Os) (started : os.Started) (H : Type) (enc : TypeId × Value → H) (F : Stop.Interp) :
    ReturnsInHanded {} Try.checked os 9 .any ((Rows.OpenSpec.upto Rows.ledgerCodesSpec).pre6 enc Try.prog Try.f9 Rows.ledgerCodesUptoRow.domain false) (((Rows.OpenSpec.upto Rows.ledgerCodesSpec).at F).post enc Try.prog Try.f9 false true false false) := by
  refine returnsInHanded_of_cond (C := Try.checked) (s := Rows.OpenSpec.upto Rows.ledgerCodesSpec) (k := Rows.uptoSmall) rfl own started (by kernel_rfl) Try.func9
    (OpenSpec.witness (enc := enc) (C := Try.checked) (s := Rows.OpenSpec.upto Rows.ledgerCodesSpec) (k := Rows.uptoSmall) rfl false ⟨#[], #[.agg #[.int .i64 0, .int .i64 0, .int .i64 0, .int .i64 0, .slice none 0 0], .agg #[.int .i64 0, .int .i64 0, .int .i64 0, .int .i64 0, .slice none 0 0], .slice none 0 0], []⟩ 8 (by kernel_rfl) (by kernel_rfl) (by kernel_rfl)
      (x := ([.agg [.lit (.int .i64 0), .lit (.int .i64 0), .lit (.int .i64 0), .lit (.int .i64 0), .nil], .agg [.lit (.int .i64 0), .lit (.int .i64 0), .lit (.int .i64 0), .lit (.int .i64 0), .nil], .nil], [], [])) (by kernel_rfl) rfl (by kernel_rfl)) ?_
  intro W base args ds gs before hval0 hW hcnd hk0 _
  show Calls Try.prog 9 args W fun e W' => ∃ v, e = .returned v ∧ Rows.ledgerCodesSpec.post enc Try.prog Try.f9 false true false false W args v W'
  have hval : ∀ (j : Nat) t v, Try.f9.params[j]? = some t → args[j]? = some v → Value.okWide Try.prog W .any base t v := hval0
  have hW' := hW
  obtain ⟨p, q, hA0, hV, rfl, hfz, hnd⟩ := hW
  have hA : DataW.TrodAll enc Try.prog W 0 (fun _ => true) true Try.f9.params.toList args.toList ds p := hA0
  rw [Try.params9] at hA hval
  obtain ⟨v0, vs0, d0, ds0, p0, q0, hargs, rfl, rfl, h0, r0⟩ := trodAll_cons hA
  obtain ⟨v1, vs1, d1, ds1, p1, q1, rfl, rfl, rfl, h1, r1⟩ := trodAll_cons r0
  obtain ⟨v2, vs2, d2, ds2, p2, q2, rfl, rfl, rfl, h2, r2⟩ := trodAll_cons r1
  obtain ⟨rfl, rfl, rfl⟩ := trodAll_nil r2
  obtain rfl : args = #[v0, v1, v2] := by cases args; simp_all
  obtain ⟨rfl, rfl⟩ := trodVars_none hV
  have hk1 := hk0
  simp only [List.append_nil] at hk1
  have hk : Rows.uptoBulkAll [d0, d1, d2] ≤ 1048576 := of_decide_eq_true hk1
  clear hk1
  simp only [Rows.uptoBulkAll] at hk
  clear hk0
  obtain ⟨a0, rfl, _⟩ := okWide_struct Try.underlying24 (hval 0 24 v0 rfl rfl)
  have k0 := h0
  have lt0 : ∀ x ∈ p0, x.block < W.heap.size := by obtain ⟨m, hm⟩ := k0; exact DataW.trod_lt m _ _ _ hm
  have g0 : ∃ xs, Go.T.Sh.fitss [.int .i64, .int .i64, .int .i64, .int .i64, .sl true [.int .i64, .int .i64, .int .i64, .int .i64, .int .i64, .str]] xs ∧ Go.T.ArgR W (.agg xs) (.agg a0) ∧ Go.T.TV.letss xs ≤ 1048576 := by
    obtain ⟨xs, k1, k2, k3⟩ := Go.T.arg_open_aggM msr (n := 9) (ss := [.int .i64, .int .i64, .int .i64, .int .i64, .sl true [.int .i64, .int .i64, .int .i64, .int .i64, .int .i64, .str]]) (by kernel_rfl) h0
    exact ⟨xs, k1, k2, by omega⟩
  obtain ⟨a1, rfl, _⟩ := okWide_struct Try.underlying24 (hval 1 24 v1 rfl rfl)
  have k1 := h1
  have lt1 : ∀ x ∈ p1, x.block < W.heap.size := by obtain ⟨m, hm⟩ := k1; exact DataW.trod_lt m _ _ _ hm
  have g1 : ∃ xs, Go.T.Sh.fitss [.int .i64, .int .i64, .int .i64, .int .i64, .sl true [.int .i64, .int .i64, .int .i64, .int .i64, .int .i64, .str]] xs ∧ Go.T.ArgR W (.agg xs) (.agg a1) ∧ Go.T.TV.letss xs ≤ 1048576 := by
    obtain ⟨xs, k1, k2, k3⟩ := Go.T.arg_open_aggM msr (n := 9) (ss := [.int .i64, .int .i64, .int .i64, .int .i64, .sl true [.int .i64, .int .i64, .int .i64, .int .i64, .int .i64, .str]]) (by kernel_rfl) h1
    exact ⟨xs, k1, k2, by omega⟩
  obtain ⟨a2, len2, cap2, rfl⟩ := okWide_slice Try.underlying74 (hval 2 74 v2 rfl rfl)
  have k2 := h2
  have lt2 : ∀ x ∈ p2, x.block < W.heap.size := by obtain ⟨m, hm⟩ := k2; exact DataW.trod_lt m _ _ _ hm
  have g2 : ∃ x, (.sl false [.int .u8] : Go.T.Sh).fits x ∧ Go.T.ArgR W x (.slice a2 len2 cap2) ∧ x.lets ≤ 1048576 := by
    obtain ⟨x, k1, k2, k3⟩ := Go.T.arg_openM msr (n := 9) (by kernel_rfl) rfl h2
    exact ⟨x, k1, k2, by omega⟩
  clear hA0 hval0
  refine (walk W _ g0 _ g1 _ g2).mono fun e W' ⟨he, bel⟩ => ?_
  subst he
  exact ⟨_, rfl, _, _, _, [], _, [], hW', trodAll_mk1 (shut_bool Try.underlying4 _), (trodAll_cons_mk (Below.trod laidOut (by kernel_rfl) (of_decide_eq_true (by kernel_rfl)) k0 bel lt0) (trodAll_cons_mk (Below.trod laidOut (by kernel_rfl) (of_decide_eq_true (by kernel_rfl)) k1 bel lt1) (trodAll_cons_mk (Below.trod laidOut (by kernel_rfl) (of_decide_eq_true (by kernel_rfl)) k2 bel lt2) trodAll_mk0))), rfl, bel.frame _, fun h => by cases h⟩
theorem proved : Rows.LedgerCodesUptoSaid :=
  OpenClaim.holds_of_cond 9 Try.f9 rfl rfl rfl rfl rfl rfl rfl ⟨rfl, rfl, rfl, rfl, rfl⟩ rfl rfl rfl rfl rfl (by kernel_rfl) Try.func9 (by kernel_rfl)
    (of_decide_eq_true (by kernel_rfl)) (by unfold Func.isWrapper; first | (rw [if_pos (by decide +kernel)]; kernel_rfl) | (rw [if_neg (by decide +kernel)]; exact ⟨rfl, rfl⟩))
    (fun os started H enc _ F => lifted os started H enc F)
#print axioms proved
end Go.Proofs.Ytmmmogcbmfmabaa.ledgerCodes
namespace Go.Proofs.Ytmmmogcbmfmabaa
/-- The row, under a short name, for the claim. -/
theorem ledgerCodes_holds : Rows.LedgerCodesUptoSaid := ledgerCodes.proved
end Go.Proofs.Ytmmmogcbmfmabaa
