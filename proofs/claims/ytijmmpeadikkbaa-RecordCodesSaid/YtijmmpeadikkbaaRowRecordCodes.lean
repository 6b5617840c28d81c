/- Any record has the bytes of the document, and any bytes are the record that it says, for every two records and bytes. No condition. -/
import Derived.Test.YtijmmpeadikkbaaRows
import Derived.Test.YtijmmpeadikkbaaOrec11
import Derived.Test.YtijmmpeadikkbaaOrcO
import Derived.WalkKit
import Derived.ProofKit
import Derived.OpenShut
import Derived.ShutString
import Derived.ChangeOld
import Derived.Below
import Derived.SizedLaws
set_option linter.unusedVariables false
set_option maxRecDepth 100000
namespace Go.Proofs.Ytijmmpeadikkbaa.recordCodes
open Go.ChangeShapes Go.WideShapes Go.ChangeAt Go.RowKit
open Go.ChangeMaps (open_string shut_string)
theorem own : ownKnob Try.prog.godebug = none := by kernel_rfl
theorem laidOut : laidOutB Try.prog = true := by kernel_rfl
open Go.T in
theorem walk (W : World) (v0 : Value) (h0 : ∃ xs, Sh.fitss [.int .i64, .int .i64, .int .i64, .int .i64, .int .i64, .int .i64, .sl false [.int .u8], .int .i64, .int .i64, .sl false [.int .u8]] xs ∧ ArgR W (.agg xs) v0) (v1 : Value) (h1 : ∃ xs, Sh.fitss [.int .i64, .int .i64, .int .i64, .int .i64, .int .i64, .int .i64, .sl false [.int .u8], .int .i64, .int .i64, .sl false [.int .u8]] xs ∧ ArgR W (.agg xs) v1) (v2 : Value) (h2 : ∃ x, (.sl false [.int .u8] : Sh).fits x ∧ ArgR W x v2) :
    Calls Try.prog 8 #[v0, v1, v2] W (fun e W' => e = .returned (.bool true) ∧ Below W.heap.size W W') := by
  obtain ⟨x0, f0, g0⟩ := h0
  obtain ⟨x1, f1, g1⟩ := h1
  obtain ⟨x2, f2, g2⟩ := h2
  obtain ⟨r, hr, e0⟩ := Rc.fits f0
  obtain ⟨s, hs, e1⟩ := Rc.fits f1
  obtain ⟨b, hb, e2⟩ := Sh.bytes f2
  rw [e0] at g0
  rw [e1] at g1
  rw [e2, bl_of] at g2
  exact glue3 (callT_sound tabOk ext_ord ext_snd) (codes11 r s hr hs _ (bl_by b)) g0 g1 g2

theorem lifted (os : Os) (started : os.Started) (H : Type) (enc : TypeId × Value → H) :
    ReturnsInHanded {} Try.checked os 8 .any (Rows.recordCodesSpec.pre6 enc Try.prog Try.f8 Rows.recordCodesRow.domain false) (Rows.recordCodesSpec.post enc Try.prog Try.f8 false true false false) := by
  refine returnsInHanded_of_change_sized (C := Try.checked) own started (by kernel_rfl) Try.func8
    (ChangeSpec.witness6 (enc := enc) (C := Try.checked) false ⟨#[], #[.agg #[.int .i64 0, .int .i64 0, .int .i64 0, .int .i64 0, .int .i64 0, .int .i64 0, .slice none 0 0, .int .i64 0, .int .i64 0, .slice none 0 0], .agg #[.int .i64 0, .int .i64 0, .int .i64 0, .int .i64 0, .int .i64 0, .int .i64 0, .slice none 0 0, .int .i64 0, .int .i64 0, .slice none 0 0], .slice none 0 0], []⟩ 8 (by kernel_rfl) (by kernel_rfl) (by kernel_rfl) (by kernel_rfl)) ?_
  intro W base args ds gs before hval0 hW hcnd hsz0 _
  have hval : ∀ (j : Nat) t v, Try.f8.params[j]? = some t → args[j]? = some v → Value.okWide Try.prog W .any base t v := hval0
  have hW' := hW
  obtain ⟨p, q, hA0, hV, rfl, hfz, hnd⟩ := hW
  have hA : DataW.TrodAll enc Try.prog W 0 (fun _ => true) true Try.f8.params.toList args.toList ds p := hA0
  rw [Try.params8] at hA hval
  obtain ⟨v0, vs0, d0, ds0, p0, q0, hargs, rfl, rfl, h0, r0⟩ := trodAll_cons hA
  obtain ⟨v1, vs1, d1, ds1, p1, q1, rfl, rfl, rfl, h1, r1⟩ := trodAll_cons r0
  obtain ⟨v2, vs2, d2, ds2, p2, q2, rfl, rfl, rfl, h2, r2⟩ := trodAll_cons r1
  obtain ⟨rfl, rfl, rfl⟩ := trodAll_nil r2
  obtain rfl : args = #[v0, v1, v2] := by cases args; simp_all
  obtain ⟨rfl, rfl⟩ := trodVars_none hV
  obtain ⟨a0, rfl, _⟩ := okWide_struct Try.underlying30 (hval 0 30 v0 rfl rfl)
  have k0 := h0
  have lt0 : ∀ x ∈ p0, x.block < W.heap.size := by obtain ⟨m, hm⟩ := k0; exact DataW.trod_lt m _ _ _ hm
  have g0 := Go.T.arg_open_agg (n := 9) (ss := [.int .i64, .int .i64, .int .i64, .int .i64, .int .i64, .int .i64, .sl false [.int .u8], .int .i64, .int .i64, .sl false [.int .u8]]) (by kernel_rfl) h0
  obtain ⟨a1, rfl, _⟩ := okWide_struct Try.underlying30 (hval 1 30 v1 rfl rfl)
  have k1 := h1
  have lt1 : ∀ x ∈ p1, x.block < W.heap.size := by obtain ⟨m, hm⟩ := k1; exact DataW.trod_lt m _ _ _ hm
  have g1 := Go.T.arg_open_agg (n := 9) (ss := [.int .i64, .int .i64, .int .i64, .int .i64, .int .i64, .int .i64, .sl false [.int .u8], .int .i64, .int .i64, .sl false [.int .u8]]) (by kernel_rfl) h1
  obtain ⟨a2, len2, cap2, rfl⟩ := okWide_slice Try.underlying23 (hval 2 23 v2 rfl rfl)
  have k2 := h2
  have lt2 : ∀ x ∈ p2, x.block < W.heap.size := by obtain ⟨m, hm⟩ := k2; exact DataW.trod_lt m _ _ _ hm
  have g2 : ∃ x, (.sl false [.int .u8] : Go.T.Sh).fits x ∧ Go.T.ArgR W x (.slice a2 len2 cap2) := Go.T.arg_open (n := 9) (by kernel_rfl) rfl h2
  clear hA0 hval0 hsz0
  refine (walk W _ g0 _ g1 _ g2).mono fun e W' ⟨he, bel⟩ => ?_
  subst he
  exact ⟨_, rfl, _, _, _, [], _, [], hW', trodAll_mk1 (shut_bool Try.underlying4 _), (trodAll_cons_mk (Below.trod laidOut (by kernel_rfl) (of_decide_eq_true (by kernel_rfl)) k0 bel lt0) (trodAll_cons_mk (Below.trod laidOut (by kernel_rfl) (of_decide_eq_true (by kernel_rfl)) k1 bel lt1) (trodAll_cons_mk (Below.trod laidOut (by kernel_rfl) (of_decide_eq_true (by kernel_rfl)) k2 bel lt2) trodAll_mk0))), rfl, bel.frame _, fun h => by cases h⟩
theorem over : Rows.recordCodesRow.holds Try.pinned (OpenSpec.ofChange Rows.recordCodesSpec) :=
  OpenClaim.holds_of_wide 8 Try.f8 rfl rfl rfl rfl rfl rfl rfl ⟨rfl, rfl, rfl, rfl, rfl⟩ rfl rfl rfl rfl rfl (by kernel_rfl) Try.func8 (by kernel_rfl)
    (of_decide_eq_true (by kernel_rfl)) (by unfold Func.isWrapper; first | (rw [if_pos (by decide +kernel)]; kernel_rfl) | (rw [if_neg (by decide +kernel)]; exact ⟨rfl, rfl⟩))
    (fun os started H enc _ => lifted os started H enc)
theorem proved : Rows.RecordCodesSaid := over
#print axioms proved
end Go.Proofs.Ytijmmpeadikkbaa.recordCodes
namespace Go.Proofs.Ytijmmpeadikkbaa
/-- The row, under a short name, for the claim. -/
theorem recordCodes_holds : Rows.RecordCodesSaid := recordCodes.proved
end Go.Proofs.Ytijmmpeadikkbaa
