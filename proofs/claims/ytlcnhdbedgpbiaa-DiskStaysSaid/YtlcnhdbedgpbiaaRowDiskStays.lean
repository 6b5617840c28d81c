/- Behind a crash what was sure is there, and of the rest a beginning, for every slot, bytes and keeps. No condition. -/
import Derived.Test.YtlcnhdbedgpbiaaRows
import Derived.Test.YtlcnhdbedgpbiaaOstays
import Derived.Test.YtlcnhdbedgpbiaaOTOpen
import Derived.WalkKit
import Derived.ProofKit
import Derived.OpenShut
import Derived.ShutString
import Derived.ChangeOld
import Derived.Below
import Derived.SizedLaws
set_option linter.unusedVariables false
set_option maxRecDepth 100000
namespace Go.Proofs.Ytlcnhdbedgpbiaa.diskStays
open Go.ChangeShapes Go.WideShapes Go.ChangeAt Go.RowKit
open Go.ChangeMaps (open_string shut_string)
theorem own : ownKnob Try.prog.godebug = none := by kernel_rfl
theorem laidOut : laidOutB Try.prog = true := by kernel_rfl
open Go.T in
theorem walk (W : World) (a0 : Int) (w0 : (Lit.int .u8 a0).wf = true) (v1 : Value) (h1 : ∃ x, (.sl false [.int .u8] : Sh).fits x ∧ ArgR W x v1) (v2 : Value) (h2 : ∃ x, (.sl false [.int .u8] : Sh).fits x ∧ ArgR W x v2) (v3 : Value) (h3 : ∃ x, (.sl false [.int .i64] : Sh).fits x ∧ ArgR W x v3) :
    Calls Try.prog 4 #[.int .u8 a0, v1, v2, v3] W (fun e W' => e = .returned (.bool true) ∧ Below W.heap.size W W') := by
  obtain ⟨x1, f1, g1⟩ := h1
  obtain ⟨x2, f2, g2⟩ := h2
  obtain ⟨x3, f3, g3⟩ := h3
  obtain ⟨b1, _, rfl⟩ := Sh.bytes f1
  obtain ⟨b2, _, rfl⟩ := Sh.bytes f2
  obtain ⟨ks, _, rfl⟩ := Sh.nums f3
  simp only [Lit.wf, Bool.and_eq_true, decide_eq_true_eq] at w0
  exact glue4 (callT_sound tabOk ext_ord ext_snd) (stays a0 b1 b2 ks w0) (ArgR.int W _ _) g1 g2 g3

theorem lifted (os : Os) (started : os.Started) (H : Type) (enc : TypeId × Value → H) :
    ReturnsInHanded {} Try.checked os 4 .any (Rows.diskStaysSpec.pre6 enc Try.prog Try.f4 Rows.diskStaysRow.domain false) (Rows.diskStaysSpec.post enc Try.prog Try.f4 false true false false) := by
  refine returnsInHanded_of_change_sized (C := Try.checked) own started (by kernel_rfl) Try.func4
    (ChangeSpec.witness6 (enc := enc) (C := Try.checked) false ⟨#[], #[.int .u8 0, .slice none 0 0, .slice none 0 0, .slice none 0 0], []⟩ 8 (by kernel_rfl) (by kernel_rfl) (by kernel_rfl) (by kernel_rfl)) ?_
  intro W base args ds gs before hval0 hW hcnd hsz0 _
  have hval : ∀ (j : Nat) t v, Try.f4.params[j]? = some t → args[j]? = some v → Value.okWide Try.prog W .any base t v := hval0
  have hW' := hW
  obtain ⟨p, q, hA0, hV, rfl, hfz, hnd⟩ := hW
  have hA : DataW.TrodAll enc Try.prog W 0 (fun _ => true) true Try.f4.params.toList args.toList ds p := hA0
  rw [Try.params4] at hA hval
  obtain ⟨v0, vs0, d0, ds0, p0, q0, hargs, rfl, rfl, h0, r0⟩ := trodAll_cons hA
  obtain ⟨v1, vs1, d1, ds1, p1, q1, rfl, rfl, rfl, h1, r1⟩ := trodAll_cons r0
  obtain ⟨v2, vs2, d2, ds2, p2, q2, rfl, rfl, rfl, h2, r2⟩ := trodAll_cons r1
  obtain ⟨v3, vs3, d3, ds3, p3, q3, rfl, rfl, rfl, h3, r3⟩ := trodAll_cons r2
  obtain ⟨rfl, rfl, rfl⟩ := trodAll_nil r3
  obtain rfl : args = #[v0, v1, v2, v3] := by cases args; simp_all
  obtain ⟨rfl, rfl⟩ := trodVars_none hV
  obtain ⟨a0, rfl, rfl, rfl, w0⟩ := open_int Try.underlying5 (hval 0 5 v0 rfl rfl) h0
  obtain ⟨a1, len1, cap1, rfl⟩ := okWide_slice Try.underlying23 (hval 1 23 v1 rfl rfl)
  have k1 := h1
  have lt1 : ∀ x ∈ p1, x.block < W.heap.size := by obtain ⟨m, hm⟩ := k1; exact DataW.trod_lt m _ _ _ hm
  have g1 : ∃ x, (.sl false [.int .u8] : Go.T.Sh).fits x ∧ Go.T.ArgR W x (.slice a1 len1 cap1) := Go.T.arg_open (n := 9) (by kernel_rfl) rfl h1
  obtain ⟨a2, len2, cap2, rfl⟩ := okWide_slice Try.underlying23 (hval 2 23 v2 rfl rfl)
  have k2 := h2
  have lt2 : ∀ x ∈ p2, x.block < W.heap.size := by obtain ⟨m, hm⟩ := k2; exact DataW.trod_lt m _ _ _ hm
  have g2 : ∃ x, (.sl false [.int .u8] : Go.T.Sh).fits x ∧ Go.T.ArgR W x (.slice a2 len2 cap2) := Go.T.arg_open (n := 9) (by kernel_rfl) rfl h2
  obtain ⟨a3, len3, cap3, rfl⟩ := okWide_slice Try.underlying29 (hval 3 29 v3 rfl rfl)
  have k3 := h3
  have lt3 : ∀ x ∈ p3, x.block < W.heap.size := by obtain ⟨m, hm⟩ := k3; exact DataW.trod_lt m _ _ _ hm
  have g3 : ∃ x, (.sl false [.int .i64] : Go.T.Sh).fits x ∧ Go.T.ArgR W x (.slice a3 len3 cap3) := Go.T.arg_open (n := 9) (by kernel_rfl) rfl h3
  clear hA0 hval0 hsz0
  refine (walk W a0 w0 _ g1 _ g2 _ g3).mono fun e W' ⟨he, bel⟩ => ?_
  subst he
  exact ⟨_, rfl, _, _, _, [], _, [], hW', trodAll_mk1 (shut_bool Try.underlying4 _), (trodAll_cons_mk (shut_int Try.underlying5 w0) (trodAll_cons_mk (Below.trod laidOut (by kernel_rfl) (of_decide_eq_true (by kernel_rfl)) k1 bel lt1) (trodAll_cons_mk (Below.trod laidOut (by kernel_rfl) (of_decide_eq_true (by kernel_rfl)) k2 bel lt2) (trodAll_cons_mk (Below.trod laidOut (by kernel_rfl) (of_decide_eq_true (by kernel_rfl)) k3 bel lt3) trodAll_mk0)))), rfl, bel.frame _, fun h => by cases h⟩
theorem over : Rows.diskStaysRow.holds Try.pinned (OpenSpec.ofChange Rows.diskStaysSpec) :=
  OpenClaim.holds_of_wide 4 Try.f4 rfl rfl rfl rfl rfl rfl rfl ⟨rfl, rfl, rfl, rfl, rfl⟩ rfl rfl rfl rfl rfl (by kernel_rfl) Try.func4 (by kernel_rfl)
    (of_decide_eq_true (by kernel_rfl)) (by unfold Func.isWrapper; first | (rw [if_pos (by decide +kernel)]; kernel_rfl) | (rw [if_neg (by decide +kernel)]; exact ⟨rfl, rfl⟩))
    (fun os started H enc _ => lifted os started H enc)
theorem proved : Rows.DiskStaysSaid := over
#print axioms proved
end Go.Proofs.Ytlcnhdbedgpbiaa.diskStays
namespace Go.Proofs.Ytlcnhdbedgpbiaa
/-- The row, under a short name, for the claim. -/
theorem diskStays_holds : Rows.DiskStaysSaid := diskStays.proved
end Go.Proofs.Ytlcnhdbedgpbiaa
