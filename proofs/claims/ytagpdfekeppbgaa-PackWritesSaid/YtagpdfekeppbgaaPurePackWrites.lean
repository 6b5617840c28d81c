/- Numbers, texts and flags stand behind any bytes as the document says, and these stay, for every bytes, number, text and flag. No condition. -/
import Derived.Test.YtagpdfekeppbgaaOPackWritesx
import Derived.Test.YtagpdfekeppbgaaOPkPP
import Derived.Test.YtagpdfekeppbgaaWSized
namespace Go.Proofs.Ytagpdfekeppbgaa.Pure
open Go.RowKit Go.Proofs.Ytagpdfekeppbgaa.X Go.Proofs.YtagpdfekeppbgaaW.PrintWords Go.Proofs.YtagpdfekeppbgaaW.PrintLast Go.Proofs.YtagpdfekeppbgaaW.PrintMore
set_option linter.unusedSimpArgs false
set_option linter.unusedVariables false

/-- The row's word for a slice's weight, under the name that the printed row asks for. -/
theorem _root_.Go.Proofs.Ytagpdfekeppbgaa.PrintWords.sized_ints {H : Type} {enc : TypeId × Value → H} {P : Program} {W : World} {base : Nat} {spare : Nat → Bool} {held : Bool} {t e : TypeId} {k : IntKind} {a : Option Addr} {len cap : Nat} {d : DataW H} {ps : List MemPlace} {ts : List TypeId} {ds : List (DataW H)} {j : Nat}
    (hsz : (DataW.weightsEach P ts ds).all (· ≤ reachBytes) = true) (ht : ts[j]? = some t) (hd : ds[j]? = some d) (hu : P.underlying t = some (.slice e)) (he : P.underlying e = some (.int k)) (hc : P.cellsOf e = 1) {B : Nat} (hB : P.bytesOf e = B)
    (h : DataW.Trod enc P W base spare held t (.slice a len cap) d ps) : len * B ≤ 140737488351232 :=
  Go.Proofs.YtagpdfekeppbgaaW.PrintWords.sized_ints hsz ht hd hu he hc hB h
theorem PackWrites : baileylaw02_PackWrites.Pure := by
  intro l n s y hm hw hb hn hs
  have hn' : -9223372036854775808 ≤ n ∧ n ≤ 9223372036854775807 := by
    simpa [Lit.wf, IntKind.min, IntKind.max, IntKind.signed, IntKind.bits] using hn
  have aw : baileylaw02_awake.f = some true := rfl
  obtain ⟨m, hmm⟩ : ∃ m : Nat, m = 10000 := ⟨_, rfl⟩
  refine ⟨m + 1 + 1, ?_⟩
  unfold baileylaw02_PackWrites.f
  by_cases h1 : (l.length : Int) > 2000
  · rw [if_pos h1]; rw [baileylaw02_PackWrites.j0]; rw [if_pos rfl, aw, pbnd]
  · rw [if_neg h1]; rw [baileylaw02_PackWrites.j0]
    by_cases h2 : (s.size : Int) > 2000
    · rw [decide_eq_true h2, if_pos rfl, aw, pbnd]
    · rw [decide_eq_false h2, if_neg (by simp)]
      have z1 := numB_len n
      have z2 := numB_len (s.size : Int)
      have z3 : (bytesOf s).length = s.size := bytesOf_length s
      unfold Clone.f
      rw [if_pos (by omega), pbnd, pack_num l n _ (by omega) hn'.1 hn'.2 (by omega), pbnd, ref_Num l n _ (by omega) hn'.1 hn'.2 (by omega), pbnd,
        eq_same _ (by simp; omega) _ (by simp; omega), pbnd, if_pos rfl, pack_text l s _ (by omega) (by omega) (by omega), pbnd, ref_text l s _ (by omega) (by omega) (by omega), pbnd,
        eq_same _ (by simp; omega) _ (by simp; omega), pbnd, if_pos rfl, pack_yes l y _ (by omega) (by omega), pbnd, ref_yes l y (by omega), pbnd,
        eq_same _ (by simp; omega) _ (by simp; omega), pbnd]
      rw [baileylaw02_PackWrites.j1]
      rw [if_pos rfl, pack_size n _ hn'.1 hn'.2 (by omega), pbnd, ref_size n _ hn'.1 hn'.2 (by omega), pbnd, if_pos rfl, eq_same l (by omega) _ (by omega), pbnd, if_pos rfl, aw, pbnd]

end Go.Proofs.Ytagpdfekeppbgaa.Pure
