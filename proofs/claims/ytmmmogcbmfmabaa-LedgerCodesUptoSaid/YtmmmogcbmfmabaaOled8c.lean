/- Ledgers that may be. -/
import Derived.Test.YtmmmogcbmfmabaaOled8b
set_option linter.unusedVariables false
set_option linter.unusedSimpArgs false
set_option maxRecDepth 10000
set_option maxHeartbeats 1000000
namespace Go.T
/-- A ledger that may be. -/
structure Good (l : Lg) : Prop where
  q : 0 ≤ l.q ∧ l.q ≤ 1099511627776
  u : 0 ≤ l.u ∧ l.u ≤ 1099511627776
  he : 0 ≤ l.he ∧ l.he ≤ 1099511627776
  nx : 1 ≤ l.nx ∧ l.nx ≤ 2147483648
  len : l.hs.length ≤ 8
  ord : ordB l.nx 0 l.hs = true
  all : l.hs.all holdB = true
  sum : sumN l.hs = l.he
  fit : l.u + l.he ≤ l.q
theorem good_iff (l : Lg) : checkB l = true ↔ Good l := by
  unfold checkB
  simp only [Bool.and_eq_true, within_iff, decide_eq_true_eq, beq_iff_eq]
  constructor
  · rintro ⟨h1, h2, h3, h4, h5, h6, h7, h8, h9, h10⟩
    rw [fit2 h2 h3, decide_eq_true_eq] at h10
    exact ⟨h1, h2, h3, h4, by omega, h6, h7, h9, h10⟩
  · rintro ⟨h1, h2, h3, h4, h5, h6, h7, h8, h9⟩
    refine ⟨h1, h2, h3, h4, by omega, h6, h7, totB_ok h7 h5 0 (by omega) (by omega), h8, ?_⟩
    rw [fit2 h2 h3, decide_eq_true_eq]; exact h9
end Go.T
