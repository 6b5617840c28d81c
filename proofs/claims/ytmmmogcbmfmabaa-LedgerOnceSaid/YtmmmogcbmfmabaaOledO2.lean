/- Calls, as arguments. -/
import Derived.Test.YtmmmogcbmfmabaaOled15
import Derived.Test.YtmmmogcbmfmabaaOledO
set_option linter.unusedVariables false
set_option linter.unusedSimpArgs false
set_option maxRecDepth 10000
namespace Go.T
structure Dd.ok (d : Dd) : Prop where
  op : I64 d.op
  id : I64 d.id
  n : I64 d.n
  h : d.h.ok
theorem Dd.fits {xs : List TV} (h : Sh.fitss [.int .i64, .int .i64, .int .i64, .int .i64, .int .i64, .int .i64, .int .i64, .int .i64, .str] xs) : ∃ d : Dd, d.ok ∧ TV.agg xs = d.tv := by
  obtain ⟨x0, xs, rfl, h0, h⟩ := Sh.fitss_cons h
  obtain ⟨x1, xs, rfl, h1, h⟩ := Sh.fitss_cons h
  obtain ⟨x2, xs, rfl, h2, h⟩ := Sh.fitss_cons h
  obtain ⟨hh, k1, k2⟩ := Hd.fits h
  simp only [Sh.fits] at h0 h1 h2
  obtain ⟨n0, w0, rfl⟩ := h0
  obtain ⟨n1, w1, rfl⟩ := h1
  obtain ⟨n2, w2, rfl⟩ := h2
  rw [Hd.tv_eq] at k2
  cases k2
  exact ⟨⟨n0, n1, n2, hh⟩, ⟨i64_wf w0, i64_wf w1, i64_wf w2, k1⟩, rfl⟩
theorem Dd.fits_sl {x : TV} (h : (Sh.sl true [.int .i64, .int .i64, .int .i64, .int .i64, .int .i64, .int .i64, .int .i64, .int .i64, .str]).fits x) : ∃ l : List Dd, l.length ≤ 9223372036854775807 ∧ (∀ d ∈ l, d.ok) ∧ x = .sl .shr (l.map Dd.tv) := by
  simp only [Sh.fits] at h
  obtain ⟨L, h1, rfl, h2⟩ := h
  have h3 : ∀ e ∈ L, ∃ d : Dd, d.ok ∧ e = d.tv := by
    intro e he
    obtain ⟨cs, k1, _, k2⟩ := h2 e he
    simp only [if_true] at k2
    obtain ⟨h, k3, k4⟩ := Dd.fits k1
    exact ⟨h, k3, by rw [k2, k4]⟩
  have h4 : ∀ L : List TV, (∀ e ∈ L, ∃ d : Dd, d.ok ∧ e = d.tv) → ∃ l : List Dd, (∀ d ∈ l, d.ok) ∧ L = l.map Dd.tv := by
    intro L
    induction L with
    | nil => intro _; exact ⟨[], by simp, rfl⟩
    | cons e L ih =>
      intro h
      obtain ⟨a, k1, rfl⟩ := h e (by simp)
      obtain ⟨l, k2, rfl⟩ := ih fun e he => h e (by simp [he])
      refine ⟨a :: l, ?_, rfl⟩
      intro x hx
      rcases List.mem_cons.1 hx with rfl | hx
      · exact k1
      · exact k2 x hx
  obtain ⟨l, k1, rfl⟩ := h4 L h3
  exact ⟨l, by simpa using h1, k1, rfl⟩
end Go.T
