/- A ledger and a hold, as arguments. -/
import Derived.Test.YtmmmogcbmfmabaaOled2
import Derived.Test.YtmmmogcbmfmabaaOM8
set_option linter.unusedVariables false
set_option linter.unusedSimpArgs false
set_option maxRecDepth 10000
namespace Go.T
abbrev shHd : List Sh := [.int .i64, .int .i64, .int .i64, .int .i64, .int .i64, .str]
theorem Hd.fits {xs : List TV} (h : Sh.fitss [.int .i64, .int .i64, .int .i64, .int .i64, .int .i64, .str] xs) : ∃ h : Hd, h.ok ∧ TV.agg xs = h.tv := by
  obtain ⟨x0, xs, rfl, h0, h⟩ := Sh.fitss_cons h
  obtain ⟨x1, xs, rfl, h1, h⟩ := Sh.fitss_cons h
  obtain ⟨x2, xs, rfl, h2, h⟩ := Sh.fitss_cons h
  obtain ⟨x3, xs, rfl, h3, h⟩ := Sh.fitss_cons h
  obtain ⟨x4, xs, rfl, h4, h⟩ := Sh.fitss_cons h
  obtain ⟨x5, xs, rfl, h5, h⟩ := Sh.fitss_cons h
  obtain rfl := Sh.fitss_nil h
  simp only [Sh.fits] at h0 h1 h2 h3 h4 h5
  obtain ⟨n0, w0, rfl⟩ := h0
  obtain ⟨n1, w1, rfl⟩ := h1
  obtain ⟨n2, w2, rfl⟩ := h2
  obtain ⟨n3, w3, rfl⟩ := h3
  obtain ⟨n4, w4, rfl⟩ := h4
  obtain ⟨s, _, rfl⟩ := h5
  exact ⟨⟨n0, n1, n2, n3, n4, s⟩, ⟨i64_wf w0, i64_wf w1, i64_wf w2, i64_wf w3, i64_wf w4⟩, rfl⟩
theorem Hd.fits_sl {x : TV} (h : (Sh.sl true [.int .i64, .int .i64, .int .i64, .int .i64, .int .i64, .str]).fits x) : ∃ l : List Hd, l.length ≤ 9223372036854775807 ∧ (∀ h ∈ l, h.ok) ∧ x = .sl .shr (l.map Hd.tv) := by
  simp only [Sh.fits] at h
  obtain ⟨L, h1, rfl, h2⟩ := h
  have h3 : ∀ e ∈ L, ∃ h : Hd, h.ok ∧ e = h.tv := by
    intro e he
    obtain ⟨cs, k1, _, k2⟩ := h2 e he
    simp only [if_true] at k2
    obtain ⟨h, k3, k4⟩ := Hd.fits k1
    exact ⟨h, k3, by rw [k2, k4]⟩
  have h4 : ∀ L : List TV, (∀ e ∈ L, ∃ h : Hd, h.ok ∧ e = h.tv) → ∃ l : List Hd, (∀ h ∈ l, h.ok) ∧ L = l.map Hd.tv := by
    intro L
    induction L with
    | nil => intro _; exact ⟨[], by simp, rfl⟩
    | cons e L ih =>
      intro h
      obtain ⟨a, k1, rfl⟩ := h e (by simp)
      obtain ⟨l, k2, rfl⟩ := ih fun e he => h e (by simp [he])
      refine ⟨a :: l, ?_, rfl⟩
      intro x hx
      rcases List.mem_cons.1 hx with rfl | hx
      · exact k1
      · exact k2 x hx
  obtain ⟨l, k1, rfl⟩ := h4 L h3
  exact ⟨l, by simpa using h1, k1, rfl⟩
theorem Lg.fits {xs : List TV} (h : Sh.fitss [.int .i64, .int .i64, .int .i64, .int .i64, .sl true [.int .i64, .int .i64, .int .i64, .int .i64, .int .i64, .str]] xs) : ∃ l : Lg, l.ok ∧ TV.agg xs = l.tv := by
  obtain ⟨x0, xs, rfl, h0, h⟩ := Sh.fitss_cons h
  obtain ⟨x1, xs, rfl, h1, h⟩ := Sh.fitss_cons h
  obtain ⟨x2, xs, rfl, h2, h⟩ := Sh.fitss_cons h
  obtain ⟨x3, xs, rfl, h3, h⟩ := Sh.fitss_cons h
  obtain ⟨x4, xs, rfl, h4, h⟩ := Sh.fitss_cons h
  obtain rfl := Sh.fitss_nil h
  obtain ⟨l, k1, k2, rfl⟩ := Hd.fits_sl h4
  simp only [Sh.fits] at h0 h1 h2 h3
  obtain ⟨n0, w0, rfl⟩ := h0
  obtain ⟨n1, w1, rfl⟩ := h1
  obtain ⟨n2, w2, rfl⟩ := h2
  obtain ⟨n3, w3, rfl⟩ := h3
  exact ⟨⟨n0, n1, n2, n3, l⟩, ⟨i64_wf w0, i64_wf w1, i64_wf w2, i64_wf w3, k2, k1⟩, rfl⟩
end Go.T
