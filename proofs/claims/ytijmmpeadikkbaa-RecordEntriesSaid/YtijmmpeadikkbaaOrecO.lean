/- Entries, as arguments. -/
import Derived.Test.YtijmmpeadikkbaaOrec1
import Derived.Test.YtijmmpeadikkbaaOM8
set_option linter.unusedVariables false
set_option linter.unusedSimpArgs false
set_option maxRecDepth 10000
namespace Go.T
theorem En.fits {xs : List TV} (h : Sh.fitss [.int .i64, .int .i64, .int .i64, .sl false [.int .u8]] xs) : ∃ e : En, e.ok ∧ TV.agg xs = e.tv := by
  obtain ⟨x0, xs, rfl, h0, h⟩ := Sh.fitss_cons h
  obtain ⟨x1, xs, rfl, h1, h⟩ := Sh.fitss_cons h
  obtain ⟨x2, xs, rfl, h2, h⟩ := Sh.fitss_cons h
  obtain ⟨x3, xs, rfl, h3, h⟩ := Sh.fitss_cons h
  obtain rfl := Sh.fitss_nil h
  obtain ⟨b, hb, rfl⟩ := Sh.bytes h3
  simp only [Sh.fits] at h0 h1 h2
  obtain ⟨n0, w0, rfl⟩ := h0
  obtain ⟨n1, w1, rfl⟩ := h1
  obtain ⟨n2, w2, rfl⟩ := h2
  refine ⟨⟨n0, n1, n2, b.map fun c => (c.toNat : Int)⟩, ⟨i64_wf w0, i64_wf w1, i64_wf w2, bl_by b, by simpa using hb⟩, ?_⟩
  rw [En.tv_eq, bl_of]
end Go.T
