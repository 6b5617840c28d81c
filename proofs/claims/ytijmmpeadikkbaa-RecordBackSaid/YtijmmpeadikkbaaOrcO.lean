/- Records, as arguments. -/
import Derived.Test.YtijmmpeadikkbaaOrec5
import Derived.Test.YtijmmpeadikkbaaOM8
set_option linter.unusedVariables false
set_option linter.unusedSimpArgs false
set_option maxRecDepth 10000
namespace Go.T
theorem Rc.fits {xs : List TV} (h : Sh.fitss [.int .i64, .int .i64, .int .i64, .int .i64, .int .i64, .int .i64, .sl false [.int .u8], .int .i64, .int .i64, .sl false [.int .u8]] xs) : ∃ r : Rc, r.ok ∧ TV.agg xs = r.tv := by
  obtain ⟨x0, xs, rfl, h0, h⟩ := Sh.fitss_cons h
  obtain ⟨x1, xs, rfl, h1, h⟩ := Sh.fitss_cons h
  obtain ⟨x2, xs, rfl, h2, h⟩ := Sh.fitss_cons h
  obtain ⟨x3, xs, rfl, h3, h⟩ := Sh.fitss_cons h
  obtain ⟨x4, xs, rfl, h4, h⟩ := Sh.fitss_cons h
  obtain ⟨x5, xs, rfl, h5, h⟩ := Sh.fitss_cons h
  obtain ⟨x6, xs, rfl, h6, h⟩ := Sh.fitss_cons h
  obtain ⟨x7, xs, rfl, h7, h⟩ := Sh.fitss_cons h
  obtain ⟨x8, xs, rfl, h8, h⟩ := Sh.fitss_cons h
  obtain ⟨x9, xs, rfl, h9, h⟩ := Sh.fitss_cons h
  obtain rfl := Sh.fitss_nil h
  obtain ⟨b, hb, rfl⟩ := Sh.bytes h6
  obtain ⟨c, hc, rfl⟩ := Sh.bytes h9
  simp only [Sh.fits] at h0 h1 h2 h3 h4 h5 h7 h8
  obtain ⟨n0, w0, rfl⟩ := h0
  obtain ⟨n1, w1, rfl⟩ := h1
  obtain ⟨n2, w2, rfl⟩ := h2
  obtain ⟨n3, w3, rfl⟩ := h3
  obtain ⟨n4, w4, rfl⟩ := h4
  obtain ⟨n5, w5, rfl⟩ := h5
  obtain ⟨n7, w7, rfl⟩ := h7
  obtain ⟨n8, w8, rfl⟩ := h8
  refine ⟨⟨n0, n1, n2, ⟨n3, n4, n5, b.map fun c => (c.toNat : Int)⟩, n7, n8, c.map fun c => (c.toNat : Int)⟩, ⟨i64_wf w0, i64_wf w1, i64_wf w2, ⟨i64_wf w3, i64_wf w4, i64_wf w5, bl_by b, by simpa using hb⟩, i64_wf w7, i64_wf w8, bl_by c, by simpa using hc⟩, ?_⟩
  rw [Rc.tv_eq, bl_of, bl_of]
end Go.T
