/- A ledger as an argument: how many letters its names have. -/
import Derived.Test.YtmmmogcbmfmabaaOldc1
import Derived.Test.YtmmmogcbmfmabaaOledO
import Derived.Test.YtmmmogcbmfmabaaOTOpenM
set_option linter.unusedVariables false
set_option linter.unusedSimpArgs false
set_option maxRecDepth 10000
namespace Go.T
theorem lets_hds (l : List Hd) : TV.letss (l.map Hd.tv) = nameN l := by
  induction l with
  | nil => simp [TV.letss, nameN]
  | cons h l ih =>
    simp only [List.map_cons, TV.letss, ih, nameN, List.sum_cons, Hd.tv, Hd.cells, TV.lets]
    omega
theorem Lg.lets_names {xs : List TV} {l : Lg} (e : TV.agg xs = l.tv) {n : Nat} (h : TV.letss xs ≤ n) : nameN l.hs ≤ n := by
  rw [Lg.tv_eq] at e
  cases e
  simp only [TV.letss, TV.lets, lets_hds] at h
  omega
theorem bl_of (b : List UInt8) : (TV.sl .shr (b.map fun c => TV.int .u8 c.toNat)) = .sl .shr (bl (b.map fun c => (c.toNat : Int))) := by
  simp [bl, Function.comp_def]
theorem bl_by (b : List UInt8) : ∀ x ∈ b.map (fun c => (c.toNat : Int)), 0 ≤ x ∧ x ≤ 255 := by
  intro x hx
  obtain ⟨c, _, rfl⟩ := List.mem_map.1 hx
  have := c.toNat_lt
  omega
end Go.T
