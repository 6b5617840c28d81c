/- From a row's arguments to the small machine. -/
import Derived.Test.YtlcnhdbedgpbiaaOTDraw
set_option linter.unusedVariables false
set_option linter.unusedSimpArgs false
set_option maxRecDepth 10000
namespace Go.T
open Go.RowKit
/-- The world that a row is called in: nothing of it is ours. -/
def gOf (W : World) : Gh := ⟨fun b => match W.heap[b]? with | some (.cells vs _ _) => vs.size | _ => 0, fun _ => 0⟩
theorem gOf_lt {W : World} {b o : Nat} {v : Value} (h : W.cell? (at_ b o) = some v) : o < (gOf W).imm b := by
  unfold World.cell? at h
  unfold gOf
  simp only at h ⊢
  split at h
  · rename_i vs ty fr hb
    rw [hb]
    simp at h
    simp only
    exact (Array.getElem?_eq_some_iff.1 h).1
  · cases h
/-- An argument. -/
def ArgR (W : World) (x : TV) (v : Value) : Prop := argOk x = true ∧ VR W (gOf W) 0 x v ∧ ∀ ow q, Owns W (gOf W) ow q x v
theorem ArgR.int (W : World) (k : IntKind) (n : Int) : ArgR W (.int k n) (.int k n) := ⟨rfl, .int _ _, fun _ _ => owns_cell rfl rfl⟩
theorem ArgR.bool (W : World) (b : Bool) : ArgR W (.bool b) (.bool b) := ⟨rfl, .bool _, fun _ _ => owns_cell rfl rfl⟩
theorem ArgR.str (W : World) (s : ByteArray) : ArgR W (.str s) (.string s) := ⟨rfl, .str _, fun _ _ => owns_cell rfl rfl⟩
/-- A row of numbers. -/
theorem ArgR.ints {W : World} {k : IntKind} {a : Option Addr} {len cap : Nat} {zs : List Int}
    (h : (a = none ∧ len = 0 ∧ cap = 0 ∧ zs = []) ∨ ∃ x, a = some x ∧ x.spot = none ∧ len ≤ cap ∧ cap ≤ 9223372036854775807 ∧ zs.length = cap ∧ ∀ i, i < zs.length → W.cell? (x.add i) = some (.int k (zs.getD i 0))) :
    ArgR W (.sl .shr ((zs.take len).map (.int k))) (.slice a len cap) := by
  refine ⟨rfl, ?_, fun _ _ => owns_cell rfl rfl⟩
  rcases h with ⟨rfl, rfl, rfl, rfl⟩ | ⟨x, rfl, hs, h1, h2, h3, h4⟩
  · exact .sl .shr [] none 0 1 (fun _ _ => undef) (by decide) (by simp) (by simp) (by simp) (fun _ => rfl) (by simp) (by simp) (by simp)
  · have hlen : ((zs.take len).map (TV.int k)).length = len := by simp; omega
    have hel : ∀ (i : Nat) (e : TV), ((zs.take len).map (TV.int k))[i]? = some e → i < zs.length ∧ e = .int k (zs.getD i 0) := by
      intro i e he
      have hi : i < len := by have := (List.getElem?_eq_some_iff.1 he).1; omega
      obtain ⟨n, hn, rfl⟩ := getElem?_map_some he
      rw [List.getElem?_take, if_pos hi] at hn
      exact ⟨by omega, by simp [hn]⟩
    have := VR.sl (w := W) (g := gOf W) (m := 0) .shr ((zs.take len).map (.int k)) (some x) cap 1 (fun i _ => .int k (zs.getD i 0)) (by decide) (by omega) (by omega) (fun ad had _ => by cases had; exact hs) (by simp) (fun e he => by
      obtain ⟨n, _, rfl⟩ := List.mem_map.1 he
      rfl) (fun ad i e j y had hi hj => by
      cases had
      obtain ⟨z1, rfl⟩ := hel i e hi
      have hj0 : j = 0 ∧ y = .int k (zs.getD i 0) := by
        cases j with
        | zero => simp [TV.cells] at hj; exact ⟨rfl, hj.symm⟩
        | succ j => simp [TV.cells] at hj
      obtain ⟨rfl, rfl⟩ := hj0
      have hc := h4 i z1
      have hx : x.add i = at_ x.block (x.off + (i * 1 + 0)) := by
        obtain ⟨b, o, sp⟩ := x
        simp only at hs
        subst hs
        simpa using at_add b o i
      rw [hx] at hc
      exact ⟨rfl, gOf_lt hc, hc⟩) (fun i e j y hi hj => by
      obtain ⟨z1, rfl⟩ := hel i e hi
      cases j with
      | zero => simp [TV.cells] at hj; subst hj; exact .int _ _
      | succ j => simp [TV.cells] at hj)
    rw [hlen] at this
    exact this
theorem glue {P : Program} {call : CallF} (hcs : CallSound P call) {f : Nat} {as : List TV} {vs : Array Value} {W : World} {b kp : Bool} (h : call f as [] = some ⟨.bool b, [], kp⟩) (hl : as.length = vs.size)
    (hargs : ∀ (k : Nat) (x : TV) (v : Value), as[k]? = some x → vs[k]? = some v → ArgR W x v) : Calls P f vs W (fun e W' => e = .returned (.bool b) ∧ Below W.heap.size W W') := by
  obtain ⟨_, _, hc⟩ := hcs f as [] _ h
  refine Calls.mono (hc W (gOf W) (fun _ => none) vs hl (fun k x v hx hv => ⟨(hargs k x v hx hv).1, (hargs k x v hx hv).2.1, (hargs k x v hx hv).2.2 _ _⟩) (by simp) (by simp)) ?_
  rintro e W' ⟨v, rfl, g', ow', hs, hv, _⟩
  refine ⟨by rw [hv.bool_inv], ?_⟩
  exact ⟨hs.os, hs.tape, hs.output, hs.size, fun k hk => (hs.far k hk (.inl rfl)).1⟩
end Go.T
