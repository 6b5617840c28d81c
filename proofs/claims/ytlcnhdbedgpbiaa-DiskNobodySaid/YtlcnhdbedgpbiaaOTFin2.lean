/- What a frame of the small machine answers, its model answers: its boxes given up, a row it made frozen. -/
import Derived.Test.YtlcnhdbedgpbiaaOTFin
set_option linter.unusedVariables false
set_option linter.unusedSimpArgs false
set_option maxRecDepth 10000
namespace Go.T
section
variable {P : Program} {w : World} {g : Gh} {ow : Ow} {st : St} {a : Act}
theorem one_spec {m : Nat} {vs : List TV} {us : List Value} (hl : us.length = vs.length) (h : ∀ (k : Nat) (x : TV) (u : Value), vs[k]? = some x → us[k]? = some u → VR w g m x u ∧ argOk x = true ∧ Owns w g ow (rPlace (decide (vs.length = 1)) k) x u) :
    VR w g m (one vs) (valOf us) ∧ Owns w g ow [3] (one vs) (valOf us) := by
  by_cases h1 : vs.length = 1
  · match vs, us, hl, h1 with
    | [x], [u], _, _ =>
      obtain ⟨a1, a2, a3⟩ := h 0 x u rfl rfl
      have a3' : Owns w g ow [3] x u := by simpa [rPlace] using a3
      exact ⟨a1, a3'⟩
  · have e1 : one vs = .tup vs := by
      match vs, h1 with
      | [], _ => rfl
      | _ :: _ :: _, _ => rfl
    have e2 : valOf us = .tuple us.toArray := by
      match us, vs, hl, h1 with
      | [], _, _, _ => rfl
      | [_], [_], _, h => simp at h
      | _ :: _ :: _, _, _, _ => rfl
    rw [e1, e2]
    simp only [h1, decide_false] at h
    refine ⟨.tup _ _ (by simp [hl]) (fun j x v hx hv => (h j x v hx (by simpa using hv)).2.1) (fun j x v hx hv => (h j x v hx (by simpa using hv)).1), ?_⟩
    intro p sz s l A n c hs
    cases hs with
    | tup _ _ k x v p _ _ hx hv hh =>
      have := (h k x v hx (by simpa using hv)).2.2 p sz s l A n c hh
      simpa [rPlace] using this
theorem Stp.less {w' : World} {g' : Gh} {ow' : Ow} {m n : Nat} (h : Stp w g ow m w' g' ow') (hn : n ≤ m) : Stp w g ow n w' g' ow' := ⟨h.os, h.tape, h.output, h.size, h.cell, h.imm, fun i hi => h.nu i (by omega), h.row, h.far, h.out⟩
theorem finish_spec (hI : Inv w g ow st a) {rvs : List ResultVar} {rs : List TRes} (hc : chkR P rvs rs = true) (hd : slotsDistinct rs [] = true) {fz : Bool} {r : Ret} (hf : finish fz rs st = some r)
    (hlow : st.keep = false → ∀ i, i < st.base → TV.lts st.base (st.h.getD i []) = true) :
    ∃ us, (rvs.mapM (resRun a)).run P w = .ok us w ∧ st.base ≤ r.h.length ∧ CallPost w g ow st.base r (valOf us) w := by
  unfold finish at hf
  split at hf
  · cases hf
  · rename_i vs hvs
    obtain rfl := Option.some.inj hf
    obtain ⟨us, h1, h2, h3, h4⟩ := res_all (P := P) hI rvs rs vs hc hvs
    refine ⟨us, h1, ?_⟩
    obtain ⟨sg, hsg⟩ : ∃ sg, sg = decide (vs.length = 1) := ⟨_, rfl⟩
    have hstp := Stp.ren (w := w) (g := g) (m := st.h.length) hI.bd (resR sg rs) (resR_ren sg rs).1 (resR_ren sg rs).2
    have hrel : ∀ (k : Nat) (x : TV) (u : Value), vs[k]? = some x → us[k]? = some u → VR w g st.h.length x u ∧ argOk x = true ∧ Owns w g (rnO ow (resR sg rs)) (rPlace sg k) x u := by
      intro k x u hx hu
      obtain ⟨k1, k2, r', hr', k3⟩ := h4 k x u hx hu
      refine ⟨k1, k2, k3 _ _ (fun b p hb => ?_)⟩
      rw [rnO_at hb]
      have := (pos_of rs [] 0 k r' hd hr').2
      simp [resR, this]
    have hbox : ∀ (i : Nat) cs, st.h[i]? = some cs → BoxD w g st.h.length (rnO ow (resR sg rs)) [1, i] cs (g.nu i) := fun i cs hi hdd => (hI.box i cs hi hdd).reow (fun b p hb => by rw [rnO_at hb]; simp [resR])
    have := one_spec h2 (by rw [← hsg]; exact hrel)
    exact trim_post (fz := fz) (r := ⟨one vs, st.h, st.keep⟩) ⟨g, _, hstp.less hI.base, this.1, this.2, hbox, rnO_bd hI.bd⟩ hI.base (fun hk i hi => .inl (hlow hk i hi))
end
end Go.T
