/- The functions of the small machine are the program's. -/
import Derived.Test.YtlcnhdbedgpbiaaOTFin2
set_option linter.unusedVariables false
set_option linter.unusedSimpArgs false
set_option maxRecDepth 10000
namespace Go.T
theorem finish_ord {fz : Bool} {rs : List TRes} {st : St} {r : Ret} (h : finish fz rs st = some r) (hb : st.base ≤ st.h.length) : st.base ≤ r.h.length ∧ (r.kp = false → st.keep = false ∧ ∀ i, i < st.base → r.h.getD i [] = st.h.getD i []) := by
  unfold finish at h
  split at h
  · cases h
  · rename_i vs hvs
    obtain rfl := Option.some.inj h
    have htake : ∀ i, i < st.base → (st.h.take st.base).getD i [] = st.h.getD i [] := by
      intro i hi
      simp only [List.getD_eq_getElem?_getD, List.getElem?_take, if_pos hi]
    refine ⟨trim_len hb, ?_⟩
    by_cases ha : st.h.length = st.base
    · unfold trim; rw [if_pos ha]; exact fun hk => ⟨hk, fun _ _ => rfl⟩
    by_cases hk : st.keep = true
    · unfold trim; rw [if_neg ha, if_pos hk]; exact fun hk => ⟨hk, fun _ _ => rfl⟩
    have hk0 : st.keep = false := by simpa using hk
    unfold trim
    rw [if_neg ha, if_neg hk]
    simp only
    split <;> split <;> first | exact fun _ => ⟨hk0, htake⟩ | exact fun _ => ⟨hk0, fun _ _ => rfl⟩
def ExtOrd (ext : Nat → Option CallF) : Prop := ∀ f c, ext f = some c → ∀ as h r, c f as h = some r → h.length ≤ r.h.length ∧ (r.kp = false → HOrd h r.h)
theorem callN_ord {tab : Nat → Option TF} {ext : Nat → Option CallF} (he : ExtOrd ext) : ∀ n, OrdC (callN tab ext n) := by
  intro n
  induction n with
  | zero => intro f as h r hc; simp [callN] at hc
  | succ n ih =>
    intro f as h r hc
    simp only [callN] at hc
    split at hc
    · rename_i c hx
      exact he f c hx as h r hc
    · split at hc
      · cases hc
      · rename_i tf htf
        split at hc
        · cases hc
        · rename_i ex st hex hrun
          have ho := exec_ord ih n _ _ _ _ hrun
          have hb : st.base = h.length := ho.base
          have hl : h.length ≤ st.h.length := ho.len
          obtain ⟨f1, f2⟩ := finish_ord hc (by omega)
          refine ⟨by omega, fun hk => ?_⟩
          obtain ⟨k1, k2⟩ := f2 hk
          intro i hi b hib hh
          rw [k2 i (by omega)]
          exact (ho.keep k1).2 i hi b hib hh
        · cases hc
/-- What a call's answer says of the program. -/
def CallAt (P : Program) (f : Nat) (as : List TV) (h : Heap) (r : Ret) : Prop :=
  h.length ≤ r.h.length ∧ (∃ fn, P.funcs[f]? = some fn ∧ fn.body.isSome = true ∧ (fn.name == "runtime.NumGoroutine") = false) ∧
    ∀ (w : World) (g : Gh) (ow : Ow) (vs : Array Value), as.length = vs.size →
      (∀ (k : Nat) (x : TV) (v : Value), as[k]? = some x → vs[k]? = some v → argOk x = true ∧ VR w g h.length x v ∧ Owns w g ow [0, k] x v) →
      (∀ (i : Nat) cs, h[i]? = some cs → BoxD w g h.length ow [1, i] cs (g.nu i)) → (∀ b q, ow b = some q → b < w.heap.size) →
      Calls P f vs w (fun e w' => ∃ v, e = .returned v ∧ CallPost w g ow h.length r v w')
theorem callSound_iff {P : Program} {call : CallF} : CallSound P call ↔ ∀ f as h r, call f as h = some r → CallAt P f as h r := Iff.rfl
def ExtSound (P : Program) (ext : Nat → Option CallF) : Prop := ∀ f c, ext f = some c → ∀ as h r, c f as h = some r → CallAt P f as h r
def TabSound (P : Program) (tab : Nat → Option TF) : Prop := ∀ f tf, tab f = some tf → chkF P f tf = true
theorem sl_app {as : List TV} {n j : Nat} : sl (as ++ List.replicate n (.tup [])) j = if j < as.length then sl as j else if j < as.length + n then .tup [] else .junk := by
  unfold sl
  simp only [List.getD_eq_getElem?_getD, List.getElem?_append, List.getElem?_replicate]
  by_cases h : j < as.length
  · simp [h]
  · by_cases h2 : j - as.length < n
    · have : j < as.length + n := by omega
      simp [h, h2, this]
    · have : ¬ j < as.length + n := by omega
      simp [h, h2, this]
theorem callN_sound {P : Program} {tab : Nat → Option TF} {ext : Nat → Option CallF} (ht : TabSound P tab) (he : ExtOrd ext) (hx : ExtSound P ext) (hdr : ∀ call, CallSound P call → OrdC call → DrawSound P call) : ∀ n, CallSound P (callN tab ext n) := by
  intro n
  induction n with
  | zero => intro f as h r hc; simp [callN] at hc
  | succ n ih =>
    intro f as h r hc
    have hord := callN_ord (tab := tab) he n
    have hlen := ((callN_ord (tab := tab) he (n + 1)) f as h r hc).1
    simp only [callN] at hc
    split at hc
    · rename_i c hcx
      exact hx f c hcx as h r hc
    · split at hc
      · cases hc
      · rename_i tf htf
        split at hc
        · cases hc
        · rename_i ex st hex hrun
          have hchk := ht f tf htf
          unfold chkF at hchk
          split at hchk
          · rename_i fn hfn
            split at hchk
            · rename_i c hbody
              simp only [Bool.and_eq_true, beq_iff_eq, bne_iff_ne] at hchk
              obtain ⟨⟨⟨⟨hC, hR⟩, hD⟩, hN⟩, hname⟩ := hchk
              refine ⟨hlen, ⟨fn, hfn, by simp [hbody], by simpa using hname⟩, ?_⟩
              intro w g ow vs hsz hargs hbox hbd
              refine calls_of_wp hfn hbody ?_
              have ho := exec_ord hord n _ _ _ _ hrun
              have hb : st.base = h.length := ho.base
              have hI : Inv w g ow ⟨as ++ List.replicate (tf.ntmps - as.length) (.tup []), h, h.length, false⟩ { tmps := vs ++ Array.replicate (fn.ntmps - vs.size) undef, defers := [] } := by
                refine ⟨rfl, by simp [hsz, hN], fun j => ?_, hbox, hbd, Nat.le_refl _⟩
                show SlotR _ _ _ _ _ _ j (sl (as ++ List.replicate (tf.ntmps - as.length) (.tup [])) j) _
                rw [sl_app]
                by_cases hj : j < as.length
                · rw [if_pos hj]
                  have hx : as[j]? = some as[j] := by simp
                  have hv : vs[j]? = some (vs[j]'(by omega)) := by simp [show j < vs.size by omega]
                  obtain ⟨k1, k2, k3⟩ := hargs j _ _ hx hv
                  have e1 : sl as j = as[j] := by simp [sl, hj]
                  have e2 : (vs ++ Array.replicate (fn.ntmps - vs.size) undef).getD j undef = vs[j]'(by omega) := by
                    simp only [Array.getD_eq_getD_getElem?]
                    rw [Array.getElem?_append_left (by omega), hv]; rfl
                  rw [e1, e2]
                  exact (SlotR.plain (argOk_plain k1)).2 ⟨k2, k3⟩
                · rw [if_neg hj]
                  split
                  · rename_i hj2
                    have e2 : (vs ++ Array.replicate (fn.ntmps - vs.size) undef).getD j undef = undef := by
                      simp only [Array.getD_eq_getD_getElem?]
                      rw [Array.getElem?_append_right (by omega), Array.getElem?_replicate]
                      split <;> rfl
                    rw [e2]
                    refine ⟨.tup [] #[] rfl (by simp) (by simp), fun p sz s l A n c hs => ?_⟩
                    cases hs with
                    | tup _ _ k x v p _ _ hx hv h => simp at hx
                  · exact ⟨.junk _, fun p sz s l A n c hs => by cases hs⟩
              refine wp_mono (exec_wp ih hord (hdr _ ih hord) n c tf.body w g ow _ _ ex st hC hI hrun) ?_
              have hlow : st.keep = false → ∀ i, i < st.base → TV.lts st.base (st.h.getD i []) = true := by
                intro hk i hi
                rw [hb] at hi ⊢
                refine (ho.keep hk).2 i hi _ hi ?_
                show TV.lts h.length (h.getD i []) = true
                exact box_lts hbox hi
              have fin : ∀ a' w', Nxt w g ow h.length st a' w' → a'.defers = [] ∧ ∃ v, (results fn a'.tmps).run P w' = .ok v w' ∧ ∃ v', Ending.returned v = .returned v' ∧ CallPost w g ow h.length r v' w' := by
                rintro a' w' ⟨g1, ow1, n1, n2⟩
                obtain ⟨us, u1, u2, u3⟩ := finish_spec (P := P) n2 hR hD hc hlow
                refine ⟨n2.defers, _, run_results u1, _, rfl, ?_⟩
                rw [hb] at u3
                obtain ⟨g', ow', s1, s2, s3, s4, s5⟩ := u3
                exact ⟨g', ow', n1.trans s1 (Nat.le_refl _), s2, s3, s4, s5⟩
              intro e a' w' hq
              cases e with
              | normal => exact fin a' w' hq.2
              | ret => exact fin a' w' hq.2
              | exit id =>
                obtain ⟨rfl, _⟩ := hq
                exact (hex id rfl).elim
              | goto l => exact hq.elim
              | panic ch => exact hq.elim
              | outgrown => exact hq.elim
            · cases hchk
          · cases hchk
        · cases hc
end Go.T
