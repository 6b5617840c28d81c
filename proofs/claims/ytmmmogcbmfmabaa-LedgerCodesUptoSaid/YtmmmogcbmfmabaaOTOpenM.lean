/- A row's arguments, opened, and how many letters they have at the most. -/
import Derived.Test.YtmmmogcbmfmabaaOM8
set_option linter.unusedVariables false
set_option linter.unusedSimpArgs false
set_option maxRecDepth 10000
namespace Go.T
open Go.RowKit
mutual
/-- How many letters a value has. -/
def TV.lets : TV → Nat
  | .str s => s.size
  | .sl _ l => TV.letss l
  | .agg l => TV.letss l
  | _ => 0
def TV.letss : List TV → Nat
  | [] => 0
  | v :: vs => TV.lets v + TV.letss vs
end
theorem letss_app (a b : List TV) : TV.letss (a ++ b) = TV.letss a + TV.letss b := by
  induction a with
  | nil => simp [TV.letss]
  | cons x a ih => simp only [List.cons_append, TV.letss, ih]; omega
theorem letss_le {el : Nat → TV} {m : Nat → Nat} (l : List Nat) (h : ∀ i ∈ l, (el i).lets ≤ m i) : TV.letss (l.map el) ≤ (l.map m).sum := by
  induction l with
  | nil => simp [TV.letss]
  | cons i l ih =>
    have h1 := h i (by simp)
    have h2 := ih fun j hj => h j (by simp [hj])
    simp only [List.map_cons, TV.letss, List.sum_cons]; omega
variable {H : Type} {enc : TypeId × Value → H} {P : Program} {w : World} {base : Nat} {held : Bool}
/-- A measure of readings that counts letters. -/
structure Msr (μ : DataW H → Nat) : Prop where
  str : ∀ bytes, bytes.length ≤ μ (.lit (.string bytes))
  agg : ∀ ps, (ps.map μ).sum ≤ μ (.agg ps)
  sl : ∀ es rest, (es.map μ).sum ≤ μ (.slice es rest)
/-- Cells, opened, with so many letters at the most. -/
def OpnM (w : World) (ss : List Sh) (cs : List Value) (b : Nat) : Prop :=
  ∃ xs, Sh.fitss ss xs ∧ xs.length = cs.length ∧ (∀ (j : Nat) (x : TV) (v : Value), xs[j]? = some x → cs[j]? = some v → VR w (gOf w) 0 x v) ∧ TV.letss xs ≤ b
theorem OpnM.one {s : Sh} {x : TV} {v : Value} {b : Nat} (h : s.fits x) (hv : VR w (gOf w) 0 x v) (hb : x.lets ≤ b) : OpnM w [s] [v] b := by
  refine ⟨[x], by simp only [Sh.fitss]; exact ⟨x, [], rfl, h, rfl⟩, rfl, fun j y u hj hu => ?_, by simp only [TV.letss]; omega⟩
  cases j with
  | zero => simp at hj hu; subst hj; subst hu; exact hv
  | succ j => simp at hj
theorem OpnM.app {ss ss' : List Sh} {cs cs' : List Value} {b b' : Nat} (h : OpnM w ss cs b) (h' : OpnM w ss' cs' b') : OpnM w (ss ++ ss') (cs ++ cs') (b + b') := by
  obtain ⟨xs, a1, a2, a3, a4⟩ := h
  obtain ⟨ys, b1, b2, b3, b4⟩ := h'
  refine ⟨xs ++ ys, Sh.fitss_app a1 b1, by simp [a2, b2], fun j x v hj hv => ?_, by rw [letss_app]; omega⟩
  by_cases hlt : j < xs.length
  · rw [List.getElem?_append_left hlt] at hj
    rw [List.getElem?_append_left (by omega)] at hv
    exact a3 j x v hj hv
  · rw [List.getElem?_append_right (by omega)] at hj
    rw [List.getElem?_append_right (by omega)] at hv
    rw [a2] at hj
    exact b3 _ x v hj hv
theorem opened_fieldsM {rec : TypeId → Option (List Sh)} {cs : List Value} {fs : List Field} : ∀ (bs : List Nat), bs.length = fs.length → (∀ (i : Nat) f b, fs[i]? = some f → bs[i]? = some b → ∀ ss, rec f.type = some ss → ss.length = P.cellsOf f.type → OpnM w ss ((cs.drop f.offset).take (P.cellsOf f.type)) b) →
    ∀ off ss, shFs P rec fs off = some ss → OpnM w ss ((cs.drop off).take ss.length) bs.sum := by
  induction fs with
  | nil =>
    intro bs hl h off ss hs
    simp only [shFs] at hs
    cases hs
    exact ⟨[], rfl, by simp, by simp, by simp [TV.letss]⟩
  | cons f fs ih =>
    intro bs hl h off ss hs
    obtain ⟨b, bs, rfl⟩ : ∃ b bs', bs = b :: bs' := by
      cases bs with
      | nil => simp at hl
      | cons b bs => exact ⟨b, bs, rfl⟩
    simp only [shFs] at hs
    split at hs
    · rename_i ho
      split at hs
      · rename_i a ha
        split at hs
        · rename_i hl2
          split at hs
          · rename_i c hc
            cases hs
            have h1 := h 0 f b rfl rfl a ha hl2
            have h2 := ih bs (by simpa using hl) (fun i g b' hg hb' => h (i + 1) g b' (by simpa using hg) (by simpa using hb')) _ _ hc
            have := h1.app h2
            rw [ho, ← hl2] at this
            rw [List.length_append, List.take_add, List.drop_drop, List.sum_cons]
            exact this
          · cases hs
        · cases hs
      · cases hs
    · cases hs
theorem openedM {μ : DataW H → Nat} (hμ : Msr μ) : ∀ (n : Nat) (t : TypeId) (ss : List Sh) (cs : List Value) (x : DataW H × List MemPlace) (fuel : Nat), shOf P n t = some ss → DataW.trod enc P w base (fun _ => true) held fuel t cs = some x → OpnM w ss cs (μ x.1) := by
  intro n
  induction n with
  | zero => intro t ss cs x fuel h; simp [shOf] at h
  | succ n ih =>
    intro t ss cs x fuel h hd
    simp only [shOf] at h
    split at h
    · rename_i hu; cases h
      obtain ⟨b, rfl, _⟩ := DataW.trod_bool hu hd
      exact .one (by simp only [Sh.fits]; exact ⟨b, rfl⟩) (.bool b) (Nat.zero_le _)
    · rename_i k hu; cases h
      obtain ⟨m, rfl, _, hw⟩ := DataW.trod_int hu hd
      exact .one (by simp only [Sh.fits]; exact ⟨m, hw, rfl⟩) (.int k m) (Nat.zero_le _)
    · rename_i hu; cases h
      obtain ⟨s, rfl, rfl, hs⟩ := DataW.trod_string hu hd
      exact .one (by simp only [Sh.fits]; exact ⟨s, by unfold maxLen at hs; omega, rfl⟩) (.str s) (hμ.str s.data.toList)
    · rename_i e hu
      split at h
      · rename_i ss' he
        split at h
        · rename_i hl
          obtain ⟨hl, hpos⟩ := hl
          obtain ⟨ag, rfl, hag⟩ : ∃ ag, ss = [.sl ag ss'] ∧ (ag = true ∨ ss'.length = 1) := by
            split at h
            · cases h; exact ⟨true, rfl, .inl rfl⟩
            · split at h
              · cases h; exact ⟨false, rfl, .inr (by assumption)⟩
              · cases h
          rcases DataW.trod_slice hu hd with ⟨rfl, _⟩ | ⟨a, len, cap, elems, rest, m, _, rfl, rfl, hb, hlc, hm, hel, hes, hsp, _⟩
          · refine .one (x := .sl .shr []) (by simp only [Sh.fits]; exact ⟨[], by simp, rfl, by simp⟩) ?_ ?_
            · exact .sl .shr [] none 0 1 (fun _ _ => undef) (by decide) (by simp) (by simp) (by simp) (fun _ => rfl) (by simp) (by simp) (by simp)
            · exact Nat.zero_le _
          · obtain ⟨hrl, hrs⟩ := hsp rfl
            have hall : ∀ i, i < cap → ∃ cs', w.cells? base (a.add (i * P.cellsOf e)) (P.cellsOf e) = some cs' ∧ ∃ y, DataW.trod enc P w base (fun _ => true) held m e cs' = some y := by
              intro i hi
              by_cases hil : i < len
              · have h1 := hes i hil
                rw [List.getElem?_eq_getElem (by omega)] at h1
                obtain ⟨cs', h2, h3⟩ := Option.bind_eq_some_iff.1 h1
                exact ⟨cs', h2, _, h3⟩
              · have h1 := hrs (i - len) (by omega)
                rw [List.getElem?_eq_getElem (by omega), show len + (i - len) = i by omega] at h1
                obtain ⟨cs', h2, h3⟩ := Option.bind_eq_some_iff.1 h1
                exact ⟨cs', h2, _, h3⟩
            have hspot : 0 < cap → a.spot = none := by
              intro hc
              obtain ⟨cs', h2, _⟩ := hall 0 hc
              obtain ⟨_, h3, h4⟩ := World.cells?_some h2
              have h5 := h4 0 (by omega)
              rw [List.getElem?_eq_getElem (by omega)] at h5
              simp [Addr.add] at h5
              unfold World.cell? at h5
              split at h5
              · split at h5
                · cases h5
                · rename_i hh; simpa using hh
              · cases h5
            let mm : Nat → Nat := fun i => match elems[i]? with | some y => μ y.1 | none => 0
            have hopn : ∀ i, i < len → ∃ xs : List TV, Sh.fitss ss' xs ∧ xs.length = P.cellsOf e ∧ (∀ (j : Nat) (x : TV), xs[j]? = some x → ∃ v, w.cell? (at_ a.block (a.off + (i * P.cellsOf e + j))) = some v ∧ VR w (gOf w) 0 x v) ∧ TV.letss xs ≤ mm i := by
              intro i hi
              obtain ⟨cs', h2, y, h3, hyi⟩ : ∃ cs', w.cells? base (a.add (i * P.cellsOf e)) (P.cellsOf e) = some cs' ∧ ∃ y, DataW.trod enc P w base (fun _ => true) held m e cs' = some y ∧ elems[i]? = some y := by
                have h1 := hes i hi
                rw [List.getElem?_eq_getElem (by omega)] at h1
                obtain ⟨cs', h2, h3⟩ := Option.bind_eq_some_iff.1 h1
                exact ⟨cs', h2, _, h3, List.getElem?_eq_getElem (by omega)⟩
              obtain ⟨xs, g1, g2, g3, g4⟩ := ih e ss' cs' y m he h3
              have hmm : mm i = μ y.1 := by simp only [mm, hyi]
              obtain ⟨_, k1, k2⟩ := World.cells?_some h2
              refine ⟨xs, g1, by omega, fun j x hj => ?_, by rw [hmm]; exact g4⟩
              have hjl : j < P.cellsOf e := by have := (List.getElem?_eq_some_iff.1 hj).1; omega
              have h6 := k2 j hjl
              rw [List.getElem?_eq_getElem (by omega)] at h6
              have hs := hspot (by omega)
              refine ⟨_, ?_, g3 j x _ hj (List.getElem?_eq_getElem (by omega))⟩
              obtain ⟨b, o, sp⟩ := a
              simp only at hs
              subst hs
              rw [show (⟨b, o, none⟩ : Addr) = at_ b o from rfl, at_add, at_add] at h6
              rw [← h6]
              simp [Nat.add_assoc]
            let f : Nat → List TV := fun i => if hi : i < len then Classical.choose (hopn i hi) else []
            have hf : ∀ i, i < len → Sh.fitss ss' (f i) ∧ (f i).length = P.cellsOf e ∧ (∀ (j : Nat) (x : TV), (f i)[j]? = some x → ∃ v, w.cell? (at_ a.block (a.off + (i * P.cellsOf e + j))) = some v ∧ VR w (gOf w) 0 x v) ∧ TV.letss (f i) ≤ mm i := by
              intro i hi
              simp only [f, hi, dite_true]
              exact Classical.choose_spec (hopn i hi)
            let el : Nat → TV := fun i => if ag = true then .agg (f i) else (f i).headD .junk
            have hel2 : ∀ i, i < len → (el i).cells = f i ∧ (if ag then el i = .agg (f i) else f i = [el i]) := by
              intro i hi
              obtain ⟨f1, f2, _⟩ := hf i hi
              cases ag with
              | true => exact ⟨rfl, rfl⟩
              | false =>
                rcases hag with hag | hag
                · cases hag
                · have : (f i).length = 1 := by omega
                  match hfi : f i, this with
                  | [y], _ =>
                    have he1 : el i = y := by simp [el, hfi]
                    obtain ⟨s, hs⟩ := Sh.fitss_get f1 (j := 0) (x := y) (by rw [hfi]; rfl)
                    rw [he1, Sh.fits_cells hs]
                    exact ⟨rfl, rfl⟩
            have hlen0 : ((List.range len).map el).length = len := by simp
            have hget : ∀ (i : Nat) (e' : TV), ((List.range len).map el)[i]? = some e' → i < len ∧ e' = el i := by
              intro i e' hi
              have hil : i < len := by have := (List.getElem?_eq_some_iff.1 hi).1; omega
              rw [List.getElem?_map, List.getElem?_range hil] at hi
              exact ⟨hil, by simpa using hi.symm⟩
            refine .one (x := .sl .shr ((List.range len).map el)) ?_ ?_ ?_
            · simp only [Sh.fits]
              refine ⟨_, by rw [hlen0]; unfold maxLen at hm; omega, rfl, fun e' he' => ?_⟩
              obtain ⟨i, hi⟩ := List.getElem?_of_mem he'
              obtain ⟨hil, rfl⟩ := hget i e' hi
              exact ⟨f i, (hf i hil).1, by rw [(hf i hil).2.1, hl], (hel2 i hil).2⟩
            · have := VR.sl (w := w) (g := gOf w) (m := 0) .shr ((List.range len).map el) (some a) cap (P.cellsOf e) (fun i j => (w.cell? (at_ a.block (a.off + (i * P.cellsOf e + j)))).getD undef) (by omega) (by rw [hlen0]; exact hlc) (by rw [hlen0]; unfold maxLen at hm; omega)
                (fun ad had hc => by cases had; exact hspot hc) (by simp) (fun e' he' => by
                  obtain ⟨i, hi⟩ := List.getElem?_of_mem he'
                  obtain ⟨hil, rfl⟩ := hget i e' hi
                  rw [(hel2 i hil).1, (hf i hil).2.1]) (fun ad i e' j x had hi hj => by
                  cases had
                  obtain ⟨hil, rfl⟩ := hget i e' hi
                  rw [(hel2 i hil).1] at hj
                  obtain ⟨v, hv, _⟩ := (hf i hil).2.2.1 j x hj
                  obtain ⟨s, hs⟩ := Sh.fitss_get (hf i hil).1 hj
                  exact ⟨Sh.fits_elt hs, gOf_lt hv, by rw [hv]; rfl⟩) (fun i e' j x hi hj => by
                  obtain ⟨hil, rfl⟩ := hget i e' hi
                  rw [(hel2 i hil).1] at hj
                  obtain ⟨v, hv, hvr⟩ := (hf i hil).2.2.1 j x hj
                  simp only [hv, Option.getD_some]
                  exact hvr)
              rw [hlen0] at this
              exact this
            · have h1 : TV.letss ((List.range len).map el) ≤ ((List.range len).map mm).sum := letss_le _ fun i hi => by
                have hil := List.mem_range.1 hi
                have h2 := (hf i hil).2.2.2
                have h3 := (hel2 i hil).2
                cases hag2 : ag with
                | true =>
                  rw [hag2, if_pos rfl] at h3
                  rw [h3]; exact h2
                | false =>
                  rw [hag2, if_neg (by decide)] at h3
                  rw [h3] at h2
                  simp only [TV.letss, Nat.add_zero] at h2
                  exact h2
              have h4 : (List.range len).map mm = (elems.map (·.1)).map μ := by
                apply List.ext_getElem
                · simp [hel]
                · intro i h5 h6
                  simp at h5 h6
                  simp [mm, List.getElem?_eq_getElem h6]
              rw [h4] at h1
              exact Nat.le_trans h1 (hμ.sl _ _)
        · cases h
      · cases h
    · rename_i fs hu
      split at h
      · rename_i ss' hss
        split at h
        · rename_i hl
          cases h
          obtain ⟨ys, m, _, rfl, hcl, hyl, hfs⟩ := DataW.trod_struct hu hd
          have := opened_fieldsM (P := P) (w := w) (rec := shOf P n) (cs := cs) (fs := fs.toList) ((ys.map (·.1)).map μ) (by simp [hyl]) (fun i f b hi hb ss hs hsl => by
            rw [Array.getElem?_toList] at hi
            have h1 := hfs i f hi
            have hlt : i < ys.length := by rw [hyl]; exact (Array.getElem?_eq_some_iff.1 hi).1
            rw [List.getElem?_eq_getElem hlt] at h1
            simp [List.getElem?_eq_getElem hlt] at hb
            rw [← hb]
            exact ih f.type ss _ _ m hs h1) 0 _ hss
          rw [List.drop_zero, List.take_of_length_le (by omega)] at this
          obtain ⟨xs, k1, k2, k3, k4⟩ := this
          exact ⟨xs, k1, k2, k3, Nat.le_trans k4 (hμ.agg _)⟩
        · cases h
      · cases h
    · cases h
/-- An argument that is a struct, opened, with its letters. -/
theorem arg_open_aggM {μ : DataW H → Nat} (hμ : Msr μ) {n : Nat} {t : TypeId} {ss : List Sh} {cs : Array Value} {d : DataW H} {p : List MemPlace} (hs : shOf P n t = some ss) (h : DataW.Trod enc P w base (fun _ => true) held t (.agg cs) d p) : ∃ xs, Sh.fitss ss xs ∧ ArgR w (.agg xs) (.agg cs) ∧ TV.letss xs ≤ μ d := by
  obtain ⟨fuel, hf⟩ := h
  obtain ⟨xs, h1, h2, h3, h4⟩ := openedM hμ n t _ _ _ fuel hs hf
  have hc : ∀ x ∈ xs, x.isCell = true ∧ x.noOwn = true := by
    intro x hx
    obtain ⟨j, hj⟩ := List.getElem?_of_mem hx
    obtain ⟨s, hs⟩ := Sh.fitss_get h1 hj
    have he := Sh.fits_elt hs
    refine ⟨isElt_isCell he, ?_⟩
    cases x <;> first | rfl | (rename_i tg l; cases tg <;> first | rfl | simp [TV.isElt] at he)
  have hlen : xs.length = cs.size := by rw [h2]; simp [Value.cells]
  refine ⟨xs, h1, ⟨?_, ?_, fun ow q => owns_agg hc⟩, h4⟩
  · simp only [argOk, List.all_eq_true]
    exact fun x hx => (hc x hx).1
  · refine VR.agg xs cs hlen (fun j x v hx _ => (hc x (List.mem_of_getElem? hx)).1) fun j x v hx hv => ?_
    exact h3 j x v hx (by simpa [Value.cells] using hv)
/-- An argument, opened, with its letters. -/
theorem arg_openM {μ : DataW H → Nat} (hμ : Msr μ) {n : Nat} {t : TypeId} {s : Sh} {v : Value} {d : DataW H} {p : List MemPlace} (hs : shOf P n t = some [s]) (hv : v.cells.toList = [v]) (h : DataW.Trod enc P w base (fun _ => true) held t v d p) : ∃ x, s.fits x ∧ ArgR w x v ∧ x.lets ≤ μ d := by
  obtain ⟨fuel, hf⟩ := h
  rw [hv] at hf
  obtain ⟨xs, h1, h2, h3, h4⟩ := openedM hμ n t _ _ _ fuel hs hf
  simp only [Sh.fitss] at h1
  obtain ⟨x, xs', rfl, h5, rfl⟩ := h1
  have h6 := h3 0 x v rfl rfl
  have he := Sh.fits_elt h5
  have hc := isElt_isCell he
  simp only [TV.letss, Nat.add_zero] at h4
  refine ⟨x, h5, ⟨?_, h6, fun ow q => owns_cell hc ?_⟩, h4⟩
  · cases x <;> first | rfl | simp [TV.isCell] at hc
  · cases x <;> first | rfl | (rename_i tg l; cases tg <;> first | rfl | simp [TV.isElt] at he)
end Go.T
