/- Operations of the small machine: structs and slices that are written out. -/
import Derived.Test.YtlcnhdbedgpbiaaOTOps9
import Derived.Great.BuildSlice
set_option linter.unusedVariables false
set_option linter.unusedSimpArgs false
set_option maxRecDepth 10000
namespace Go.T
section
variable {P : Program} {w : World} {g : Gh} {ow : Ow} {st : St} {a : Act} {o : Oper} {dst : Option Nat}
/-- The cells of a value that owns nothing. -/
theorem cellsP {m : Nat} {v : TV} {r : Value} (hv : VR w g m v r) (hall : v.cells.all TV.isCell = true) (ho : ∀ w' g' ow' q, Owns w' g' ow' q v r) :
    v.cells.length = r.cells.size ∧ ∀ (j : Nat) (x : TV) (u : Value), v.cells[j]? = some x → r.cells[j]? = some u → x.isCell = true ∧ VR w g m x u ∧ ∀ w' g' ow' q, Owns w' g' ow' q x u := by
  by_cases hag : ∃ cs, v = .agg cs
  · obtain ⟨cs, rfl⟩ := hag
    cases hv with
    | agg _ vs hl h hr =>
      refine ⟨hl, fun j x u hx hu => ⟨h j x u hx hu, hr j x u hx hu, ?_⟩⟩
      intro w' g' ow' q p sz s l A n c hs
      obtain ⟨z1, z2⟩ := ho w' g' (fun b => if ow' b = some (q ++ p) then some ([] ++ (j :: p)) else none) [] (j :: p) sz s l A n c (.agg _ _ j x u p _ _ hx hu hs)
      refine ⟨z1, fun hh => ?_⟩
      obtain ⟨ad, e1, e2, e3⟩ := z2 hh
      refine ⟨ad, e1, ?_, e3⟩
      by_cases h : ow' ad.block = some (q ++ p)
      · exact h
      · simp only at e2; rw [if_neg h] at e2; cases e2
  · have h1 : v.cells = [v] := by cases v <;> first | rfl | exact absurd ⟨_, rfl⟩ hag
    have hcell : v.isCell = true := by rw [h1] at hall; simpa using hall
    have h2 : r.cells = #[r] := by cases hv <;> first | rfl | simp [TV.isCell] at hcell
    rw [h1, h2]
    refine ⟨rfl, fun j x u hx hu => ?_⟩
    have hj : j = 0 := by
      rcases Nat.eq_zero_or_pos j with h | h
      · exact h
      · rw [List.getElem?_eq_none (by simp; omega)] at hx; cases hx
    subst hj
    simp at hx hu
    subst hx; subst hu
    exact ⟨hcell, hv, ho⟩
/-- What 'fill' lays at a place. -/
def layAt (off : Nat) (cells : Array Value) (vs : Array Value) : Array Value := vs.zipIdx.foldl (fun cs (c, j) => cs.setIfInBounds (off + j) c) cells
theorem layAt_get (off : Nat) (cells vs : Array Value) (h : off + vs.size ≤ cells.size) : (layAt off cells vs).size = cells.size ∧ ∀ j, (layAt off cells vs)[j]? = if off ≤ j ∧ j < off + vs.size then vs[j - off]? else cells[j]? := by
  obtain ⟨l⟩ := vs
  unfold layAt
  rw [← Array.foldl_toList]
  simp only [Array.toList_zipIdx]
  have key : ∀ (l : List Value) (k : Nat) (cs : Array Value), off + k + l.length ≤ cs.size →
      ((l.zipIdx k).foldl (fun cs (x : Value × Nat) => cs.setIfInBounds (off + x.2) x.1) cs).size = cs.size ∧ ∀ j, ((l.zipIdx k).foldl (fun cs (x : Value × Nat) => cs.setIfInBounds (off + x.2) x.1) cs)[j]? = if off + k ≤ j ∧ j < off + k + l.length then l[j - (off + k)]? else cs[j]? := by
    intro l
    induction l with
    | nil => intro k cs h; refine ⟨rfl, fun j => ?_⟩; rw [if_neg (by simp only [List.length_nil]; omega)]; rfl
    | cons v l ih =>
      intro k cs h
      simp only [List.length_cons] at h
      rw [List.zipIdx_cons, List.foldl_cons]
      obtain ⟨h1, h2⟩ := ih (k + 1) (cs.setIfInBounds (off + k) v) (by simp; omega)
      refine ⟨by rw [h1]; simp, fun j => ?_⟩
      rw [h2, Array.getElem?_setIfInBounds]
      simp only [List.length_cons]
      by_cases hj : j = off + k
      · subst hj
        have hlt : off + k < cs.size := by omega
        rw [if_neg (by omega)]
        simp [hlt]
      · by_cases hj2 : off + (k + 1) ≤ j ∧ j < off + (k + 1) + l.length
        · rw [if_pos hj2, if_pos ⟨by omega, by omega⟩]
          rw [show j - (off + k) = (j - (off + (k + 1))) + 1 by omega]
          simp
        · rw [if_neg hj2, if_neg (by omega), if_neg (by omega)]
  have := key l 0 cells (by simpa using h)
  simpa using this
theorem fill_cons {place : Nat → Option (Nat × Nat)} {cells : Array Value} {i : Nat} {v : Value} {rest : List (Nat × Value)} {off n : Nat} (hp : place i = some (off, n)) (hn : v.cells.size = n) (hl : off + n ≤ cells.size) : Instr.fill place cells ((i, v) :: rest) = Instr.fill place (layAt off cells v.cells) rest := by
  have : ¬ (off + v.cells.size > cells.size) := by omega
  simp only [Instr.fill, hp, hn, ne_eq, not_true_eq_false, decide_false, Bool.false_or, decide_eq_true_eq]
  rw [if_neg (by omega)]
  rfl
/-- Parts laid over a struct's zero value. -/
theorem fillP_spec (hI : Inv w g ow st a) {fs : Array Field} {place : Nat → Option (Nat × Nat)} (hplace : ∀ i f n, fs[i]? = some f → szOf P f.type = some n → place i = some (f.offset, n)) :
    ∀ (os : List (Nat × Operand)) (ps : List (Nat × Nat × Src)) (cs cs' : List TV) (cells : Array Value), chkParts P fs os ps = true → fillP st.t ps cs = some cs' →
    cs.length = cells.size → (∀ (j : Nat) (x : TV) (u : Value), cs[j]? = some x → cells[j]? = some u → x.isCell = true ∧ VR w g st.h.length x u ∧ ∀ w' g' ow' q, Owns w' g' ow' q x u) →
    ∃ cells', Instr.fill place cells (os.map fun p => (p.1, a.eval p.2)) = some cells' ∧ cs'.length = cells'.size ∧
      ∀ (j : Nat) (x : TV) (u : Value), cs'[j]? = some x → cells'[j]? = some u → x.isCell = true ∧ VR w g st.h.length x u ∧ ∀ w' g' ow' q, Owns w' g' ow' q x u := by
  intro os
  induction os with
  | nil =>
    intro ps cs cs' cells hc hf hl h
    cases ps <;> simp [chkParts] at hc
    simp [fillP] at hf
    subst hf
    exact ⟨cells, rfl, hl, h⟩
  | cons p os ih =>
    intro ps cs cs' cells hc hf hl h
    obtain ⟨i, y⟩ := p
    cases ps with
    | nil => simp [chkParts] at hc
    | cons q ps =>
      obtain ⟨off, n, x⟩ := q
      simp only [chkParts, Bool.and_eq_true] at hc
      obtain ⟨⟨hc1, hc2⟩, hc3⟩ := hc
      split at hc1
      · rename_i f hf'
        simp at hc1
        obtain ⟨rfl, hsz⟩ := hc1
        simp only [fillP] at hf
        split at hf
        · rename_i v hv
          split at hf
          · rename_i hcond
            obtain ⟨k1, k2, k3⟩ := hcond
            obtain ⟨e1, e2, e3⟩ := ev_spec hI hc2 hv
            obtain ⟨c1, c2⟩ := cellsP e1 k3 e3
            have hfl : f.offset + v.cells.length ≤ cs.length := by omega
            obtain ⟨g1, g2⟩ := layAt_get f.offset cells (a.eval y).cells (by omega)
            obtain ⟨cells', r1, r2, r3⟩ := ih ps (splice cs f.offset v.cells) cs' (layAt f.offset cells (a.eval y).cells) hc3 hf (by rw [splice_len hfl, g1]; exact hl) (fun j x u hx hu => by
              rw [splice_get hfl] at hx
              rw [g2, ← c1] at hu
              split at hx
              · rename_i hj
                rw [if_pos hj] at hu
                exact c2 _ x u hx hu
              · rename_i hj
                rw [if_neg hj] at hu
                exact h j x u hx hu)
            refine ⟨cells', ?_, r2, r3⟩
            rw [List.map_cons, fill_cons (hplace i f n hf' hsz) (show (a.eval y).cells.size = n by omega) (by omega)]
            exact r1
          · cases hf
        · cases hf
      · cases hc1
theorem mapM_places : ∀ (fs : List Field), (∀ f ∈ fs, (szOf P f.type).isSome = true) → fs.mapM (fun f => (P.info? f.type).map fun i => (f.offset, i.size)) = some (fs.map fun f => (f.offset, (szOf P f.type).getD 0))
  | [], _ => rfl
  | f :: fs, h => by
    have h1 := h f (by simp)
    unfold szOf at h1
    cases hi : P.info? f.type with
    | none => rw [hi] at h1; cases h1
    | some i =>
      simp [List.mapM_cons, hi, mapM_places fs (fun f hf => h f (by simp [hf])), szOf]
theorem snd_build {z : List TV} {ps : List (Nat × Nat × Src)} {d : Dl} (hc : chkOp P o.op (.build z ps) = true) (hI : Inv w g ow st a) {call : CallF} (hd : delta call st (.build z ps) = some d) {Q : Exit → Act → World → Prop} :
    o.wp P a w (Nxt w g ow st.h.length (d.ap o.dst st)) Q := by
  cases hop : o.op <;> rw [hop] at hc <;> try (simp [chkOp] at hc; done)
  rename_i t parts
  simp only [chkOp] at hc
  split at hc
  · rename_i fs hfs
    have ht := fields_of hfs
    simp only [Bool.and_eq_true] at hc
    obtain ⟨⟨hz, hall⟩, hps⟩ := hc
    obtain ⟨zv, hzr, ⟨ti, hi, hiz⟩, hcv⟩ := layZ_of hz
    have hall' : ∀ f ∈ fs.toList, (szOf P f.type).isSome = true := fun f hf => by
      have := Array.all_eq_true_iff_forall_mem.1 hall f (by simpa using hf)
      exact this
    simp only [delta] at hd
    split at hd
    · rename_i cs hf
      obtain rfl := Option.some.inj hd
      obtain ⟨k1, k2⟩ := cvals_cells (w := w) (g := g) (m := st.h.length) hcv
      obtain ⟨cells', r1, r2, r3⟩ := fillP_spec (P := P) hI (fs := fs) (place := fun i => (fs.toList.map fun f => (f.offset, (szOf P f.type).getD 0)).toArray[i]?) (fun i f n h1 h2 => by
        simp only [List.getElem?_toArray, List.getElem?_map]
        have : fs.toList[i]? = some f := by simpa using h1
        rw [this]
        simp [h2]) parts.toList ps z cs zv.cells hps hf k1 k2
      have hb : P.built t (parts.map fun (i, x) => (i, a.eval x)).toList = some cells' := by
        unfold Program.built
        rw [hi, ht]
        simp only [hiz, mapM_places fs.toList hall']
        rw [Array.toList_map]
        exact r1
      have hrun := run_build w t _ cells' hb
      refine wp_val (w' := w) (v := .agg cells') ?_ (hI.nx0 o.dst ⟨.agg _ _ r2 (fun j x u hx hu => (r3 j x u hx hu).1) (fun j x u hx hu => (r3 j x u hx hu).2.1), rfl, ?_⟩)
      · unfold execOp; rw [hop]
        simp only [Sem.run_bind, hrun, Result.andThen_ok]; rfl
      · intro w' g' ow' q p sz s l A n c hs
        cases hs with
        | agg _ _ k x v p _ _ hx hv h' =>
          have := (r3 k x v hx hv).2.2 w' g' ow' (q ++ [k]) p sz s l A n c h'
          simpa using this
    · cases hd
  · cases hc
end
end Go.T
