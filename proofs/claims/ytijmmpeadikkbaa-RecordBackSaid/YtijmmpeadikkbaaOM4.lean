/- A part of the proofs: the small machine. -/
import Derived.Test.YtijmmpeadikkbaaOM3
import Derived.Great.BuildSlice
import Derived.Deep.Upon
/- Operations of the small machine: structs and slices that are written out. -/
set_option linter.unusedVariables false
set_option linter.unusedSimpArgs false
set_option maxRecDepth 10000
namespace Go.T
section
variable {P : Program} {w : World} {g : Gh} {ow : Ow} {st : St} {a : Act} {o : Oper} {dst : Option Nat}
/-- The cells of a value that owns nothing. -/
theorem cellsP {m : Nat} {v : TV} {r : Value} (hv : VR w g m v r) (hall : v.cells.all TV.isCell = true) (ho : ∀ w' g' ow' q, Owns w' g' ow' q v r) :
    v.cells.length = r.cells.size ∧ ∀ (j : Nat) (x : TV) (u : Value), v.cells[j]? = some x → r.cells[j]? = some u → x.isCell = true ∧ VR w g m x u ∧ ∀ w' g' ow' q, Owns w' g' ow' q x u := by
  by_cases hag : ∃ cs, v = .agg cs
  · obtain ⟨cs, rfl⟩ := hag
    cases hv with
    | agg _ vs hl h hr =>
      refine ⟨hl, fun j x u hx hu => ⟨h j x u hx hu, hr j x u hx hu, ?_⟩⟩
      intro w' g' ow' q p sz s l A n c hs
      obtain ⟨z1, z2⟩ := ho w' g' (fun b => if ow' b = some (q ++ p) then some ([] ++ (j :: p)) else none) [] (j :: p) sz s l A n c (.agg _ _ j x u p _ _ hx hu hs)
      refine ⟨z1, fun hh => ?_⟩
      obtain ⟨ad, e1, e2, e3⟩ := z2 hh
      refine ⟨ad, e1, ?_, e3⟩
      by_cases h : ow' ad.block = some (q ++ p)
      · exact h
      · simp only at e2; rw [if_neg h] at e2; cases e2
  · have h1 : v.cells = [v] := by cases v <;> first | rfl | exact absurd ⟨_, rfl⟩ hag
    have hcell : v.isCell = true := by rw [h1] at hall; simpa using hall
    have h2 : r.cells = #[r] := by cases hv <;> first | rfl | simp [TV.isCell] at hcell
    rw [h1, h2]
    refine ⟨rfl, fun j x u hx hu => ?_⟩
    have hj : j = 0 := by
      rcases Nat.eq_zero_or_pos j with h | h
      · exact h
      · rw [List.getElem?_eq_none (by simp; omega)] at hx; cases hx
    subst hj
    simp at hx hu
    subst hx; subst hu
    exact ⟨hcell, hv, ho⟩
/-- What 'fill' lays at a place. -/
def layAt (off : Nat) (cells : Array Value) (vs : Array Value) : Array Value := vs.zipIdx.foldl (fun cs (c, j) => cs.setIfInBounds (off + j) c) cells
theorem layAt_get (off : Nat) (cells vs : Array Value) (h : off + vs.size ≤ cells.size) : (layAt off cells vs).size = cells.size ∧ ∀ j, (layAt off cells vs)[j]? = if off ≤ j ∧ j < off + vs.size then vs[j - off]? else cells[j]? := by
  obtain ⟨l⟩ := vs
  unfold layAt
  rw [← Array.foldl_toList]
  simp only [Array.toList_zipIdx]
  have key : ∀ (l : List Value) (k : Nat) (cs : Array Value), off + k + l.length ≤ cs.size →
      ((l.zipIdx k).foldl (fun cs (x : Value × Nat) => cs.setIfInBounds (off + x.2) x.1) cs).size = cs.size ∧ ∀ j, ((l.zipIdx k).foldl (fun cs (x : Value × Nat) => cs.setIfInBounds (off + x.2) x.1) cs)[j]? = if off + k ≤ j ∧ j < off + k + l.length then l[j - (off + k)]? else cs[j]? := by
    intro l
    induction l with
    | nil => intro k cs h; refine ⟨rfl, fun j => ?_⟩; rw [if_neg (by simp only [List.length_nil]; omega)]; rfl
    | cons v l ih =>
      intro k cs h
      simp only [List.length_cons] at h
      rw [List.zipIdx_cons, List.foldl_cons]
      obtain ⟨h1, h2⟩ := ih (k + 1) (cs.setIfInBounds (off + k) v) (by simp; omega)
      refine ⟨by rw [h1]; simp, fun j => ?_⟩
      rw [h2, Array.getElem?_setIfInBounds]
      simp only [List.length_cons]
      by_cases hj : j = off + k
      · subst hj
        have hlt : off + k < cs.size := by omega
        rw [if_neg (by omega)]
        simp [hlt]
      · by_cases hj2 : off + (k + 1) ≤ j ∧ j < off + (k + 1) + l.length
        · rw [if_pos hj2, if_pos ⟨by omega, by omega⟩]
          rw [show j - (off + k) = (j - (off + (k + 1))) + 1 by omega]
          simp
        · rw [if_neg hj2, if_neg (by omega), if_neg (by omega)]
  have := key l 0 cells (by simpa using h)
  simpa using this
theorem fill_cons {place : Nat → Option (Nat × Nat)} {cells : Array Value} {i : Nat} {v : Value} {rest : List (Nat × Value)} {off n : Nat} (hp : place i = some (off, n)) (hn : v.cells.size = n) (hl : off + n ≤ cells.size) : Instr.fill place cells ((i, v) :: rest) = Instr.fill place (layAt off cells v.cells) rest := by
  have : ¬ (off + v.cells.size > cells.size) := by omega
  simp only [Instr.fill, hp, hn, ne_eq, not_true_eq_false, decide_false, Bool.false_or, decide_eq_true_eq]
  rw [if_neg (by omega)]
  rfl
/-- Parts laid over a struct's zero value. -/
theorem fillP_spec (hI : Inv w g ow st a) {fs : Array Field} {place : Nat → Option (Nat × Nat)} (hplace : ∀ i f n, fs[i]? = some f → szOf P f.type = some n → place i = some (f.offset, n)) :
    ∀ (os : List (Nat × Operand)) (ps : List (Nat × Nat × Src)) (cs cs' : List TV) (cells : Array Value), chkParts P fs os ps = true → fillP st.t ps cs = some cs' →
    cs.length = cells.size → (∀ (j : Nat) (x : TV) (u : Value), cs[j]? = some x → cells[j]? = some u → x.isCell = true ∧ VR w g st.h.length x u ∧ ∀ w' g' ow' q, Owns w' g' ow' q x u) →
    ∃ cells', Instr.fill place cells (os.map fun p => (p.1, a.eval p.2)) = some cells' ∧ cs'.length = cells'.size ∧
      ∀ (j : Nat) (x : TV) (u : Value), cs'[j]? = some x → cells'[j]? = some u → x.isCell = true ∧ VR w g st.h.length x u ∧ ∀ w' g' ow' q, Owns w' g' ow' q x u := by
  intro os
  induction os with
  | nil =>
    intro ps cs cs' cells hc hf hl h
    cases ps <;> simp [chkParts] at hc
    simp [fillP] at hf
    subst hf
    exact ⟨cells, rfl, hl, h⟩
  | cons p os ih =>
    intro ps cs cs' cells hc hf hl h
    obtain ⟨i, y⟩ := p
    cases ps with
    | nil => simp [chkParts] at hc
    | cons q ps =>
      obtain ⟨off, n, x⟩ := q
      simp only [chkParts, Bool.and_eq_true] at hc
      obtain ⟨⟨hc1, hc2⟩, hc3⟩ := hc
      split at hc1
      · rename_i f hf'
        simp at hc1
        obtain ⟨rfl, hsz⟩ := hc1
        simp only [fillP] at hf
        split at hf
        · rename_i v hv
          split at hf
          · rename_i hcond
            obtain ⟨k1, k2, k3⟩ := hcond
            obtain ⟨e1, e2, e3⟩ := ev_spec hI hc2 hv
            obtain ⟨c1, c2⟩ := cellsP e1 k3 e3
            have hfl : f.offset + v.cells.length ≤ cs.length := by omega
            obtain ⟨g1, g2⟩ := layAt_get f.offset cells (a.eval y).cells (by omega)
            obtain ⟨cells', r1, r2, r3⟩ := ih ps (splice cs f.offset v.cells) cs' (layAt f.offset cells (a.eval y).cells) hc3 hf (by rw [splice_len hfl, g1]; exact hl) (fun j x u hx hu => by
              rw [splice_get hfl] at hx
              rw [g2, ← c1] at hu
              split at hx
              · rename_i hj
                rw [if_pos hj] at hu
                exact c2 _ x u hx hu
              · rename_i hj
                rw [if_neg hj] at hu
                exact h j x u hx hu)
            refine ⟨cells', ?_, r2, r3⟩
            rw [List.map_cons, fill_cons (hplace i f n hf' hsz) (show (a.eval y).cells.size = n by omega) (by omega)]
            exact r1
          · cases hf
        · cases hf
      · cases hc1
theorem mapM_places : ∀ (fs : List Field), (∀ f ∈ fs, (szOf P f.type).isSome = true) → fs.mapM (fun f => (P.info? f.type).map fun i => (f.offset, i.size)) = some (fs.map fun f => (f.offset, (szOf P f.type).getD 0))
  | [], _ => rfl
  | f :: fs, h => by
    have h1 := h f (by simp)
    unfold szOf at h1
    cases hi : P.info? f.type with
    | none => rw [hi] at h1; cases h1
    | some i =>
      simp [List.mapM_cons, hi, mapM_places fs (fun f hf => h f (by simp [hf])), szOf]
theorem snd_build {z : List TV} {ps : List (Nat × Nat × Src)} {d : Dl} (hc : chkOp P o.op (.build z ps) = true) (hI : Inv w g ow st a) {call : CallF} (hd : delta call st (.build z ps) = some d) {Q : Exit → Act → World → Prop} :
    o.wp P a w (Nxt w g ow st.h.length (d.ap o.dst st)) Q := by
  cases hop : o.op <;> rw [hop] at hc <;> try (simp [chkOp] at hc; done)
  rename_i t parts
  simp only [chkOp] at hc
  split at hc
  · rename_i fs hfs
    have ht := fields_of hfs
    simp only [Bool.and_eq_true] at hc
    obtain ⟨⟨hz, hall⟩, hps⟩ := hc
    obtain ⟨zv, hzr, ⟨ti, hi, hiz⟩, hcv⟩ := layZ_of hz
    have hall' : ∀ f ∈ fs.toList, (szOf P f.type).isSome = true := fun f hf => by
      have := Array.all_eq_true_iff_forall_mem.1 hall f (by simpa using hf)
      exact this
    simp only [delta] at hd
    split at hd
    · rename_i cs hf
      obtain rfl := Option.some.inj hd
      obtain ⟨k1, k2⟩ := cvals_cells (w := w) (g := g) (m := st.h.length) hcv
      obtain ⟨cells', r1, r2, r3⟩ := fillP_spec (P := P) hI (fs := fs) (place := fun i => (fs.toList.map fun f => (f.offset, (szOf P f.type).getD 0)).toArray[i]?) (fun i f n h1 h2 => by
        simp only [List.getElem?_toArray, List.getElem?_map]
        have : fs.toList[i]? = some f := by simpa using h1
        rw [this]
        simp [h2]) parts.toList ps z cs zv.cells hps hf k1 k2
      have hb : P.built t (parts.map fun (i, x) => (i, a.eval x)).toList = some cells' := by
        unfold Program.built
        rw [hi, ht]
        simp only [hiz, mapM_places fs.toList hall']
        rw [Array.toList_map]
        exact r1
      have hrun := run_build w t _ cells' hb
      refine wp_val (w' := w) (v := .agg cells') ?_ (hI.nx0 o.dst ⟨.agg _ _ r2 (fun j x u hx hu => (r3 j x u hx hu).1) (fun j x u hx hu => (r3 j x u hx hu).2.1), rfl, ?_⟩)
      · unfold execOp; rw [hop]
        simp only [Sem.run_bind, hrun, Result.andThen_ok]; rfl
      · intro w' g' ow' q p sz s l A n c hs
        cases hs with
        | agg _ _ k x v p _ _ hx hv h' =>
          have := (r3 k x v hx hv).2.2 w' g' ow' (q ++ [k]) p sz s l A n c h'
          simpa using this
    · cases hd
  · cases hc
end
end Go.T
/- Operations of the small machine: append. -/
set_option linter.unusedVariables false
set_option linter.unusedSimpArgs false
set_option maxRecDepth 10000
namespace Go.T
section
variable {P : Program} {w : World} {g : Gh} {ow : Ow} {st : St} {a : Act} {o : Oper} {dst : Option Nat}
/-- Cells of elements, one behind the other. -/
def Flat (w : World) (g : Gh) (m : Nat) (sz : Nat) (l : List TV) (news : List Value) : Prop :=
  news.length = l.length * sz ∧ ∀ (i : Nat) (e : TV) (j : Nat) (x : TV), l[i]? = some e → e.cells[j]? = some x → x.isElt = true ∧ ∃ u, news[i * sz + j]? = some u ∧ VR w g m x u
theorem idx_lt {n sz k : Nat} (h : k < n * sz) : k / sz < n ∧ k % sz < sz ∧ k / sz * sz + k % sz = k := by
  have hs : 0 < sz := by
    rcases Nat.eq_zero_or_pos sz with h0 | h0
    · subst h0; simp at h
    · exact h0
  refine ⟨Nat.div_lt_of_lt_mul (by rw [Nat.mul_comm]; exact h), Nat.mod_lt _ hs, ?_⟩
  rw [Nat.mul_comm]; exact Nat.div_add_mod k sz
theorem Flat.one {m sz : Nat} {l : List TV} {news : List Value} (h : Flat w g m sz l news) (hw : okW sz l = true) : ∀ u ∈ news, u.oneCell' = true := by
  intro u hu
  obtain ⟨k, hk⟩ := List.getElem?_of_mem hu
  have hlt : k < l.length * sz := by rw [← h.1]; exact (List.getElem?_eq_some_iff.1 hk).1
  obtain ⟨h1, h2, h3⟩ := idx_lt hlt
  have he : l[k / sz]? = some l[k / sz] := by simp [h1]
  have hl := okW_get hw (List.getElem_mem h1)
  have hx : l[k / sz].cells[k % sz]? = some (l[k / sz].cells[k % sz]'(by omega)) := by simp [hl, h2]
  obtain ⟨e1, v, e2, e3⟩ := h.2 _ _ _ _ he hx
  rw [h3, hk] at e2
  obtain rfl := Option.some.inj e2
  exact e3.oneCell (isElt_isCell e1)
/-- A slice's cells. -/
theorem VR.flat2 {m : Nat} {tg : Tag} {l : List TV} {A : Option Addr} {c sz : Nat} (h : VR w g m (.sl tg l) (.slice A l.length c)) (hw : okW sz l = true) (hz : 0 < sz) :
    ∃ news, Flat w g m sz l news ∧ (Builtin.firstCells sz l.length (.slice A l.length c)).run P w = .ok news.toArray w ∧ (Builtin.firstCells sz l.length (.slice A l.length c)).run P w.drew = .ok news.toArray w.drew ∧
      ∀ ad, A = some ad → ∀ (k : Nat) (u : Value), news[k]? = some u → w.cell? (at_ ad.block (ad.off + k)) = some u := by
  cases h with
  | sl _ _ _ _ sz0 vals hz0 hcap hm hA hn hE h hr =>
    cases A with
    | none =>
      have := hn rfl
      subst this
      refine ⟨[], ⟨by simp, by simp⟩, ?_, ?_, by simp⟩
      · exact run_firstCells_none w sz 0 0 c
      · exact run_firstCells_none w.drew sz 0 0 c
    | some ad =>
      by_cases hl0 : l = []
      · subst hl0
        refine ⟨[], ⟨by simp, by simp⟩, ?_, ?_, by simp⟩
        · exact run_firstCells_some w sz 0 ad 0 c [] (by simp) (by simp)
        · exact run_firstCells_some w.drew sz 0 ad 0 c [] (by simp) (by simp)
      obtain ⟨b, off, sp⟩ := ad
      obtain rfl : sp = none := hA _ rfl (by have := List.length_pos_iff.2 hl0; omega)
      have hs : l ≠ [] → sz0 = sz := by
        intro hl
        obtain ⟨e, he⟩ := List.exists_mem_of_ne_nil _ hl
        rw [← hE e he]; exact okW_get hw he
      let news := (List.range (l.length * sz)).map fun k => vals (k / sz) (k % sz)
      have hnl : news.length = l.length * sz := by simp [news]
      have hflat : Flat w g m sz l news := by
        refine ⟨hnl, fun i e j x hi hj => ?_⟩
        have hil : i < l.length := (List.getElem?_eq_some_iff.1 hi).1
        have hjl : j < sz := by have := (List.getElem?_eq_some_iff.1 hj).1; rw [okW_get hw (List.mem_of_getElem? hi)] at this; exact this
        have hlt : i * sz + j < l.length * sz := by
          have : (i + 1) * sz ≤ l.length * sz := Nat.mul_le_mul_right _ hil
          rw [Nat.succ_mul] at this; omega
        have e1 : (i * sz + j) / sz = i := by rw [Nat.mul_comm, Nat.mul_add_div hz, Nat.div_eq_of_lt hjl]; rfl
        have e2 : (i * sz + j) % sz = j := by rw [Nat.mul_comm, Nat.mul_add_mod, Nat.mod_eq_of_lt hjl]
        obtain ⟨k1, k2, k3⟩ := h _ i e j x rfl hi hj
        exact ⟨k1, vals i j, by simp [news, hlt, e1, e2], hr i e j x hi hj⟩
      have hcell : ∀ k u, news[k]? = some u → w.cell? (at_ b (off + k)) = some u := by
        intro k u hk
        have hlt : k < l.length * sz := by rw [← hnl]; exact (List.getElem?_eq_some_iff.1 hk).1
        obtain ⟨h1, h2, h3⟩ := idx_lt hlt
        have he : l[k / sz]? = some l[k / sz] := by simp [h1]
        have hne : l ≠ [] := by rintro rfl; simp at h1
        have hl := okW_get hw (List.getElem_mem h1)
        obtain ⟨_, _, k3⟩ := h _ (k / sz) _ (k % sz) (l[k / sz].cells[k % sz]'(by omega)) rfl he (by simp [hl, h2])
        simp [news, hlt] at hk
        rw [hs hne, h3] at k3
        rw [k3, hk]
      refine ⟨news, hflat, ?_, ?_, fun ad had k u hk => by cases had; exact hcell k u hk⟩
      · exact run_firstCells_some w sz l.length (at_ b off) l.length c news hnl (fun k u hk => by rw [at_add]; exact hcell k u hk)
      · exact run_firstCells_some w.drew sz l.length (at_ b off) l.length c news hnl (fun k u hk => by rw [at_add]; simpa using hcell k u hk)
theorem VR.flat {m : Nat} {tg : Tag} {l : List TV} {A : Option Addr} {c sz : Nat} (h : VR w g m (.sl tg l) (.slice A l.length c)) (hw : okW sz l = true) (hz : 0 < sz) :
    ∃ news, Flat w g m sz l news ∧ (Builtin.firstCells sz l.length (.slice A l.length c)).run P w = .ok news.toArray w ∧ (Builtin.firstCells sz l.length (.slice A l.length c)).run P w.drew = .ok news.toArray w.drew := by
  obtain ⟨news, h1, h2, h3, _⟩ := VR.flat2 (P := P) h hw hz
  exact ⟨news, h1, h2, h3⟩
/-- The elements of whatever slice. -/
theorem els_flat (hI : Inv w g ow st a) {x : TV} {v : Value} {l : List TV} {sz : Nat} (hv : VR w g st.h.length x v) (hl : elS st.h x = some l) (hw : okW sz l = true) (hz : 0 < sz) :
    ∃ A c news, v = .slice A l.length c ∧ Flat w g st.h.length sz l news ∧ (Builtin.firstCells sz l.length v).run P w = .ok news.toArray w ∧ (Builtin.firstCells sz l.length v).run P w.drew = .ok news.toArray w.drew ∧
      (∀ ad, A = some ad → (0 < c → ad.spot = none) ∧ ∀ (k : Nat) (u : Value), news[k]? = some u → w.cell? (at_ ad.block (ad.off + k)) = some u) ∧ (A = none → l = []) ∧ l.length ≤ c := by
  obtain ⟨A, c, g', rfl, h1, h2⟩ := els_sl hI.box hI.bd hv hl
  obtain ⟨news, f1, f2, f3, f4⟩ := VR.flat2 (P := P) h1 hw hz
  have hA : (∀ ad, A = some ad → 0 < c → ad.spot = none) ∧ (A = none → l = []) ∧ l.length ≤ c := by
    cases h1 with
    | sl _ _ _ _ _ _ _ hc _ hA hn _ _ _ => exact ⟨hA, hn, hc⟩
  refine ⟨A, c, news, rfl, ⟨f1.1, fun i e j y hi hj => ?_⟩, f2, f3, fun ad had => ⟨hA.1 ad had, f4 ad had⟩, hA.2.1, hA.2.2⟩
  obtain ⟨k1, u, k2, k3⟩ := f1.2 i e j y hi hj
  refine ⟨k1, u, k2, ?_⟩
  cases hA' : A with
  | none => rw [hA.2.1 hA'] at hi; simp at hi
  | some ad => exact h2 i e j y ad u sz hA' hi (okW_get hw (List.mem_of_getElem? hi)) hj (f4 ad hA' _ u k2)
/-- A slice whose cells are there, and never change. -/
theorem VR.ofFlat {m : Nat} (tg : Tag) {l : List TV} {b off c sz : Nat} {news : List Value} (hf : Flat w g m sz l news) (hw : okW sz l = true) (hz : 0 < sz) (hc : l.length ≤ c) (hm : l.length ≤ 9223372036854775807)
    (hcell : ∀ k u, news[k]? = some u → off + k < g.imm b ∧ w.cell? (at_ b (off + k)) = some u) : VR w g m (.sl tg l) (.slice (some (at_ b off)) l.length c) := by
  refine .sl _ _ _ _ sz (fun i j => news.getD (i * sz + j) undef) hz hc hm (fun ad h _ => by cases h; rfl) (by simp) (fun e he => okW_get hw he) (fun ad i e j x h hi hj => ?_) (fun i e j x hi hj => ?_)
  · cases h
    obtain ⟨k1, u, k2, k3⟩ := hf.2 i e j x hi hj
    obtain ⟨z1, z2⟩ := hcell _ u k2
    refine ⟨k1, z1, ?_⟩
    simp only [List.getD_eq_getElem?_getD, k2, Option.getD_some]
    exact z2
  · obtain ⟨k1, u, k2, k3⟩ := hf.2 i e j x hi hj
    simp only [List.getD_eq_getElem?_getD, k2, Option.getD_some]
    exact k3
theorem Flat.append {m sz : Nat} {l l2 : List TV} {n1 n2 : List Value} (h1 : Flat w g m sz l n1) (h2 : Flat w g m sz l2 n2) (hw : okW sz l = true) (hw2 : okW sz l2 = true) : Flat w g m sz (l ++ l2) (n1 ++ n2) := by
  refine ⟨by rw [List.length_append, List.length_append, h1.1, h2.1, Nat.add_mul], fun i e j x hi hj => ?_⟩
  rw [List.getElem?_append] at hi
  split at hi
  · rename_i hil
    obtain ⟨k1, u, k2, k3⟩ := h1.2 i e j x hi hj
    refine ⟨k1, u, ?_, k3⟩
    rw [List.getElem?_append_left (List.getElem?_eq_some_iff.1 k2).1]
    exact k2
  · rename_i hil
    obtain ⟨k1, u, k2, k3⟩ := h2.2 _ e j x hi hj
    refine ⟨k1, u, ?_, k3⟩
    rw [List.getElem?_append_right (by
      rw [h1.1]
      have : l.length * sz ≤ i * sz := Nat.mul_le_mul_right _ (by omega)
      omega)]
    rw [h1.1]
    have : i * sz + j - l.length * sz = (i - l.length) * sz + j := by
      rw [Nat.sub_mul]
      have : l.length * sz ≤ i * sz := Nat.mul_le_mul_right _ (by omega)
      omega
    rw [this]
    exact k2
theorem Flat.mono {w' : World} {g' : Gh} {ow' : Ow} {m m' sz : Nat} {l : List TV} {n : List Value} (h : Flat w g m sz l n) (hs : Stp w g ow m w' g' ow') (hm : m ≤ m') : Flat w' g' m' sz l n :=
  ⟨h.1, fun i e j x hi hj => by
    obtain ⟨k1, u, k2, k3⟩ := h.2 i e j x hi hj
    exact ⟨k1, u, k2, k3.mono hs hm⟩⟩
theorem okW_append {sz : Nat} {l l2 : List TV} (h : okW sz l = true) (h2 : okW sz l2 = true) : okW sz (l ++ l2) = true := by
  unfold okW at *
  rw [List.all_append, h, h2]; rfl
theorem flat_bytes {m : Nat} (s : ByteArray) : Flat w g m 1 (ofBytes s) (byteCells s) ∧ okW 1 (ofBytes s) = true ∧ (ofBytes s).length = s.size := by
  have hlen : (ofBytes s).length = s.size := by unfold ofBytes; rw [List.length_map, Array.length_toList]; rfl
  refine ⟨⟨by rw [byteCells_length, hlen, Nat.mul_one], fun i e j x hi hj => ?_⟩, ?_, hlen⟩
  · unfold ofBytes at hi
    obtain ⟨b, hb, rfl⟩ := getElem?_map_some hi
    have hj0 : j = 0 := by
      rcases Nat.eq_zero_or_pos j with h | h
      · exact h
      · rw [List.getElem?_eq_none (by simp [TV.cells]; omega)] at hj; cases hj
    subst hj0
    simp [TV.cells] at hj
    subst hj
    refine ⟨rfl, .int .u8 b.toNat, ?_, .int _ _⟩
    simp only [byteCells, Nat.mul_one, Nat.add_zero, List.getElem?_map, hb, Option.map_some]
  · exact List.all_eq_true.2 (fun e he => by obtain ⟨b, _, rfl⟩ := List.mem_map.1 he; rfl)
/-- Nobody holds the place that is put aside. -/
theorem Inv.scratch (hI : Inv w g ow st a) (q' : List Nat) (k : Nat) : Inv w g (mvO ow [4] (k :: q')) st a where
  defers := hI.defers
  len := hI.len
  base := hI.base
  bd := mvO_bd hI.bd
  box j cs hj := fun hdd => (hI.box j cs hj hdd).reow (fun b p hb => mvO_far hb (by simp [List.isPrefixOf]))
  slot j := by
    have hj := hI.slot j
    have hk : ∀ b p, ow b = some ([0, j] ++ p) → mvO ow [4] (k :: q') b = some ([0, j] ++ p) := fun b p hb => mvO_far hb (by simp [List.isPrefixOf])
    generalize sl st.t j = x at hj ⊢
    cases x <;> first | exact ⟨hj.1, hj.2.mono (fun b p hb => ⟨rfl, rfl, by rw [hb]; exact hk b p hb⟩)⟩ | skip
    case lbox cs =>
      obtain ⟨b, h1, h2⟩ := hj
      exact ⟨b, h1, h2.reow hk⟩
    case lp b o => exact hj
/-- What is taken is put aside. -/
theorem Inv.aside (hI : Inv w g ow st a) {x : TV} {v : Value} {is : List Nat} (hx : plainV x = true)
    (ho : (is = [] ∧ ∀ w' g' ow' q, Owns w' g' ow' q x v) ∨ ∃ i, is = [i] ∧ x = sl st.t i ∧ Owns w g ow [0, i] x v) :
    ∃ ow1, Inv w g ow1 { st with t := downs is st.t } a ∧ Stp w g ow st.h.length w g ow1 ∧ Owns w g ow1 [4] x v := by
  rcases ho with ⟨rfl, ho⟩ | ⟨i, rfl, hxi, ho⟩
  · exact ⟨ow, ⟨hI.defers, hI.len, hI.slot, hI.box, hI.bd, hI.base⟩, hI.refl, ho _ _ _ _⟩
  · have hp : plainV (sl st.t i) = true := hxi ▸ hx
    have h1 := hI.down i hp
    have hsl : ∀ j, sl (st.t.set i (sl st.t i).shrT) j = if i = j ∧ j < st.t.length then (sl st.t i).shrT else sl st.t j := fun j => sl_set _ _ _ _
    have hpi : plainV (sl (st.t.set i (sl st.t i).shrT) i) = true := by
      rw [hsl]; split
      · exact plain_shrT _ hp
      · exact hp
    have hpoor : ∀ ow', Owns w g ow' [0, i] (sl (st.t.set i (sl st.t i).shrT) i) (a.tmps.getD i undef) := by
      intro ow'
      rw [hsl]
      split
      · exact (hI.plain hp).1.owns_shrT
      · rename_i hn
        have hlt : ¬ i < st.t.length := fun h => hn ⟨rfl, h⟩
        have : sl st.t i = .junk := by simp [sl, List.getElem?_eq_none (Nat.le_of_not_lt hlt)]
        rw [this]
        intro p sz s l A n c hs
        cases hs
    exact ⟨mvO ow [0, i] [4], h1.free i 4 [] hpi hpoor, Stp.free hI.bd [0, i] 4 [] (by simp) (by simp) (by decide), ho.move (fun b p hb => ⟨rfl, rfl, mvO_at hb⟩)⟩
theorem setCells_cell {b : Nat} {us : List Value} {o : Nat} {vs : Array Value} {ty : TypeId} {fr : Nat × Nat} (h : RowOf w b vs ty fr) (hl : o + us.length ≤ vs.size) (j : Nat) : (w.setCells b o us).cell? (at_ b j) = if o ≤ j ∧ j < o + us.length then us[j - o]? else vs[j]? := by
  obtain ⟨vs', h1, h2, h3⟩ := setCells_row us o w vs ty fr h hl
  rw [cell_of_row h1, h3]
/-- append, of whatever source. -/
theorem app_run (hI : Inv w g ow st a) {t u e : TypeId} {sz bytes : Nat} (ht : P.underlying t = some (.slice e)) (hu : (∃ e', P.underlying u = some (.slice e')) ∨ P.underlying u = some .string) (hs : szOf P e = some sz) (hz : 0 < sz) (hby : byOf P e = some bytes)
    {zv : Value} (hzv : zeOf P e = some zv) (hzs : zv.cells.size = sz) (ty : TypeId)
    {l l2 : List TV} {sb : Bool} {is : List Nat} {rx ry : Value} (hx : VR w g st.h.length (.sl (.own sz sb) l) rx) {xv : TV} (hpx : plainV xv = true)
    (hox : (is = [] ∧ ∀ w' g' ow' q, Owns w' g' ow' q xv rx) ∨ ∃ i, is = [i] ∧ xv = sl st.t i ∧ Owns w g ow [0, i] xv rx) (hcv : ∀ ow', Owns w g ow' [4] xv rx → Owns w g ow' [4] (.sl (.own sz sb) l) rx)
    (hw1 : okW sz l = true) (hw2 : okW sz l2 = true) {news : List Value} (hsrc : _root_.Go.Src P sz u ry l2.length news w) (hfl : Flat w g st.h.length sz l2 news)
    (hb : (l.length + l2.length) * bytes ≤ roomB) (hb2 : l.length + l2.length ≤ roomB) (dst : Option Nat) :
    ∃ rv w' g' ow', (Builtin.append_ #[t, u] ty #[rx, ry]).run P w = .ok rv w' ∧ Stp w g ow st.h.length w' g' ow' ∧ Inv w' g' ow' (({ v := .sl (.own sz false) (l ++ l2), tk := is } : Dl).ap dst st) (a.put dst rv) := by
  obtain ⟨ti, hi, hisz⟩ := info_of hs
  have hiby : ti.bytes = bytes := by unfold byOf at hby; rw [hi] at hby; simpa using hby
  have hiz : ti.zero = some zv := by unfold zeOf at hzv; rw [hi] at hzv; simpa using hzv
  have hsrc' : _root_.Go.Src P ti.size u ry l2.length news w := by rw [hisz]; exact hsrc
  obtain ⟨ow1, h1, h2, h3'⟩ := hI.aside hpx hox
  have h3 := hcv ow1 h3'
  obtain ⟨dd, hdd⟩ : ∃ dd, dd = dst.getD 0 := ⟨_, rfl⟩
  have hm : (l ++ l2).length ≤ 9223372036854775807 := by rw [List.length_append]; unfold roomB at hb2; omega
  -- how it ends: the value lies there, the place is the slot's
  have fin : ∀ (rv : Value) (w' : World) (g' : Gh) (ow2 : Ow), (Builtin.append_ #[t, u] ty #[rx, ry]).run P w = .ok rv w' → Stp w g ow1 st.h.length w' g' ow2 → Inv w' g' ow2 { st with t := downs is st.t } a →
      VR w' g' st.h.length (.sl (.own sz false) (l ++ l2)) rv → Owns w' g' ow2 [4] (.sl (.own sz false) (l ++ l2)) rv →
      ∃ rv w' g' ow', (Builtin.append_ #[t, u] ty #[rx, ry]).run P w = .ok rv w' ∧ Stp w g ow st.h.length w' g' ow' ∧ Inv w' g' ow' (({ v := .sl (.own sz false) (l ++ l2), tk := is } : Dl).ap dst st) (a.put dst rv) := by
    intro rv w' g' ow2 hrun hstp hinv hvr hown
    have h4 := hinv.scratch [dd] 0
    have h5 := Stp.free (w := w') (g := g') (m := st.h.length) hinv.bd [4] 0 [dd] (by simp) (by simp) (by decide)
    refine ⟨rv, w', g', mvO ow2 [4] [0, dd], hrun, (h2.trans hstp (Nat.le_refl _)).trans h5 (Nat.le_refl _), ?_⟩
    cases hdst : dst with
    | none => exact ⟨h4.defers, h4.len, h4.slot, h4.box, h4.bd, h4.base⟩
    | some i =>
      obtain rfl : dd = i := by rw [hdd, hdst]; rfl
      exact h4.put dd rfl hvr (hown.move (fun b p hb => ⟨rfl, rfl, mvO_at hb⟩))
  have hx' := hx
  cases hx with
  | sl _ _ A c sz0 vals hz0 hcap hmx hA hn hE hh hr =>
    have hlen : (l ++ l2).length = l.length + l2.length := List.length_append
    by_cases hk0 : l2.length = 0
    · -- nothing is appended
      have hl2 : l2 = [] := List.eq_nil_of_length_eq_zero hk0
      subst hl2
      have hnews : news = [] := List.eq_nil_of_length_eq_zero (by rw [hfl.1]; simp)
      subst hnews
      have hrun := run_append_nothing (P := P) w t u ty e ti ht hi A l.length c hcap ry hsrc'
      refine fin _ w g ow1 hrun (Stp.refl w g ow1 _ h1.bd) h1 (by rw [List.append_nil]; exact .sl _ l A c sz0 vals hz0 hcap hmx hA hn hE hh hr) ?_
      rw [List.append_nil]
      intro p sz' s l' A' n' c' hsb
      cases hsb
      obtain ⟨z1, z2⟩ := h3 [] sz sb l A l.length c (.here _ _)
      exact ⟨z1, fun hh => z2 (.inl (by rcases hh with hh | hh; exact hh; cases hh))⟩
    · by_cases hroom : l.length + l2.length ≤ c
      · -- there is room
        obtain ⟨z1, z2⟩ := h3 [] sz sb l A l.length c (.here _ _)
        obtain ⟨ad, rfl, hoa, vs, ty2, fr, r1, r2, r3, r4⟩ := z2 (.inl (by omega))
        obtain ⟨b, off, sp⟩ := ad
        obtain rfl : sp = none := hA _ rfl (by omega)
        simp only [List.append_nil] at hoa
        have r2' : g.imm b = off + l.length * sz := r2
        have r3' : off + c * sz ≤ vs.size := r3
        have hnl : news.length = l2.length * sz := hfl.1
        have hcs : off + (l.length + l2.length) * sz ≤ vs.size := by
          have : (l.length + l2.length) * sz ≤ c * sz := Nat.mul_le_mul_right _ hroom
          omega
        have hadd : (l.length + l2.length) * sz = l.length * sz + l2.length * sz := Nat.add_mul _ _ _
        have hrun := run_append_room_src (P := P) w t u ty e ti ht hi b off l.length c ry l2.length news hsrc' hroom (fun j hj => by
            rw [hisz, show (⟨b, off + l.length * sz + j, none⟩ : Addr) = at_ b (off + l.length * sz + j) from rfl, cell_of_row r1]
            simp; omega) (fun j hj => by
            rw [hisz]
            exact NF_frozen r1 r4 (by omega))
        rw [hisz] at hrun
        have hstp := Stp.write (g := g) (m := st.h.length) h1.bd hoa (by simp) r1 (k := off + l.length * sz) (us := news) (by omega) (by omega) (off + (l.length + l2.length) * sz) (.inr (by omega))
        have hinv : Inv (w.setCells b (off + l.length * sz) news) { g with imm := fun c => if c = b then off + (l.length + l2.length) * sz else g.imm c } ow1 { st with t := downs is st.t } a := by
          refine h1.mono hstp (fun b' q hb' hq => ?_) (fun b' q hb' => by rw [(setCells_same _ _ _).2.2.2]; exact h1.bd b' q hb')
          have hne : b' ≠ b := by
            rintro rfl
            rw [hoa] at hb'
            obtain rfl := Option.some.inj hb'
            simp at hq
          exact ⟨setCells_other hne _ _ _, by simp [hne], rfl⟩
        obtain ⟨olds, f1, f2, f3⟩ := hx'.flat (P := P) hw1 hz
        have hf2 := (f1.append hfl hw1 hw2).mono hstp (Nat.le_refl _)
        have hold : olds.length = l.length * sz := f1.1
        have hcell : ∀ k u', (olds ++ news)[k]? = some u' → off + k < off + (l.length + l2.length) * sz ∧ (w.setCells b (off + l.length * sz) news).cell? (at_ b (off + k)) = some u' := by
          intro k u' hk
          have hkl : k < (olds ++ news).length := (List.getElem?_eq_some_iff.1 hk).1
          rw [List.length_append] at hkl
          refine ⟨by omega, ?_⟩
          rw [setCells_cell r1 (by omega)]
          rw [List.getElem?_append] at hk
          split at hk
          · rename_i hlt
            rw [if_neg (by omega)]
            -- an old cell
            obtain ⟨i1, i2, i3⟩ := idx_lt (n := l.length) (sz := sz) (k := k) (by omega)
            have he : l[k / sz]? = some l[k / sz] := by simp [i1]
            have hl' := okW_get hw1 (List.getElem_mem i1)
            have hxx : l[k / sz].cells[k % sz]? = some (l[k / sz].cells[k % sz]'(by omega)) := by simp [hl', i2]
            have hs0 : sz0 = sz := by rw [← hE _ (List.getElem_mem i1)]; exact hl'
            subst hs0
            obtain ⟨k1, k2, k3⟩ := hh _ _ _ _ _ rfl he hxx
            obtain ⟨_, v', e2, e3⟩ := f1.2 _ _ _ _ he hxx
            simp only [i3] at k2 k3 e2
            rw [cell_of_row r1] at k3
            rw [k3]
            -- what the flat list has is what memory has
            have hfc := f2
            rw [run_firstCells_some w sz0 l.length (at_ b off) l.length c ((vs.toList.drop off).take (l.length * sz0)) (by simp; have : l.length * sz0 ≤ c * sz0 := Nat.mul_le_mul_right _ hcap; omega) (fun j v hj => by
              rw [at_add, cell_of_row r1]
              rw [List.getElem?_take] at hj
              split at hj
              · rw [List.getElem?_drop] at hj; simpa using hj
              · cases hj)] at hfc
            have hol : (vs.toList.drop off).take (l.length * sz0) = olds := by simpa using hfc
            rw [← hol, List.getElem?_take, if_pos (by omega), List.getElem?_drop] at hk
            have : vs[off + k]? = some u' := by simpa using hk
            rw [← this, k3]
          · rename_i hge
            rw [if_pos (by omega)]
            rw [← hk, hold]
            congr 1; omega
        refine fin _ _ _ ow1 hrun hstp hinv ?_ ?_
        · have := VR.ofFlat (w := w.setCells b (off + l.length * sz) news) (g := { g with imm := fun c => if c = b then off + (l.length + l2.length) * sz else g.imm c }) (m := st.h.length) (.own sz false) (b := b) (off := off) (c := c) hf2 (okW_append hw1 hw2) hz (by rw [hlen]; exact hroom) hm (fun k u' hk => by
            obtain ⟨q1, q2⟩ := hcell k u' hk
            exact ⟨by simp only [if_true]; exact q1, q2⟩)
          rw [hlen] at this
          exact this
        · intro p sz' s l' A' n' c' hsb
          cases hsb
          refine ⟨hz, fun _ => ⟨_, rfl, by simpa using hoa, ?_⟩⟩
          obtain ⟨vs', s1, s2, s3⟩ := setCells_row news (off + l.length * sz) w vs ty2 fr r1 (by omega)
          exact ⟨vs', ty2, fr, s1, by simp, by rw [s2]; exact r3, by rw [s2]; exact r4⟩
      · -- a new row
        obtain ⟨olds, f1, f2, f3⟩ := hx'.flat (P := P) hw1 hz
        have hgrow : c < l.length + l2.length := by omega
        have h63 : ((l.length + l2.length : Nat) : Int) ≤ 9223372036854775807 := by unfold roomB at hb2; omega
        have hfit : Builtin.nextslicecap (l.length + l2.length) c * ti.bytes ≤ 281474976710656 := growslice_fits hgrow (by rw [hiby]; unfold roomB at hb; exact hb)
        have hrun := run_append_grow_src (P := P) w t u ty e ti zv ht hi hiz A l.length c olds (by rw [hisz]; exact f3) ry l2.length news hsrc' hgrow h63 hfit
        obtain ⟨nc, hnc⟩ : ∃ nc, nc = grownCap w (l.length + l2.length) c e := ⟨_, rfl⟩
        have hge := grownCap_ge w (l.length + l2.length) c e
        rw [← hnc] at hrun hge
        obtain ⟨cells, hcells⟩ : ∃ cells, cells = (olds ++ news).toArray ++ Builtin.zeroCells zv.cells (nc - (l.length + l2.length)) := ⟨_, rfl⟩
        rw [← hcells] at hrun
        have hsize : cells.size = nc * sz := by
          rw [hcells]
          simp only [Array.size_append, List.size_toArray, List.length_append, Builtin.zeroCells, Array.size_map, Array.size_range, hzs]
          rw [f1.1, hfl.1, ← Nat.add_mul, ← Nat.add_mul]
          congr 1; omega
        have hheap : (w.drew.alloc (.cells cells e)).heap = w.heap.push (.cells cells e) := rfl
        have hstp : Stp w g ow1 st.h.length (w.drew.alloc (.cells cells e)) (gPush g w.heap.size ((l.length + l2.length) * sz)) (oPush ow1 w.heap.size [4]) :=
          Stp.push h1.bd hheap rfl rfl rfl (fun b hb => gPush_imm hb) (fun _ _ => rfl) (fun b hb => by simp [oPush, hb]) (fun q => by simp [oPush])
        have hinv := h1.push hstp hheap (fun b hb => gPush_imm hb) (fun b hb => by simp [oPush, hb])
        have hf2 := (f1.append hfl hw1 hw2).mono hstp (Nat.le_refl _)
        refine fin _ _ _ _ hrun hstp hinv ?_ ?_
        · have := VR.ofFlat (w := w.drew.alloc (.cells cells e)) (g := gPush g w.heap.size ((l.length + l2.length) * sz)) (m := st.h.length) (.own sz false) (b := w.heap.size) (off := 0) (c := nc) hf2 (okW_append hw1 hw2) hz (by rw [hlen]; exact hge) hm (fun k u' hk => by
            have hkl : k < (olds ++ news).length := (List.getElem?_eq_some_iff.1 hk).1
            have hkl' := hkl
            rw [List.length_append, f1.1, hfl.1, ← Nat.add_mul] at hkl
            refine ⟨by simp [gPush]; exact hkl, ?_⟩
            rw [Nat.zero_add, cell_of_row (row_push hheap), hcells, Array.getElem?_append]
            simp only [List.size_toArray]
            rw [if_pos hkl']
            simpa using hk)
          rw [hlen] at this
          exact this
        · intro p sz' s l' A' n' c' hsb
          cases hsb
          refine ⟨hz, fun _ => ⟨_, rfl, by simp [oPush], ?_⟩⟩
          exact ⟨cells, e, (0, 0), row_push hheap, by simp [gPush], by simp only [Nat.zero_add]; omega, NF_zero _⟩
end
end Go.T
/- Operations of the small machine: append, literals, conversions. -/
set_option linter.unusedVariables false
set_option linter.unusedSimpArgs false
set_option maxRecDepth 10000
namespace Go.T
section
variable {P : Program} {w : World} {g : Gh} {ow : Ow} {st : St} {a : Act} {o : Oper} {dst : Option Nat}
theorem nils_own {m sz : Nat} (hz : 0 < sz) {v : Value} (h : VR w g m .nils v) : VR w g m (.sl (.own sz false) []) v ∧ ∀ w' g' ow' q, Owns w' g' ow' q (.sl (.own sz false) []) v := by
  cases h with
  | nils A hA =>
    refine ⟨.sl _ [] A 0 1 (fun _ _ => default) (by decide) (by simp) (by simp) hA (fun _ => rfl) (by simp) (by simp) (by simp), fun w' g' ow' q p sz' s l A' n c hs => ?_⟩
    cases hs
    exact ⟨hz, by simp⟩
/-- What is appended, or copied. -/
theorem src_spec (hI : Inv w g ow st a) {u : TypeId} {sz : Nat} {y : Src} {q : Operand} (hkind : (∃ e', P.underlying u = some (.slice e')) ∨ P.underlying u = some .string) (hc : chkS q y = true) {l2 : List TV} (hy : srcS st.h sz (ev st.t y) = some l2) (hw : okW sz l2 = true) (hz : 0 < sz) :
    ∃ news, _root_.Go.Src P sz u (a.eval q) l2.length news w ∧ Flat w g st.h.length sz l2 news := by
  unfold srcS at hy
  split at hy
  · rename_i s hs
    split at hy
    · rename_i hsz
      subst hsz
      obtain rfl := Option.some.inj hy
      have h2 := (ev_spec hI hc hs).1.str_inv
      obtain ⟨b1, b2, b3⟩ := flat_bytes (w := w) (g := g) (m := st.h.length) s
      refine ⟨byteCells s, ?_, b1⟩
      rw [h2, b3]
      exact ⟨hkind, fun w' => rfl, firstCells_string s w, firstCells_string s w.drew, by rw [byteCells_length, Nat.mul_one], b1.one b2⟩
    · cases hy
  · rename_i v hns hv
    obtain ⟨A, c, news, h1, f1, f2, f3, _⟩ := els_flat (P := P) hI (ev_spec hI hc hv).1 hy hw hz
    refine ⟨news, ?_, f1⟩
    rw [h1] at f2 f3 ⊢
    exact ⟨hkind, fun w' => rfl, f2, f3, f1.1, f1.one hw⟩
  · cases hy
theorem snd_app {tk : Bool} {sz bytes : Nat} {x y : Src} {d : Dl} (hc : chkOp P o.op (.app tk sz bytes x y) = true) (hI : Inv w g ow st a) {call : CallF} (hd : delta call st (.app tk sz bytes x y) = some d) {Q : Exit → Act → World → Prop} :
    o.wp P a w (Nxt w g ow st.h.length (d.ap o.dst st)) Q := by
  cases hop : o.op <;> rw [hop] at hc <;> try (simp [chkOp] at hc; done)
  rename_i cl
  obtain ⟨cal, as, ts⟩ := cl
  cases cal <;> try (simp [chkOp] at hc; done)
  rename_i bu
  cases bu <;> simp only [chkOp] at hc <;> try (cases hc; done)
  split at hc
  · rename_i p q t u has hts
    obtain rfl : as = #[p, q] := Array.toList_inj.1 has
    obtain rfl : ts = #[t, u] := Array.toList_inj.1 hts
    simp only [Bool.and_eq_true] at hc
    obtain ⟨⟨⟨hce, c1⟩, c2⟩, c3⟩ := hc
    split at hce
    · rename_i e he
      have ht := elem_of he
      simp only [Bool.and_eq_true, decide_eq_true_eq] at hce
      obtain ⟨⟨⟨⟨hs, hz⟩, hby⟩, hb0⟩, hzv⟩ := hce
      split at hzv
      · rename_i zv hze
        have hzs : zv.cells.size = sz := by simpa using hzv
        have hkind : (∃ e', P.underlying u = some (.slice e')) ∨ P.underlying u = some .string := by
          simp only [Bool.or_eq_true] at c3
          rcases c3 with c3 | c3
          · exact .inr (isStr_of c3)
          · obtain ⟨e', he'⟩ := some_of c3
            exact .inl ⟨e', elem_of he'⟩
        simp only [delta] at hd
        split at hd
        · rename_i n sb l is l2 e1 e2
          split at hd
          · rename_i hcond
            obtain ⟨rfl, k1, k2, k3, k4⟩ := hcond
            obtain rfl := Option.some.inj hd
            obtain ⟨news, f1, f2⟩ := src_spec (P := P) hI hkind c2 e2 k1 hz
            obtain ⟨v1, v2, v3⟩ := tak_spec hI c1 e1
            obtain ⟨rv, w', g', ow', r1, r2, r3⟩ := app_run (P := P) hI ht hkind hs hz hby hze hzs o.type v1 v2 v3 (fun _ h => h) k2 k1 f1 f2 k3 k4 o.dst
            refine wp_val (w' := w') (v := rv) ?_ ⟨g', ow', r2, r3⟩
            unfold execOp; rw [hop]
            simp [resolve, invoke, builtin, r1]
          · cases hd
        · rename_i is l2 e1 e2
          split at hd
          · rename_i hcond
            obtain ⟨k1, k3, k4⟩ := hcond
            obtain rfl := Option.some.inj hd
            obtain ⟨news, f1, f2⟩ := src_spec (P := P) hI hkind c2 e2 k1 hz
            obtain ⟨v1, v2, v3⟩ := tak_spec hI c1 e1
            obtain ⟨n1, n2⟩ := nils_own (sz := sz) hz v1
            obtain ⟨rv, w', g', ow', r1, r2, r3⟩ := app_run (P := P) hI ht hkind hs hz hby hze hzs o.type (l := []) (sb := false) n1 v2 v3 (fun _ _ => n2 _ _ _ _) rfl k1 f1 f2 (by simpa using k3) (by simpa using k4) o.dst
            refine wp_val (w' := w') (v := rv) ?_ ⟨g', ow', r2, r3⟩
            unfold execOp; rw [hop]
            simp [resolve, invoke, builtin, r1]
          · cases hd
        · cases hd
      · cases hzv
    · cases hce
  · cases hc
theorem push_modify {xs : Array Obj} {x : Obj} {f : Obj → Obj} : (xs.push x).modify xs.size f = xs.push (f x) := by
  apply Array.ext_getElem?
  intro i
  rw [Array.getElem?_modify, Array.getElem?_push, Array.getElem?_push]
  by_cases h : i = xs.size
  · subst h; simp
  · rw [if_neg (fun e => h e.symm), if_neg h, if_neg h]
theorem run_s2b (e : TypeId) (s : ByteArray) : ∃ w' c, (Conv.stringToBytes e s).run P w = .ok (.slice (some (at_ w.heap.size 0)) s.size c) w' ∧ s.size ≤ c ∧ w'.os = w.os ∧ w'.tape = w.tape ∧ w'.output = w.output ∧
    w'.heap = w.heap.push (.cells ((byteCells s).toArray ++ Array.replicate (c - s.size) (.int .u8 0)) e (c, c + 1)) := by
  obtain ⟨c, hc⟩ : ∃ c, c = (Question.appendCap s.size 0 e).cut (w.tape w.drawn (.appendCap s.size 0 e)) := ⟨_, rfl⟩
  have hge : s.size ≤ c := by rw [hc]; simp [Question.cut]
  have hsz : ((byteCells s).toArray ++ Array.replicate (c - s.size) (Value.int .u8 0)).size = c := by
    simp [byteCells_length]; omega
  have hb : (s.data.map fun b => Value.int .u8 b.toNat) = (byteCells s).toArray := by
    apply Array.ext'; simp [byteCells]
  refine ⟨{ w.drew with heap := w.heap.push (.cells ((byteCells s).toArray ++ Array.replicate (c - s.size) (.int .u8 0)) e (c, c + 1)) }, c, ?_, hge, rfl, rfl, rfl, rfl⟩
  have hsh : ({ w.drew with heap := w.heap.push (.cells ((byteCells s).toArray ++ Array.replicate (c - s.size) (.int .u8 0)) e) } : World).shape? w.heap.size = some (e, c) := by
    simp only [World.shape?, Array.getElem?_push_size, hsz]
  simp only [Conv.stringToBytes, Sem.run_bind, run_choose, Question.forced, Bool.false_eq_true, if_false, Result.andThen_ok, ← hc, hb, newRow, run_newObj, Sem.run_pure, markStringish, run_shape]
  have hsh' : ({ ({ w with drawn := w.drawn + 1 } : World) with heap := ({ w with drawn := w.drawn + 1 } : World).heap.push (.cells ((byteCells s).toArray ++ Array.replicate (c - s.size) (.int .u8 0)) e) } : World).shape? w.heap.size = some (e, c) := hsh
  simp only [hsh', run_freeze, Result.andThen_ok]
  congr 1
  unfold World.freeze
  rw [if_neg (by decide)]
  simp only [push_modify]
  rfl
theorem snd_cvb {x : Src} {d : Dl} (hc : chkOp P o.op (.cvb x) = true) (hI : Inv w g ow st a) {call : CallF} (hd : delta call st (.cvb x) = some d) {Q : Exit → Act → World → Prop} :
    o.wp P a w (Nxt w g ow st.h.length (d.ap o.dst st)) Q := by
  cases hop : o.op <;> rw [hop] at hc <;> simp [chkOp] at hc
  rename_i sr t y
  obtain ⟨⟨hs, he⟩, hc⟩ := hc
  obtain ⟨ds, hs⟩ := some_of hs
  split at he
  · rename_i e hel
    have ht := elem_of hel
    have hu := isU8_of he
    simp only [delta] at hd
    split at hd
    · rename_i s ex
      split at hd
      · rename_i hsz
        obtain rfl := Option.some.inj hd
        have h1 := (ev_spec hI hc ex).1.str_inv
        obtain ⟨w', c, r1, r2, r3, r4, r5, r6⟩ := run_s2b (P := P) (w := w) e s
        have hrun : (execOp a.eval o).run P w = .ok (.value (.slice (some (at_ w.heap.size 0)) s.size c)) w' := by
          unfold execOp; rw [hop]
          cases ds <;> simp [h1, convert, run_underlying hs, run_underlying ht, run_underlying hu, r1]
        refine wp_val hrun ?_
        obtain ⟨dd, hdd⟩ : ∃ dd, dd = o.dst.getD 0 := ⟨_, rfl⟩
        obtain ⟨b1, b2, b3⟩ := flat_bytes (w := w) (g := g) (m := st.h.length) s
        have hstp : Stp w g ow st.h.length w' (gPush g w.heap.size s.size) (oPush ow w.heap.size [0, dd]) :=
          Stp.push hI.bd r6 r3 r4 r5 (fun b hb => gPush_imm hb) (fun _ _ => rfl) (fun b hb => by simp [oPush, hb]) (fun q => by simp [oPush])
        have hinv := hI.push hstp r6 (fun b hb => gPush_imm hb) (fun b hb => by simp [oPush, hb])
        have hrow : RowOf w' w.heap.size ((byteCells s).toArray ++ Array.replicate (c - s.size) (.int .u8 0)) e (c, c + 1) := by unfold RowOf; rw [r6]; simp
        have hsize : ((byteCells s).toArray ++ Array.replicate (c - s.size) (Value.int .u8 0)).size = c := by simp [byteCells_length]; omega
        refine ⟨_, _, hstp, ?_⟩
        cases hdst : o.dst with
        | none => exact ⟨hinv.defers, hinv.len, hinv.slot, hinv.box, hinv.bd, hinv.base⟩
        | some i =>
          obtain rfl : dd = i := by rw [hdd, hdst]; rfl
          have hv := VR.ofFlat (w := w') (g := gPush g w.heap.size s.size) (m := st.h.length) (.own 1 false) (b := w.heap.size) (off := 0) (c := c) (b1.mono hstp (Nat.le_refl _)) b2 (by decide) (by rw [b3]; exact r2) (by rw [b3]; unfold roomB at hsz; omega) (fun k u hk => by
            have hkl : k < (byteCells s).length := (List.getElem?_eq_some_iff.1 hk).1
            refine ⟨by simp [gPush]; rw [byteCells_length] at hkl; exact hkl, ?_⟩
            rw [Nat.zero_add, cell_of_row hrow, Array.getElem?_append]
            simp only [List.size_toArray]
            rw [if_pos hkl]
            simpa using hk)
          rw [b3] at hv
          refine hinv.put dd rfl hv ?_
          intro p sz' s' l' A' n' c' hsb
          cases hsb
          refine ⟨by decide, fun _ => ⟨_, rfl, by simp [oPush], ?_⟩⟩
          refine ⟨_, e, (c, c + 1), hrow, by simp [gPush, b3], by simp only [Nat.zero_add]; omega, .inr ?_⟩
          rw [hsize]
          exact Nat.le_refl _
      · cases hd
    · cases hd
  · cases he
end
end Go.T
/- Operations of the small machine: slices that are written out, copy, a mark. -/
set_option linter.unusedVariables false
set_option linter.unusedSimpArgs false
set_option maxRecDepth 10000
namespace Go.T
section
variable {P : Program} {w : World} {g : Gh} {ow : Ow} {st : St} {a : Act} {o : Oper} {dst : Option Nat}
/-- Elements, and their cells in a row. -/
def ElR (w : World) (g : Gh) (m sz : Nat) (es : List TV) (cells : Array Value) : Prop :=
  cells.size = es.length * sz ∧ (∀ e ∈ es, e.cells.length = sz) ∧ ∀ (i : Nat) (e : TV) (j : Nat) (x : TV), es[i]? = some e → e.cells[j]? = some x → x.isElt = true ∧ ∃ u, cells[i * sz + j]? = some u ∧ VR w g m x u
theorem okE_of {ag : Bool} {sz : Nat} {v : TV} (h : okE ag sz v = true) : v.cells.length = sz ∧ (∀ x ∈ v.cells, x.isElt = true) ∧ v.cells.all TV.isCell = true := by
  unfold okE at h
  split at h
  · rename_i cs
    simp at h
    refine ⟨h.1.2, h.2, ?_⟩
    exact List.all_eq_true.2 (fun x hx => isElt_isCell (h.2 x hx))
  · rename_i x hna
    simp at h
    have hc : v.cells = [v] := by cases v <;> first | rfl | exact absurd rfl (hna _)
    rw [hc]
    refine ⟨by simp [h.1.2], fun x hx => by simp at hx; subst hx; exact h.2, by simp [isElt_isCell h.2]⟩
theorem idx_of {i j sz n : Nat} (hi : i < n) (hj : j < sz) : i * sz + j < n * sz := by
  have : (i + 1) * sz ≤ n * sz := Nat.mul_le_mul_right _ hi
  rw [Nat.succ_mul] at this; omega
theorem idx_inj {i j i' j' sz : Nat} (hj : j < sz) (hj' : j' < sz) (h : i * sz ≤ i' * sz + j' ∧ i' * sz + j' < i * sz + sz) : i = i' := by
  have hz : 0 < sz := by omega
  rcases Nat.lt_trichotomy i i' with h1 | h1 | h1
  · have : (i + 1) * sz ≤ i' * sz := Nat.mul_le_mul_right _ h1
    rw [Nat.succ_mul] at this; omega
  · exact h1
  · have : (i' + 1) * sz ≤ i * sz := Nat.mul_le_mul_right _ h1
    rw [Nat.succ_mul] at this; omega
theorem fillE_spec (hI : Inv w g ow st a) {ag : Bool} {sz : Nat} (hz : 0 < sz) :
    ∀ (os : List (Nat × Operand)) (ps : List (Nat × Src)) (es es' : List TV) (cells : Array Value), chkPs os ps = true → fillE st.t ag sz ps es = some es' → ElR w g st.h.length sz es cells →
    ∃ cells', Instr.fill (fun i => some (i * sz, sz)) cells (os.map fun p => (p.1, a.eval p.2)) = some cells' ∧ es'.length = es.length ∧ ElR w g st.h.length sz es' cells' := by
  intro os
  induction os with
  | nil =>
    intro ps es es' cells hc hf h
    cases ps <;> simp [chkPs] at hc
    simp [fillE] at hf
    subst hf
    exact ⟨cells, rfl, rfl, h⟩
  | cons p os ih =>
    intro ps es es' cells hc hf h
    obtain ⟨i, y⟩ := p
    cases ps with
    | nil => simp [chkPs] at hc
    | cons q ps =>
      obtain ⟨i', x⟩ := q
      simp [chkPs] at hc
      obtain ⟨⟨rfl, hc2⟩, hc3⟩ := hc
      simp only [fillE] at hf
      split at hf
      · rename_i v hv
        split at hf
        · rename_i hcond
          obtain ⟨hi, hok⟩ := hcond
          obtain ⟨e1, e2, e3⟩ := ev_spec hI hc2 hv
          obtain ⟨k1, k2, k3⟩ := okE_of hok
          obtain ⟨c1, c2⟩ := cellsP e1 k3 e3
          obtain ⟨h1, h2, h3⟩ := h
          have hle : i * sz + (a.eval y).cells.size ≤ cells.size := by
            rw [← c1, k1, h1]
            have : (i + 1) * sz ≤ es.length * sz := Nat.mul_le_mul_right _ hi
            rw [Nat.succ_mul] at this; exact this
          obtain ⟨g1, g2⟩ := layAt_get (i * sz) cells (a.eval y).cells hle
          obtain ⟨cells', r1, r2, r3⟩ := ih ps (es.set i v) es' (layAt (i * sz) cells (a.eval y).cells) hc3 hf ⟨by rw [g1, List.length_set]; exact h1, fun e he => by
              rcases List.mem_or_eq_of_mem_set he with he | rfl
              · exact h2 e he
              · exact k1, fun i2 e j x hi2 hj => by
              rw [List.getElem?_set] at hi2
              split at hi2
              · rename_i heq
                subst heq
                (try rw [if_pos hi] at hi2)
                obtain rfl := Option.some.inj hi2
                have hjl : j < sz := by have := (List.getElem?_eq_some_iff.1 hj).1; omega
                have hj2 : j < (a.eval y).cells.size := by omega
                obtain ⟨z1, z2, z3⟩ := c2 j x ((a.eval y).cells[j]) hj (by simp)
                refine ⟨k2 x (List.mem_of_getElem? hj), _, ?_, z2⟩
                rw [g2, if_pos ⟨by omega, by omega⟩]
                simp [hj2]
              · rename_i hne
                obtain ⟨z1, u, z2, z3⟩ := h3 i2 e j x hi2 hj
                have hjl : j < sz := by have := (List.getElem?_eq_some_iff.1 hj).1; rw [h2 e (List.mem_of_getElem? hi2)] at this; exact this
                refine ⟨z1, u, ?_, z3⟩
                rw [g2, if_neg (fun hh => hne (idx_inj (j := 0) (by omega) hjl ⟨hh.1, by omega⟩)), z2]⟩
          refine ⟨cells', ?_, by rw [r2, List.length_set], r3⟩
          rw [List.map_cons, fill_cons (place := fun i => some (i * sz, sz)) rfl (show (a.eval y).cells.size = sz by omega) (show i * sz + sz ≤ cells.size by omega)]
          exact r1
        · cases hf
      · cases hf
theorem snd_bsl {ag : Bool} {sz n : Nat} {z : List TV} {ps : List (Nat × Src)} {d : Dl} (hc : chkOp P o.op (.bsl ag sz n z ps) = true) (hI : Inv w g ow st a) {call : CallF} (hd : delta call st (.bsl ag sz n z ps) = some d) {Q : Exit → Act → World → Prop} :
    o.wp P a w (Nxt w g ow st.h.length (d.ap o.dst st)) Q := by
  cases hop : o.op <;> rw [hop] at hc <;> try (simp [chkOp] at hc; done)
  rename_i t n' parts
  simp only [chkOp] at hc
  split at hc
  · rename_i e he
    have ht := elem_of he
    simp at hc
    obtain ⟨⟨⟨⟨⟨⟨⟨⟨rfl, hn0⟩, hl⟩, hz⟩, hsmall⟩, hlz⟩, hzl⟩, hzelt⟩, hps⟩ := hc
    obtain ⟨zv, hzr, ⟨ti, hi, hiz⟩, hcv⟩ := layZ_of hlz
    obtain ⟨hs1, hs2, hs3⟩ := lay_of hl
    have hisz : ti.size = sz := by unfold szOf at hs1; rw [hi] at hs1; simpa using hs1
    have hpc : (pack ag z).cells = z := pack_cells (by rw [hzl]; exact hs3) hcv
    obtain ⟨k1, k2⟩ := cvals_cells (w := w) (g := g) (m := st.h.length) hcv
    have hzs : zv.cells.size = sz := by omega
    have h0 : ElR w g st.h.length sz (zeros ag z n') ((Array.range (n' * sz)).map (zv.cells[· % zv.cells.size]!)) := by
      refine ⟨by simp [zeros], fun e he => ?_, fun i e j x hi hj => ?_⟩
      · obtain rfl := List.eq_of_mem_replicate he
        rw [hpc, hzl]
      · have hil : i < n' := by have := (List.getElem?_eq_some_iff.1 hi).1; simpa [zeros] using this
        have : e = pack ag z := by
          simp [zeros, List.getElem?_replicate, hil] at hi
          exact hi.symm
        subst this
        rw [hpc] at hj
        have hjl : j < sz := by have := (List.getElem?_eq_some_iff.1 hj).1; omega
        refine ⟨hzelt x (List.mem_of_getElem? hj), zv.cells[j], ?_, (k2 j x zv.cells[j] hj (by simp)).2.1⟩
        have hlt := idx_of hil hjl
        have hmod : (i * sz + j) % sz = j := by rw [Nat.mul_comm, Nat.mul_add_mod, Nat.mod_eq_of_lt hjl]
        simp [hlt, hzs, hmod]
        have : j < zv.cells.size := by omega
        simp [this]
    simp only [delta] at hd
    split at hd
    · rename_i es hf
      obtain rfl := Option.some.inj hd
      obtain ⟨cells', r1, r2, r3, r4, r5⟩ := fillE_spec hI hz parts.toList ps (zeros ag z n') es _ hps hf h0
      have hlen : es.length = n' := by rw [r2]; simp [zeros]
      have hrun := run_buildSlice w t e n' (parts.map fun (i, x) => (i, a.eval x)) cells' ti zv ht hi hiz (by rw [hisz]; omega) (by rw [hisz]; exact fun h => by rcases Nat.mul_eq_zero.1 h with h | h <;> omega) (by
        rw [hisz, Array.toList_map]; exact r1)
      have hheap : (w.alloc (.cells cells' e)).heap = w.heap.push (.cells cells' e) := rfl
      have hrun2 : (execOp a.eval o).run P w = .ok (.value (.slice (some (at_ w.heap.size 0)) n' n')) (w.alloc (.cells cells' e)) := by
        unfold execOp; rw [hop]
        simp only [Sem.run_bind, hrun, Result.andThen_ok]; rfl
      refine wp_val hrun2 ?_
      obtain ⟨dd, hdd⟩ : ∃ dd, dd = o.dst.getD 0 := ⟨_, rfl⟩
      have hstp : Stp w g ow st.h.length (w.alloc (.cells cells' e)) (gPush g w.heap.size (n' * sz)) (oPush ow w.heap.size [0, dd]) :=
        Stp.push hI.bd hheap rfl rfl rfl (fun b hb => gPush_imm hb) (fun _ _ => rfl) (fun b hb => by simp [oPush, hb]) (fun q => by simp [oPush])
      have hinv := hI.push hstp hheap (fun b hb => gPush_imm hb) (fun b hb => by simp [oPush, hb])
      refine ⟨_, _, hstp, ?_⟩
      cases hdst : o.dst with
      | none => exact ⟨hinv.defers, hinv.len, hinv.slot, hinv.box, hinv.bd, hinv.base⟩
      | some i =>
        obtain rfl : dd = i := by rw [hdd, hdst]; rfl
        have hfl : Flat w g st.h.length sz es cells'.toList := ⟨by rw [Array.length_toList]; exact r3, fun i e j x hi hj => by
          obtain ⟨z1, u, z2, z3⟩ := r5 i e j x hi hj
          exact ⟨z1, u, by simpa using z2, z3⟩⟩
        have hw : okW sz es = true := List.all_eq_true.2 (fun e he => by simp [r4 e he])
        have hv := VR.ofFlat (w := w.alloc (.cells cells' e)) (g := gPush g w.heap.size (n' * sz)) (m := st.h.length) (.own sz true) (b := w.heap.size) (off := 0) (c := n') (hfl.mono hstp (Nat.le_refl _)) hw hz (by omega) (by rw [hlen]; have : n' ≤ n' * sz := Nat.le_mul_of_pos_right _ hz; omega) (fun k u hk => by
          have hkl : k < cells'.size := by have := (List.getElem?_eq_some_iff.1 hk).1; simpa using this
          refine ⟨by simp [gPush]; rw [r3, hlen] at hkl; exact hkl, ?_⟩
          rw [Nat.zero_add, cell_of_row (row_push hheap)]
          simpa using hk)
        rw [hlen] at hv
        refine hinv.put dd rfl hv ?_
        intro p sz' s' l' A' n2 c' hsb
        cases hsb
        refine ⟨hz, fun _ => ⟨_, rfl, by simp [oPush], ?_⟩⟩
        exact ⟨cells', e, (0, 0), row_push hheap, by simp [gPush], by simp only [Nat.zero_add]; rw [r3, hlen]; exact Nat.le_refl _, NF_zero _⟩
    · cases hd
  · cases hc
end
end Go.T
