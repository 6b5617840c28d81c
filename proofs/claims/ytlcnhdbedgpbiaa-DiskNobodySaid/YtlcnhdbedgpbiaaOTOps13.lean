/- Operations of the small machine: slices that are written out, copy, a mark. -/
import Derived.Test.YtlcnhdbedgpbiaaOTOps12
set_option linter.unusedVariables false
set_option linter.unusedSimpArgs false
set_option maxRecDepth 10000
namespace Go.T
section
variable {P : Program} {w : World} {g : Gh} {ow : Ow} {st : St} {a : Act} {o : Oper} {dst : Option Nat}
/-- Elements, and their cells in a row. -/
def ElR (w : World) (g : Gh) (m sz : Nat) (es : List TV) (cells : Array Value) : Prop :=
  cells.size = es.length * sz ∧ (∀ e ∈ es, e.cells.length = sz) ∧ ∀ (i : Nat) (e : TV) (j : Nat) (x : TV), es[i]? = some e → e.cells[j]? = some x → x.isElt = true ∧ ∃ u, cells[i * sz + j]? = some u ∧ VR w g m x u
theorem okE_of {ag : Bool} {sz : Nat} {v : TV} (h : okE ag sz v = true) : v.cells.length = sz ∧ (∀ x ∈ v.cells, x.isElt = true) ∧ v.cells.all TV.isCell = true := by
  unfold okE at h
  split at h
  · rename_i cs
    simp at h
    refine ⟨h.1.2, h.2, ?_⟩
    exact List.all_eq_true.2 (fun x hx => isElt_isCell (h.2 x hx))
  · rename_i x hna
    simp at h
    have hc : v.cells = [v] := by cases v <;> first | rfl | exact absurd rfl (hna _)
    rw [hc]
    refine ⟨by simp [h.1.2], fun x hx => by simp at hx; subst hx; exact h.2, by simp [isElt_isCell h.2]⟩
theorem idx_of {i j sz n : Nat} (hi : i < n) (hj : j < sz) : i * sz + j < n * sz := by
  have : (i + 1) * sz ≤ n * sz := Nat.mul_le_mul_right _ hi
  rw [Nat.succ_mul] at this; omega
theorem idx_inj {i j i' j' sz : Nat} (hj : j < sz) (hj' : j' < sz) (h : i * sz ≤ i' * sz + j' ∧ i' * sz + j' < i * sz + sz) : i = i' := by
  have hz : 0 < sz := by omega
  rcases Nat.lt_trichotomy i i' with h1 | h1 | h1
  · have : (i + 1) * sz ≤ i' * sz := Nat.mul_le_mul_right _ h1
    rw [Nat.succ_mul] at this; omega
  · exact h1
  · have : (i' + 1) * sz ≤ i * sz := Nat.mul_le_mul_right _ h1
    rw [Nat.succ_mul] at this; omega
theorem fillE_spec (hI : Inv w g ow st a) {ag : Bool} {sz : Nat} (hz : 0 < sz) :
    ∀ (os : List (Nat × Operand)) (ps : List (Nat × Src)) (es es' : List TV) (cells : Array Value), chkPs os ps = true → fillE st.t ag sz ps es = some es' → ElR w g st.h.length sz es cells →
    ∃ cells', Instr.fill (fun i => some (i * sz, sz)) cells (os.map fun p => (p.1, a.eval p.2)) = some cells' ∧ es'.length = es.length ∧ ElR w g st.h.length sz es' cells' := by
  intro os
  induction os with
  | nil =>
    intro ps es es' cells hc hf h
    cases ps <;> simp [chkPs] at hc
    simp [fillE] at hf
    subst hf
    exact ⟨cells, rfl, rfl, h⟩
  | cons p os ih =>
    intro ps es es' cells hc hf h
    obtain ⟨i, y⟩ := p
    cases ps with
    | nil => simp [chkPs] at hc
    | cons q ps =>
      obtain ⟨i', x⟩ := q
      simp [chkPs] at hc
      obtain ⟨⟨rfl, hc2⟩, hc3⟩ := hc
      simp only [fillE] at hf
      split at hf
      · rename_i v hv
        split at hf
        · rename_i hcond
          obtain ⟨hi, hok⟩ := hcond
          obtain ⟨e1, e2, e3⟩ := ev_spec hI hc2 hv
          obtain ⟨k1, k2, k3⟩ := okE_of hok
          obtain ⟨c1, c2⟩ := cellsP e1 k3 e3
          obtain ⟨h1, h2, h3⟩ := h
          have hle : i * sz + (a.eval y).cells.size ≤ cells.size := by
            rw [← c1, k1, h1]
            have : (i + 1) * sz ≤ es.length * sz := Nat.mul_le_mul_right _ hi
            rw [Nat.succ_mul] at this; exact this
          obtain ⟨g1, g2⟩ := layAt_get (i * sz) cells (a.eval y).cells hle
          obtain ⟨cells', r1, r2, r3⟩ := ih ps (es.set i v) es' (layAt (i * sz) cells (a.eval y).cells) hc3 hf ⟨by rw [g1, List.length_set]; exact h1, fun e he => by
              rcases List.mem_or_eq_of_mem_set he with he | rfl
              · exact h2 e he
              · exact k1, fun i2 e j x hi2 hj => by
              rw [List.getElem?_set] at hi2
              split at hi2
              · rename_i heq
                subst heq
                (try rw [if_pos hi] at hi2)
                obtain rfl := Option.some.inj hi2
                have hjl : j < sz := by have := (List.getElem?_eq_some_iff.1 hj).1; omega
                have hj2 : j < (a.eval y).cells.size := by omega
                obtain ⟨z1, z2, z3⟩ := c2 j x ((a.eval y).cells[j]) hj (by simp)
                refine ⟨k2 x (List.mem_of_getElem? hj), _, ?_, z2⟩
                rw [g2, if_pos ⟨by omega, by omega⟩]
                simp [hj2]
              · rename_i hne
                obtain ⟨z1, u, z2, z3⟩ := h3 i2 e j x hi2 hj
                have hjl : j < sz := by have := (List.getElem?_eq_some_iff.1 hj).1; rw [h2 e (List.mem_of_getElem? hi2)] at this; exact this
                refine ⟨z1, u, ?_, z3⟩
                rw [g2, if_neg (fun hh => hne (idx_inj (j := 0) (by omega) hjl ⟨hh.1, by omega⟩)), z2]⟩
          refine ⟨cells', ?_, by rw [r2, List.length_set], r3⟩
          rw [List.map_cons, fill_cons (place := fun i => some (i * sz, sz)) rfl (show (a.eval y).cells.size = sz by omega) (show i * sz + sz ≤ cells.size by omega)]
          exact r1
        · cases hf
      · cases hf
theorem snd_bsl {ag : Bool} {sz n : Nat} {z : List TV} {ps : List (Nat × Src)} {d : Dl} (hc : chkOp P o.op (.bsl ag sz n z ps) = true) (hI : Inv w g ow st a) {call : CallF} (hd : delta call st (.bsl ag sz n z ps) = some d) {Q : Exit → Act → World → Prop} :
    o.wp P a w (Nxt w g ow st.h.length (d.ap o.dst st)) Q := by
  cases hop : o.op <;> rw [hop] at hc <;> try (simp [chkOp] at hc; done)
  rename_i t n' parts
  simp only [chkOp] at hc
  split at hc
  · rename_i e he
    have ht := elem_of he
    simp at hc
    obtain ⟨⟨⟨⟨⟨⟨⟨⟨rfl, hn0⟩, hl⟩, hz⟩, hsmall⟩, hlz⟩, hzl⟩, hzelt⟩, hps⟩ := hc
    obtain ⟨zv, hzr, ⟨ti, hi, hiz⟩, hcv⟩ := layZ_of hlz
    obtain ⟨hs1, hs2, hs3⟩ := lay_of hl
    have hisz : ti.size = sz := by unfold szOf at hs1; rw [hi] at hs1; simpa using hs1
    have hpc : (pack ag z).cells = z := pack_cells (by rw [hzl]; exact hs3) hcv
    obtain ⟨k1, k2⟩ := cvals_cells (w := w) (g := g) (m := st.h.length) hcv
    have hzs : zv.cells.size = sz := by omega
    have h0 : ElR w g st.h.length sz (zeros ag z n') ((Array.range (n' * sz)).map (zv.cells[· % zv.cells.size]!)) := by
      refine ⟨by simp [zeros], fun e he => ?_, fun i e j x hi hj => ?_⟩
      · obtain rfl := List.eq_of_mem_replicate he
        rw [hpc, hzl]
      · have hil : i < n' := by have := (List.getElem?_eq_some_iff.1 hi).1; simpa [zeros] using this
        have : e = pack ag z := by
          simp [zeros, List.getElem?_replicate, hil] at hi
          exact hi.symm
        subst this
        rw [hpc] at hj
        have hjl : j < sz := by have := (List.getElem?_eq_some_iff.1 hj).1; omega
        refine ⟨hzelt x (List.mem_of_getElem? hj), zv.cells[j], ?_, (k2 j x zv.cells[j] hj (by simp)).2.1⟩
        have hlt := idx_of hil hjl
        have hmod : (i * sz + j) % sz = j := by rw [Nat.mul_comm, Nat.mul_add_mod, Nat.mod_eq_of_lt hjl]
        simp [hlt, hzs, hmod]
        have : j < zv.cells.size := by omega
        simp [this]
    simp only [delta] at hd
    split at hd
    · rename_i es hf
      obtain rfl := Option.some.inj hd
      obtain ⟨cells', r1, r2, r3, r4, r5⟩ := fillE_spec hI hz parts.toList ps (zeros ag z n') es _ hps hf h0
      have hlen : es.length = n' := by rw [r2]; simp [zeros]
      have hrun := run_buildSlice w t e n' (parts.map fun (i, x) => (i, a.eval x)) cells' ti zv ht hi hiz (by rw [hisz]; omega) (by rw [hisz]; exact fun h => by rcases Nat.mul_eq_zero.1 h with h | h <;> omega) (by
        rw [hisz, Array.toList_map]; exact r1)
      have hheap : (w.alloc (.cells cells' e)).heap = w.heap.push (.cells cells' e) := rfl
      have hrun2 : (execOp a.eval o).run P w = .ok (.value (.slice (some (at_ w.heap.size 0)) n' n')) (w.alloc (.cells cells' e)) := by
        unfold execOp; rw [hop]
        simp only [Sem.run_bind, hrun, Result.andThen_ok]; rfl
      refine wp_val hrun2 ?_
      obtain ⟨dd, hdd⟩ : ∃ dd, dd = o.dst.getD 0 := ⟨_, rfl⟩
      have hstp : Stp w g ow st.h.length (w.alloc (.cells cells' e)) (gPush g w.heap.size (n' * sz)) (oPush ow w.heap.size [0, dd]) :=
        Stp.push hI.bd hheap rfl rfl rfl (fun b hb => gPush_imm hb) (fun _ _ => rfl) (fun b hb => by simp [oPush, hb]) (fun q => by simp [oPush])
      have hinv := hI.push hstp hheap (fun b hb => gPush_imm hb) (fun b hb => by simp [oPush, hb])
      refine ⟨_, _, hstp, ?_⟩
      cases hdst : o.dst with
      | none => exact ⟨hinv.defers, hinv.len, hinv.slot, hinv.box, hinv.bd, hinv.base⟩
      | some i =>
        obtain rfl : dd = i := by rw [hdd, hdst]; rfl
        have hfl : Flat w g st.h.length sz es cells'.toList := ⟨by rw [Array.length_toList]; exact r3, fun i e j x hi hj => by
          obtain ⟨z1, u, z2, z3⟩ := r5 i e j x hi hj
          exact ⟨z1, u, by simpa using z2, z3⟩⟩
        have hw : okW sz es = true := List.all_eq_true.2 (fun e he => by simp [r4 e he])
        have hv := VR.ofFlat (w := w.alloc (.cells cells' e)) (g := gPush g w.heap.size (n' * sz)) (m := st.h.length) (.own sz true) (b := w.heap.size) (off := 0) (c := n') (hfl.mono hstp (Nat.le_refl _)) hw hz (by omega) (by rw [hlen]; have : n' ≤ n' * sz := Nat.le_mul_of_pos_right _ hz; omega) (fun k u hk => by
          have hkl : k < cells'.size := by have := (List.getElem?_eq_some_iff.1 hk).1; simpa using this
          refine ⟨by simp [gPush]; rw [r3, hlen] at hkl; exact hkl, ?_⟩
          rw [Nat.zero_add, cell_of_row (row_push hheap)]
          simpa using hk)
        rw [hlen] at hv
        refine hinv.put dd rfl hv ?_
        intro p sz' s' l' A' n2 c' hsb
        cases hsb
        refine ⟨hz, fun _ => ⟨_, rfl, by simp [oPush], ?_⟩⟩
        exact ⟨cells', e, (0, 0), row_push hheap, by simp [gPush], by simp only [Nat.zero_add]; rw [r3, hlen]; exact Nat.le_refl _, NF_zero _⟩
    · cases hd
  · cases hc
end
end Go.T
