/- The elements of a row that lies in a box. -/
import Derived.Test.YtlcnhdbedgpbiaaOTOps
set_option linter.unusedVariables false
set_option linter.unusedSimpArgs false
set_option maxRecDepth 10000
namespace Go.T
theorem regroup_spec (ag : Bool) (sz : Nat) : ∀ (n : Nat) (cs : List TV), (regroup ag sz n cs).length = n ∧ ∀ (i : Nat) (e : TV), (regroup ag sz n cs)[i]? = some e → e = pack ag ((cs.drop (i * sz)).take sz) := by
  intro n
  induction n with
  | zero => intro cs; simp [regroup]
  | succ n ih =>
    intro cs
    obtain ⟨h1, h2⟩ := ih (cs.drop sz)
    refine ⟨by simp [regroup, h1], fun i e he => ?_⟩
    cases i with
    | zero => simp [regroup] at he; simpa using he.symm
    | succ i =>
      simp [regroup] at he
      rw [h2 i e he, List.drop_drop]
      congr 3
      rw [Nat.succ_mul]; omega
theorem isElt_cells {x : TV} (h : x.isElt = true) : x.cells = [x] := by
  cases x <;> first | rfl | simp [TV.isElt, TV.isCell] at h
theorem row_idx {n i j sz : Nat} (hi : i < n) (hj : j < sz) : i * sz + j < n * sz := by
  have : (i + 1) * sz ≤ n * sz := Nat.mul_le_mul_right _ hi
  rw [Nat.succ_mul] at this; omega
theorem regroup_cells {ag : Bool} {sz n : Nat} {cs : List TV} (hz : 0 < sz) (hag : ag = true ∨ sz = 1) (hlen : n * sz ≤ cs.length) (hel : ∀ k x, k < n * sz → cs[k]? = some x → x.isElt = true) :
    ∀ (i : Nat) (e : TV), (regroup ag sz n cs)[i]? = some e → i < n ∧ e.cells.length = sz ∧ ∀ j x, e.cells[j]? = some x → j < sz ∧ cs[i * sz + j]? = some x ∧ x.isElt = true := by
  intro i e he
  obtain ⟨g1, g2⟩ := regroup_spec ag sz n cs
  have hi : i < n := by have := (List.getElem?_eq_some_iff.1 he).1; omega
  have hle : i * sz + sz ≤ cs.length := by
    have : (i + 1) * sz ≤ n * sz := Nat.mul_le_mul_right _ hi
    rw [Nat.succ_mul] at this; omega
  have hlen2 : ((cs.drop (i * sz)).take sz).length = sz := by simp; omega
  have he' := g2 i e he
  have key : e.cells = (cs.drop (i * sz)).take sz := by
    cases ag with
    | true => simp [pack] at he'; subst he'; rfl
    | false =>
      have hsz := hag.resolve_left (by simp)
      subst hsz
      simp only [Nat.mul_one] at *
      have hlt : i < cs.length := by omega
      have hd : (cs.drop i).take 1 = [cs[i]] := by rw [List.drop_eq_getElem_cons hlt]; rfl
      rw [hd] at he' ⊢
      simp [pack] at he'
      subst he'
      exact isElt_cells (hel i _ hi (by simp [hlt]))
  refine ⟨hi, by rw [key]; exact hlen2, fun j x hx => ?_⟩
  rw [key] at hx
  have hj : j < sz := by have := (List.getElem?_eq_some_iff.1 hx).1; omega
  rw [List.getElem?_take, if_pos hj, List.getElem?_drop] at hx
  exact ⟨hj, hx, hel _ x (row_idx hi hj) hx⟩
theorem flat_idx {sz : Nat} (hz : 0 < sz) : ∀ (l : List TV), okW sz l = true → (flat l).length = l.length * sz ∧ ∀ (k : Nat) (x : TV), (flat l)[k]? = some x → ∃ e, l[k / sz]? = some e ∧ e.cells[k % sz]? = some x := by
  intro l
  induction l with
  | nil => intro _; simp [flat]
  | cons a l ih =>
    intro hw
    simp only [okW, List.all_cons, Bool.and_eq_true, beq_iff_eq] at hw
    obtain ⟨h1, h2⟩ := hw
    obtain ⟨i1, i2⟩ := ih h2
    have hf : flat (a :: l) = a.cells ++ flat l := rfl
    refine ⟨by rw [hf, List.length_append, i1, h1, List.length_cons, Nat.succ_mul]; omega, fun k x hx => ?_⟩
    rw [hf, List.getElem?_append] at hx
    split at hx
    · rename_i hlt
      rw [h1] at hlt
      exact ⟨a, by rw [Nat.div_eq_of_lt hlt]; rfl, by rw [Nat.mod_eq_of_lt hlt]; exact hx⟩
    · rename_i hge
      rw [h1] at hge hx
      obtain ⟨e, e1, e2⟩ := i2 _ x hx
      have hk : k = (k - sz) + sz := by omega
      refine ⟨e, ?_, ?_⟩
      · rw [hk, Nat.add_div_right _ hz, List.getElem?_cons_succ]; exact e1
      · rw [hk, Nat.add_mod_right]; exact e2
theorem elS_asl {h : Heap} {ag : Bool} {sz i o n : Nat} {l : List TV} (hl : elS h (.asl ag sz i o n) = some l) : ∃ cs, live h i = some cs ∧ o + n * sz ≤ cs.length ∧ 0 < sz ∧ (ag = true ∨ sz = 1) ∧ l = regroup ag sz n (((cs.drop o).take (n * sz)).map TV.shr0) ∧ l.length = n ∧
    ∀ (k : Nat) (e : TV), l[k]? = some e → k < n ∧ e.cells.length = sz ∧ ∀ j x, e.cells[j]? = some x → j < sz ∧ x.isElt = true ∧ ∃ y, cs[o + (k * sz + j)]? = some y ∧ x = y.shr0 := by
  simp only [elS] at hl
  split at hl
  · rename_i cs hcs
    split at hl
    · rename_i vs hvs
      split at hl
      · rename_i hc
        simp only [Bool.and_eq_true, decide_eq_true_eq, Bool.or_eq_true] at hc
        obtain ⟨⟨hel, hz⟩, hag⟩ := hc
        obtain rfl := Option.some.inj hl
        unfold cut at hvs
        split at hvs
        · rename_i hle
          obtain rfl := Option.some.inj hvs
          refine ⟨cs, hcs, hle, hz, hag, rfl, (regroup_spec _ _ _ _).1, fun k e he => ?_⟩
          obtain ⟨k1, k2, k3⟩ := regroup_cells hz hag (by simp; omega) (fun k x hk hx => List.all_eq_true.1 hel x (List.mem_of_getElem? hx)) k e he
          refine ⟨k1, k2, fun j x hx => ?_⟩
          obtain ⟨m1, m2, m3⟩ := k3 j x hx
          refine ⟨m1, m3, ?_⟩
          obtain ⟨y, hy, rfl⟩ := getElem?_map_some m2
          rw [List.getElem?_take, if_pos (row_idx k1 m1), List.getElem?_drop] at hy
          exact ⟨y, hy, rfl⟩
        · cases hvs
      · cases hl
    · cases hl
  · cases hl
section
variable {w : World} {g : Gh} {ow : Ow} {m : Nat}
/-- The elements of whatever slice, as if they never changed. -/
theorem els_sl {h : Heap} (hbox : ∀ (i : Nat) cs, h[i]? = some cs → BoxD w g m ow [1, i] cs (g.nu i)) (hbd : ∀ b q, ow b = some q → b < w.heap.size) {x : TV} {v : Value} {l : List TV} (hv : VR w g m x v) (hl : elS h x = some l) :
    ∃ A c g', v = .slice A l.length c ∧ VR w g' m (.sl .shr l) v ∧ (∀ (i : Nat) (e : TV) (j : Nat) (y : TV) (ad : Addr) (u : Value) (sz : Nat), A = some ad → l[i]? = some e → e.cells.length = sz → e.cells[j]? = some y → w.cell? (at_ ad.block (ad.off + (i * sz + j))) = some u → VR w g m y u) := by
  cases hv with
  | sl t l' A c sz vals hz hc hm hA hn he h hr =>
    obtain rfl := Option.some.inj hl
    refine ⟨A, c, g, rfl, .sl .shr _ A c sz vals hz hc hm hA hn he h hr, fun i e j y ad u sz' ha hi hs hj hu => ?_⟩
    have hsz : sz' = sz := by rw [← hs]; exact he e (List.mem_of_getElem? hi)
    subst hsz
    obtain ⟨_, _, k3⟩ := h ad i e j y ha hi hj
    rw [k3] at hu
    obtain rfl := Option.some.inj hu
    exact hr i e j y hi hj
  | nils A hA =>
    obtain rfl := Option.some.inj hl
    exact ⟨A, 0, g, rfl, .sl .shr [] A 0 1 (fun _ _ => default) (by decide) (by simp) (by simp) hA (fun _ => rfl) (by simp) (by simp) (by simp), by simp⟩
  | asl ag sz i o n c hi hc hm hrow =>
    obtain ⟨cs, hcs, hle, hz, hag, hleq, hln, hel⟩ := elS_asl hl
    obtain ⟨c1, c2⟩ := live_some hcs
    obtain ⟨row, ty, fr, r1, r2, r3, r4, r5, r6⟩ := hbox i cs c1 c2
    obtain ⟨b, hb⟩ : ∃ b, b = g.nu i := ⟨_, rfl⟩
    have hs : Stp w g ow m w ⟨fun c => if c = b then row.size else g.imm c, g.nu⟩ ow := by
      refine ⟨rfl, rfl, rfl, Nat.le_refl _, fun _ _ _ _ => rfl, fun c _ => ?_, fun _ _ => rfl, fun b vs ty fr hh => ⟨vs, fr, hh, rfl⟩, fun c hc hf => ?_, fun c q hq => ⟨hbd c _ hq, hq⟩⟩
      · show g.imm c ≤ if c = b then row.size else g.imm c
        split
        · rename_i hcb; rw [hcb, hb, r4]; exact Nat.zero_le _
        · exact Nat.le_refl _
      · have hcb : c ≠ b := by
          rintro rfl
          rw [hb, r5] at hf
          rcases hf with hf | ⟨q, hf⟩ <;> simp at hf
        simp [hcb]
    have cell : ∀ (k : Nat) (e : TV) (j : Nat) (y : TV), l[k]? = some e → e.cells[j]? = some y → y.isElt = true ∧ o + (k * sz + j) < row.size ∧ w.cell? (at_ b (o + (k * sz + j))) = some (row.getD (o + (k * sz + j)) undef) ∧ VR w g m y (row.getD (o + (k * sz + j)) undef) := by
      intro k e j y he hy
      obtain ⟨k1, k2, k3⟩ := hel k e he
      obtain ⟨m1, m2, z, m3, rfl⟩ := k3 j y hy
      have hlt : o + (k * sz + j) < row.size := by have := (List.getElem?_eq_some_iff.1 m3).1; omega
      have hgd : row.getD (o + (k * sz + j)) undef = row[o + (k * sz + j)] := by simp [hlt]
      obtain ⟨q1, q2, q3⟩ := r6 _ z row[o + (k * sz + j)] m3 (by simp [hlt])
      rw [hgd]
      refine ⟨m2, hlt, ?_, q2.shr0⟩
      rw [hb, cell_of_row r1]
      simp [hlt]
    refine ⟨some (at_ (g.nu i) o), c, ⟨fun c => if c = b then row.size else g.imm c, g.nu⟩, by rw [hln], ?_, fun k e j y ad u sz' ha hk hsz hj hu => ?_⟩
    · rw [← hln]
      refine .sl .shr l (some (at_ (g.nu i) o)) c sz (fun k j => row.getD (o + (k * sz + j)) undef) hz (by omega) (by omega) (fun ad h _ => by cases h; rfl) (by simp) (fun e he => ?_) (fun ad k e j y ha hk hj => ?_) (fun k e j y hk hj => ?_)
      · obtain ⟨k, hk⟩ := List.getElem?_of_mem he
        exact (hel k e hk).2.1
      · cases ha
        obtain ⟨q1, q2, q3, q4⟩ := cell k e j y hk hj
        exact ⟨q1, by simp [hb, q2], by rw [← hb]; exact q3⟩
      · exact (cell k e j y hk hj).2.2.2.mono hs (Nat.le_refl _)
    · cases ha
      obtain ⟨k1, k2, k3⟩ := hel k e hk
      rw [k2] at hsz
      subst hsz
      obtain ⟨q1, q2, q3, q4⟩ := cell k e j y hk hj
      rw [hb] at q3
      rw [q3] at hu
      obtain rfl := Option.some.inj hu
      exact q4
  | _ => simp [elS] at hl
end
end Go.T
