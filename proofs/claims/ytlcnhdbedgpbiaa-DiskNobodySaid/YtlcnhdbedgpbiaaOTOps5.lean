/- Operations of the small machine: functions, fields, components, reads of memory. -/
import Derived.Test.YtlcnhdbedgpbiaaOTOps4
set_option linter.unusedVariables false
set_option linter.unusedSimpArgs false
set_option maxRecDepth 10000
namespace Go.T
section
variable {P : Program} {w : World} {g : Gh} {ow : Ow} {st : St} {a : Act} {o : Oper} {dst : Option Nat}
theorem snd_mkf {f : Nat} {cs : List Src} {d : Dl} (hc : chkOp P o.op (.mkf f cs) = true) (hI : Inv w g ow st a) {call : CallF} (hd : delta call st (.mkf f cs) = some d) {Q : Exit → Act → World → Prop} :
    o.wp P a w (Nxt w g ow st.h.length (d.ap o.dst st)) Q := by
  cases hop : o.op <;> rw [hop] at hc <;> try (simp [chkOp] at hc; done)
  rename_i fn fi ca
  cases fn <;> simp [chkOp] at hc
  rename_i f'
  obtain ⟨⟨rfl, hfi⟩, hc⟩ := hc
  subst hfi
  simp only [delta] at hd
  split at hd
  · rename_i vs e
    split at hd
    · rename_i hall
      obtain rfl := Option.some.inj hd
      obtain ⟨h1, h2⟩ := evs_spec hI hc e
      have hget : ∀ (j : Nat) (x : TV) (v : Value), vs[j]? = some x → (ca.map a.eval)[j]? = some v → VR w g st.h.length x v ∧ plainV x = true ∧ ∀ w' g' ow' q, Owns w' g' ow' q x v := fun j x v hx hv => h2 j x v hx (by simpa using hv)
      refine wp_val (w' := w) (v := .func (.func f') #[] (ca.map a.eval)) ?_ (hI.nx0 o.dst (cellR (.fn f' vs _ (by simpa using h1) (fun j x v hx hv => ?_) (fun j x v hx hv => (hget j x v hx hv).1)) rfl rfl))
      · unfold execOp; rw [hop]; simp [Instr.makeFunc]
      · simpa using all_get hall hx
    · cases hd
  · cases hd
theorem snd_mn {x y : Src} {d : Dl} (hc : chkOp P o.op (.mn x y) = true) (hI : Inv w g ow st a) {call : CallF} (hd : delta call st (.mn x y) = some d) {Q : Exit → Act → World → Prop} :
    o.wp P a w (Nxt w g ow st.h.length (d.ap o.dst st)) Q := by
  cases hop : o.op <;> rw [hop] at hc <;> try (simp [chkOp] at hc; done)
  rename_i cl
  obtain ⟨cal, as, ts⟩ := cl
  cases cal <;> try (simp [chkOp] at hc; done)
  rename_i bu
  cases bu <;> simp [chkOp] at hc
  split at hc
  · rename_i p q has
    simp at hc
    obtain rfl : as = #[p, q] := Array.toList_inj.1 has
    simp only [delta] at hd
    split at hd
    · rename_i k b k' c e1 e2
      obtain rfl := Option.some.inj hd
      have h1 := (ev_spec hI hc.1 e1).1.int_inv
      have h2 := (ev_spec hI hc.2 e2).1.int_inv
      refine wp_val (v := .int k (if c < b then c else b)) (w' := w) ?_ (hI.nx0 o.dst (cellR (.int _ _) rfl rfl))
      unfold execOp; rw [hop]
      simp [resolve, invoke, builtin, Builtin.min_, Builtin.min2, h1, h2]
    · cases hd
  · cases hc
theorem snd_mx {x y : Src} {d : Dl} (hc : chkOp P o.op (.mx x y) = true) (hI : Inv w g ow st a) {call : CallF} (hd : delta call st (.mx x y) = some d) {Q : Exit → Act → World → Prop} :
    o.wp P a w (Nxt w g ow st.h.length (d.ap o.dst st)) Q := by
  cases hop : o.op <;> rw [hop] at hc <;> try (simp [chkOp] at hc; done)
  rename_i cl
  obtain ⟨cal, as, ts⟩ := cl
  cases cal <;> try (simp [chkOp] at hc; done)
  rename_i bu
  cases bu <;> simp [chkOp] at hc
  split at hc
  · rename_i p q has
    simp at hc
    obtain rfl : as = #[p, q] := Array.toList_inj.1 has
    simp only [delta] at hd
    split at hd
    · rename_i k b k' c e1 e2
      obtain rfl := Option.some.inj hd
      have h1 := (ev_spec hI hc.1 e1).1.int_inv
      have h2 := (ev_spec hI hc.2 e2).1.int_inv
      refine wp_val (v := .int k (if c > b then c else b)) (w' := w) ?_ (hI.nx0 o.dst (cellR (.int _ _) rfl rfl))
      unfold execOp; rw [hop]
      simp [resolve, invoke, builtin, Builtin.max_, Builtin.max2, h1, h2]
    · cases hd
  · cases hc
/-- A variable's type, as it lies. -/
theorem lay_of {t : TypeId} {ag : Bool} {n : Nat} (h : lay P t ag n = true) : szOf P t = some n ∧ (∀ w, (isAgg t).run P w = .ok ag w) ∧ (ag = true ∨ n = 1) := by
  unfold lay at h
  simp at h
  obtain ⟨⟨h1, h2⟩, h3⟩ := h
  refine ⟨h1, fun w => ?_, h3⟩
  unfold aggB at h2
  unfold isAgg
  split at h2
  · rename_i fs hd
    obtain rfl := Option.some.inj h2
    rw [Sem.run_bind, run_underlying hd]; rfl
  · rename_i n2 e hd
    obtain rfl := Option.some.inj h2
    rw [Sem.run_bind, run_underlying hd]; rfl
  · rename_i d h1 h2' hd
    obtain rfl := Option.some.inj h2
    rw [Sem.run_bind, run_underlying hd]
    cases d <;> first | rfl | exact (h1 _ rfl).elim | exact (h2' _ _ rfl).elim
  · cases h2
/-- Cells as a value. -/
def packV (ag : Bool) (vs : List Value) : Value := if ag then .agg vs.toArray else vs.headD undef
theorem run_ld {t : TypeId} {ag : Bool} {n : Nat} (hl : lay P t ag n = true) {b o : Nat} {vs : List Value} (hr : w.rangeAt b o vs) (hn : vs.length = n) : (Instr.loadAt t (.pointer (some (at_ b o)))).run P w = .ok (packV ag vs) w := by
  obtain ⟨h1, h2, h3⟩ := lay_of hl
  obtain ⟨ti, h4, h5⟩ := info_of h1
  cases ag with
  | true =>
    have hc : (loadCells (at_ b o) vs.length).run P w = .ok vs.toArray w := run_loadCells_list (P := P) w (at_ b o) vs (fun j v hv => by rw [at_add]; exact hr j v hv)
    rw [hn] at hc
    simp [Instr.loadAt, Instr.sureAddr, loadVar, h2, sizeOf, typeInfo, h4, h5, hc, packV]
  | false =>
    have hn1 : n = 1 := h3.resolve_left (by simp)
    match vs, hn with
    | [v], _ =>
      have h0 := hr 0 v rfl
      rw [Nat.add_zero] at h0
      have h0' : w.cell? (at_ b o) = some v := h0
      simp [Instr.loadAt, Instr.sureAddr, loadVar, h2, packV, h0']
    | [], h => simp at h; omega
    | _ :: _ :: _, h => simp at h; omega
theorem VR.pack {m : Nat} {ag : Bool} {us : List TV} {vs : List Value} (hl : us.length = vs.length) (hag : ag = true ∨ us.length = 1) (h : ∀ (j : Nat) (x : TV) (v : Value), us[j]? = some x → vs[j]? = some v → x.isCell = true ∧ VR w g m x v) :
    VR w g m (pack ag us) (packV ag vs) ∧ plainV (pack ag us) = true ∧ argOk (pack ag us) = true := by
  cases ag with
  | true =>
    have hc : ∀ x ∈ us, x.isCell = true := by
      intro x hx
      obtain ⟨j, hj⟩ := List.getElem?_of_mem hx
      have hlt : j < vs.length := by rw [← hl]; exact (List.getElem?_eq_some_iff.1 hj).1
      exact (h j x vs[j] hj (by simp [hlt])).1
    refine ⟨.agg _ _ (by simpa using hl) (fun j x v hx hv => (h j x v hx (by simpa using hv)).1) (fun j x v hx hv => (h j x v hx (by simpa using hv)).2), rfl, ?_⟩
    show us.all TV.isCell = true
    simpa using hc
  | false =>
    have h1 : us.length = 1 := hag.resolve_left (by simp)
    match us, vs, hl, h1 with
    | [x], [v], _, _ =>
      obtain ⟨c1, c2⟩ := h 0 x v rfl rfl
      refine ⟨c2, ?_, ?_⟩
      · show plainV x = true
        cases x <;> first | rfl | simp [TV.isCell] at c1
      · show argOk x = true
        cases x <;> first | rfl | simp [TV.isCell] at c1
theorem cut_some {cs us : List TV} {o n : Nat} (h : cut cs o n = some us) : o + n ≤ cs.length ∧ us.length = n ∧ ∀ j, us[j]? = if j < n then cs[o + j]? else none := by
  unfold cut at h
  split at h
  · rename_i hle
    obtain rfl := Option.some.inj h
    refine ⟨hle, by simp; omega, fun j => ?_⟩
    rw [List.getElem?_take, List.getElem?_drop]
  · cases h
/-- A part of a box. -/
theorem BoxR.cut {m : Nat} {q : List Nat} {cs us : List TV} {b o n : Nat} (h : BoxR w g m ow q cs b) (hc : cut cs o n = some us) :
    ∃ vs : List Value, w.rangeAt b o vs ∧ vs.length = n ∧ us.length = n ∧ ∀ (j : Nat) (x : TV) (v : Value), us[j]? = some x → vs[j]? = some v → x.isCell = true ∧ VR w g m x v ∧ Owns w g ow (q ++ [o + j]) x v := by
  obtain ⟨vs, ty, fr, hr, hl, hf, hi, ho, hcell⟩ := h
  obtain ⟨h1, h2, h3⟩ := cut_some hc
  refine ⟨(vs.toList.drop o).take n, ?_, by simp; omega, h2, ?_⟩
  · intro j v hv
    rw [List.getElem?_take] at hv
    split at hv
    · rw [List.getElem?_drop] at hv
      have := cell_of_row (o := o + j) hr
      rw [show (⟨b, o + j, none⟩ : Addr) = at_ b (o + j) from rfl, this]
      simpa using hv
    · cases hv
  · intro j x v hx hv
    rw [h3] at hx
    rw [List.getElem?_take] at hv
    split at hv
    · rename_i hj
      rw [if_pos hj] at hx
      rw [List.getElem?_drop] at hv
      exact hcell _ x v hx (by simpa using hv)
    · cases hv
theorem pack_shr {m : Nat} {ag : Bool} {us : List TV} {vs : List Value} (hl : us.length = vs.length) (hag : ag = true ∨ us.length = 1) (h : ∀ (j : Nat) (x : TV) (v : Value), us[j]? = some x → vs[j]? = some v → x.isCell = true ∧ VR w g m x v) :
    VR w g m (pack ag (us.map TV.shr0)) (packV ag vs) ∧ plainV (pack ag (us.map TV.shr0)) = true ∧ ∀ w' g' ow' q, Owns w' g' ow' q (pack ag (us.map TV.shr0)) (packV ag vs) := by
  have h' : ∀ (j : Nat) (x : TV) (v : Value), (us.map TV.shr0)[j]? = some x → vs[j]? = some v → x.isCell = true ∧ VR w g m x v := by
    intro j x v hx hv
    obtain ⟨y, hy, rfl⟩ := getElem?_map_some hx
    obtain ⟨c1, c2⟩ := h j y v hy hv
    exact ⟨by rw [shr0_isCell]; exact c1, c2.shr0⟩
  obtain ⟨p1, p2, p3⟩ := VR.pack (by simpa using hl) (by simpa using hag) h'
  refine ⟨p1, p2, fun w' g' ow' q => ?_⟩
  cases ag with
  | true =>
    refine owns_agg (fun x hx => ?_)
    obtain ⟨y, hy, rfl⟩ := List.mem_map.1 hx
    obtain ⟨j, hj⟩ := List.getElem?_of_mem hy
    have hlt : j < vs.length := by rw [← hl]; exact (List.getElem?_eq_some_iff.1 hj).1
    exact ⟨by rw [shr0_isCell]; exact (h j y vs[j] hj (by simp [hlt])).1, shr0_noOwn y⟩
  | false =>
    have h1 : us.length = 1 := hag.resolve_left (by simp)
    match us, vs, hl, h1 with
    | [x], [v], _, _ => exact owns_cell (by show x.shr0.isCell = true; rw [shr0_isCell]; exact (h 0 x v rfl rfl).1) (shr0_noOwn x)
/-- A read that takes nothing. -/
theorem ld_plain {t : TypeId} {y : Operand} {ag : Bool} {n b off : Nat} {us : List TV} {vs : List Value} (hop : o.op = .load t y) (hI : Inv w g ow st a) (hl : lay P t ag n = true) (hy : a.eval y = .pointer (some (at_ b off))) (hr : w.rangeAt b off vs) (h1 : vs.length = n) (h2 : us.length = n)
    (h : ∀ (j : Nat) (x : TV) (v : Value), us[j]? = some x → vs[j]? = some v → x.isCell = true ∧ VR w g st.h.length x v) {Q : Exit → Act → World → Prop} :
    o.wp P a w (Nxt w g ow st.h.length (({ v := pack ag (us.map TV.shr0) } : Dl).ap o.dst st)) Q := by
  have hag := (lay_of hl).2.2
  refine wp_val (w' := w) (v := packV ag vs) ?_ (hI.nx0 o.dst (pack_shr (by omega) (by rw [h2]; exact hag) h))
  unfold execOp; rw [hop]
  simp only [hy, Sem.run_bind, run_ld hl hr h1, Result.andThen_ok]
  rfl
theorem isElt_isCell {x : TV} (h : x.isElt = true) : x.isCell = true := by
  cases x <;> first | rfl | simp [TV.isElt, TV.isCell] at h
/-- The cells that never change. -/
theorem cp_range {m : Nat} {cs us : List TV} {v : Value} {n : Nat} (h : VR w g m (.cp cs) v) (hc : cut cs 0 n = some us) : ∃ b off vs, v = .pointer (some (at_ b off)) ∧ w.rangeAt b off vs ∧ vs.length = n ∧ us.length = n ∧
    ∀ (j : Nat) (x : TV) (v : Value), us[j]? = some x → vs[j]? = some v → x.isCell = true ∧ VR w g m x v := by
  obtain ⟨h1, h2, h3⟩ := cut_some hc
  cases h with
  | cp _ b off vals hh hr =>
    refine ⟨b, off, (List.range n).map vals, rfl, ?_, by simp, h2, ?_⟩
    · intro j v hv
      rw [List.getElem?_map] at hv
      by_cases hj : j < n
      · simp [hj] at hv
        subst hv
        obtain ⟨_, _, k⟩ := hh j (cs[j]'(by omega)) (by simp)
        exact k
      · simp [hj] at hv
    · intro j x v hx hv
      rw [h3] at hx
      split at hx
      · rename_i hj
        rw [Nat.zero_add] at hx
        simp [hj] at hv
        subst hv
        exact ⟨isElt_isCell (hh j x hx).1, hr j x hx⟩
      · cases hx
theorem snd_ldc {ag : Bool} {n : Nat} {p : Src} {d : Dl} (hc : chkOp P o.op (.ldc ag n p) = true) (hI : Inv w g ow st a) {call : CallF} (hd : delta call st (.ldc ag n p) = some d) {Q : Exit → Act → World → Prop} :
    o.wp P a w (Nxt w g ow st.h.length (d.ap o.dst st)) Q := by
  cases hop : o.op <;> rw [hop] at hc <;> try (simp [chkOp] at hc; done)
  rename_i t y
  simp [chkOp] at hc
  simp only [delta] at hd
  split at hd
  · rename_i cs e
    split at hd
    · rename_i us hcut
      obtain rfl := Option.some.inj hd
      have h1 := (ad_spec hI hc.2).2.1 _ e
      obtain ⟨b, off, vs, h2, h3, h4, h5, h6⟩ := cp_range h1 hcut
      exact ld_plain hop hI hc.1 h2 h3 h4 h5 h6
    · cases hd
  · cases hd
theorem run_part {t : TypeId} {ag : Bool} {n : Nat} (hl : lay P t ag n = true) (cs : Array Value) (off : Nat) (hle : off + n ≤ cs.size) (hn : 0 < n) : (part t cs off).run P w = .ok (packV ag ((cs.toList.drop off).take n)) w := by
  obtain ⟨h1, h2, h3⟩ := lay_of hl
  obtain ⟨ti, h4, h5⟩ := info_of h1
  cases ag with
  | true =>
    simp [part, h2, sizeOf, typeInfo, h4, h5, packV]
    apply Array.ext'
    simp [List.drop_take]
  | false =>
    have hn1 : n = 1 := h3.resolve_left (by simp)
    subst hn1
    have hlt : off < cs.size := by omega
    have : cs[off]? = some cs[off] := by simp [hlt]
    simp [part, h2, this, packV]
    rw [List.drop_eq_getElem_cons (by simpa using hlt)]
    simp
theorem snd_fld {ag : Bool} {n off : Nat} {x : Src} {d : Dl} (hc : chkOp P o.op (.fld ag n off x) = true) (hI : Inv w g ow st a) {call : CallF} (hd : delta call st (.fld ag n off x) = some d) {Q : Exit → Act → World → Prop} :
    o.wp P a w (Nxt w g ow st.h.length (d.ap o.dst st)) Q := by
  cases hop : o.op <;> rw [hop] at hc <;> try (simp [chkOp] at hc; done)
  rename_i t y i
  simp only [chkOp] at hc
  split at hc
  · rename_i fs hfs
    have ht := fields_of hfs
    simp at hc
    obtain ⟨hc, c1⟩ := hc
    split at hc
    · rename_i f hf
      simp at hc
      obtain ⟨⟨rfl, hl⟩, hn⟩ := hc
      simp only [delta] at hd
      split at hd
      · rename_i cs e
        split at hd
        · rename_i us hcut
          obtain rfl := Option.some.inj hd
          obtain ⟨h1, h1p, h1o⟩ := ev_spec hI c1 e
          generalize hq : a.eval y = q at h1 h1o
          obtain ⟨k1, k2, k3⟩ := cut_some hcut
          cases h1 with
          | agg _ vs hlen hcell hr =>
            have hrun := run_part (P := P) (w := w) hl vs f.offset (by omega) hn
            have hget : ∀ (j : Nat) (x : TV) (v : Value), us[j]? = some x → ((vs.toList.drop f.offset).take n)[j]? = some v → x.isCell = true ∧ VR w g st.h.length x v := by
              intro j x v hx hv
              rw [k3] at hx
              rw [List.getElem?_take] at hv
              split at hv
              · rename_i hj
                rw [if_pos hj] at hx
                rw [List.getElem?_drop] at hv
                have hv' : vs[f.offset + j]? = some v := by simpa using hv
                exact ⟨hcell _ x v hx hv', hr _ x v hx hv'⟩
              · cases hv
            obtain ⟨p1, p2, p3⟩ := VR.pack (ag := ag) (us := us) (vs := (vs.toList.drop f.offset).take n) (by simp; omega) (by have := (lay_of hl).2.2; rw [k2]; exact this) hget
            refine wp_val (w' := w) (v := packV ag ((vs.toList.drop f.offset).take n)) ?_ (hI.nx0 o.dst ⟨p1, p2, ?_⟩)
            · unfold execOp; rw [hop]
              simp [hq, Instr.field, run_underlying ht, hf, asAgg, hrun]
            · -- a part of what owns nothing
              intro w' g' ow' q
              have hpoor : ∀ (j : Nat) (x : TV) (v : Value), us[j]? = some x → ((vs.toList.drop f.offset).take n)[j]? = some v → ∀ q, Owns w' g' ow' q x v := by
                intro j x v hx hv q p sz s l A n' c hs
                have hx2 := hx
                rw [k3] at hx
                rw [List.getElem?_take] at hv
                split at hv
                · rename_i hj
                  rw [if_pos hj] at hx
                  rw [List.getElem?_drop] at hv
                  have hv' : vs[f.offset + j]? = some v := by simpa using hv
                  have := h1o w' g' (fun b => if ow' b = some (q ++ p) then some ([] ++ ((f.offset + j) :: p)) else none) [] ((f.offset + j) :: p) sz s l A n' c (.agg _ _ _ x v p _ _ hx hv' hs)
                  obtain ⟨z1, z2⟩ := this
                  refine ⟨z1, fun hh => ?_⟩
                  obtain ⟨ad, e1, e2, e3⟩ := z2 hh
                  refine ⟨ad, e1, ?_, e3⟩
                  by_cases hw2 : ow' ad.block = some (q ++ p)
                  · exact hw2
                  · simp [hw2] at e2
                · cases hv
              cases ag with
              | true =>
                intro p sz s l A n' c hs
                cases hs with
                | agg _ _ k x v p _ _ hx hv h' =>
                  have := hpoor k x v hx (by simpa using hv) (q ++ [k]) p sz s l A n' c h'
                  simpa using this
              | false =>
                have h1 : us.length = 1 := by rw [k2]; exact (lay_of hl).2.2.resolve_left (by simp)
                have hvl : ((vs.toList.drop f.offset).take n).length = 1 := by rw [← h1]; simp; omega
                match us, (vs.toList.drop f.offset).take n, h1, hvl, hpoor with
                | [x], [v], _, _, hp => exact hp 0 x v rfl rfl q
        · cases hd
      · cases hd
    · cases hc
  · cases hc
end
end Go.T
