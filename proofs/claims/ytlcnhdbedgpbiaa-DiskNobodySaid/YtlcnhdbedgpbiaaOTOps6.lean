/- Operations of the small machine: reads and writes of boxes. -/
import Derived.Test.YtlcnhdbedgpbiaaOTOps5
set_option linter.unusedVariables false
set_option linter.unusedSimpArgs false
set_option maxRecDepth 10000
namespace Go.T
section
variable {P : Program} {w : World} {g : Gh} {ow : Ow} {st : St} {a : Act} {o : Oper} {dst : Option Nat}
theorem Owns.moveCell {w' : World} {g' : Gh} {ow' : Ow} {q q' : List Nat} {x : TV} {v : Value} (h : Owns w g ow q x v) (hx : x.isCell = true)
    (hk : ∀ b, ow b = some q → w'.heap[b]? = w.heap[b]? ∧ g'.imm b = g.imm b ∧ ow' b = some q') : Owns w' g' ow' q' x v := by
  intro p sz s l A n c hs
  obtain ⟨rfl, rfl, rfl⟩ := hs.cell hx
  obtain ⟨h0, h1⟩ := h [] sz s l A n c (.here _ _)
  refine ⟨h0, fun hh => ?_⟩
  obtain ⟨a, ha, ho, vs, ty, fr, hr, e1, e2, e3⟩ := h1 hh
  obtain ⟨k1, k2, k3⟩ := hk _ (by simpa using ho)
  exact ⟨a, ha, by simpa using k3, vs, ty, fr, by unfold RowOf at *; rw [k1]; exact hr, by rw [k2]; exact e1, e2, e3⟩
/-- A renaming of places. -/
def rnO (ow : Ow) (ρ : List Nat → List Nat) : Ow := fun b => (ow b).map ρ
theorem rnO_at {ow : Ow} {ρ : List Nat → List Nat} {b : Nat} {r : List Nat} (h : ow b = some r) : rnO ow ρ b = some (ρ r) := by simp [rnO, h]
theorem Stp.ren {m : Nat} (hbd : ∀ b q, ow b = some q → b < w.heap.size) (ρ : List Nat → List Nat) (h2 : ∀ q, ρ (2 :: q) = 2 :: q) (h3 : ∀ r q, ρ r = 2 :: q → r = 2 :: q) : Stp w g ow m w g (rnO ow ρ) := by
  refine ⟨rfl, rfl, rfl, Nat.le_refl _, fun _ _ _ _ => rfl, fun _ _ => Nat.le_refl _, fun _ _ => rfl, fun b vs ty fr hh => ⟨vs, fr, hh, rfl⟩, fun b hb hf => ⟨rfl, rfl, ?_⟩, fun b q hq => ?_⟩
  · rcases hf with hf | ⟨r, hf⟩
    · simp [rnO, hf]
    · simp [rnO, hf, h2]
  · unfold rnO at hq
    cases hb : ow b with
    | none => rw [hb] at hq; cases hq
    | some r =>
      rw [hb] at hq
      have : ρ r = 2 :: q := by simpa using hq
      have := h3 r q this
      subst this
      exact ⟨hbd b _ hb, rfl⟩
theorem rnO_bd {ρ : List Nat → List Nat} (hbd : ∀ b q, ow b = some q → b < w.heap.size) : ∀ b q, rnO ow ρ b = some q → b < w.heap.size := by
  intro b q hq
  unfold rnO at hq
  cases hb : ow b with
  | none => rw [hb] at hq; cases hq
  | some r => exact hbd b r hb
theorem Owns.ren {q : List Nat} {x : TV} {v : Value} (h : Owns w g ow q x v) (ρ : List Nat → List Nat) (hρ : ∀ p, ρ (q ++ p) = q ++ p) : Owns w g (rnO ow ρ) q x v :=
  h.mono (fun b p hb => ⟨rfl, rfl, by rw [rnO_at hb, hb, hρ]⟩)
theorem splice_get {cs vs : List TV} {o j : Nat} (h : o + vs.length ≤ cs.length) : (splice cs o vs)[j]? = if o ≤ j ∧ j < o + vs.length then vs[j - o]? else cs[j]? := by
  unfold splice
  rw [List.getElem?_append, List.getElem?_append]
  have h1 : (cs.take o).length = o := by simp; omega
  rw [h1]
  by_cases hj : j < o
  · rw [if_pos hj, if_neg (by omega), List.getElem?_take, if_pos hj]
  · rw [if_neg hj]
    by_cases hj2 : j < o + vs.length
    · rw [if_pos (by omega), if_pos (by omega)]
    · rw [if_neg (by omega), if_neg (by omega), List.getElem?_drop]
      congr 1; omega
theorem splice_len {cs vs : List TV} {o : Nat} (h : o + vs.length ≤ cs.length) : (splice cs o vs).length = cs.length := by
  simp [splice]; omega
/-- A box some cells of which own nothing any more. -/
theorem BoxR.down {m : Nat} {q : List Nat} {cs us : List TV} {b k n : Nat} (h : BoxR w g m ow q cs b) (hc : Go.T.cut cs k n = some us) (ρ : List Nat → List Nat) (hq : ρ q = q) (hρ : ∀ j, ¬ (k ≤ j ∧ j < k + n) → ρ (q ++ [j]) = q ++ [j]) :
    BoxR w g m (rnO ow ρ) q (splice cs k (us.map TV.shr0)) b := by
  obtain ⟨vs, ty, fr, hr, hl, hf, hi, ho, hcell⟩ := h
  obtain ⟨h1, h2, h3⟩ := cut_some hc
  have hle : k + (us.map TV.shr0).length ≤ cs.length := by simp; omega
  refine ⟨vs, ty, fr, hr, by rw [splice_len hle]; exact hl, hf, hi, by rw [rnO_at ho, hq], fun j x v hx hv => ?_⟩
  rw [splice_get hle] at hx
  split at hx
  · rename_i hj
    obtain ⟨y, hy, rfl⟩ := getElem?_map_some hx
    rw [h3] at hy
    split at hy
    · have hj2 : k + (j - k) = j := by omega
      rw [hj2] at hy
      obtain ⟨c1, c2, c3⟩ := hcell j y v hy hv
      exact ⟨by rw [shr0_isCell]; exact c1, c2.shr0, owns_cell (by rw [shr0_isCell]; exact c1) (shr0_noOwn y)⟩
    · cases hy
  · rename_i hj
    obtain ⟨c1, c2, c3⟩ := hcell j x v hx hv
    refine ⟨c1, c2, ?_⟩
    intro p sz s l A n' c hs
    obtain ⟨rfl, rfl, rfl⟩ := hs.cell c1
    obtain ⟨z1, z2⟩ := c3 [] sz s l A n' c (.here _ _)
    refine ⟨z1, fun hh => ?_⟩
    obtain ⟨ad, e1, e2, e3⟩ := z2 hh
    refine ⟨ad, e1, ?_, e3⟩
    rw [rnO_at e2]
    simp only [List.append_nil]
    rw [hρ j (by simpa [h2] using hj)]
/-- The places of what is taken out of a box: the cells k, .., k + n - 1 of the box at q become the value at slot d. -/
def rhoC (q : List Nat) (k n d : Nat) (ag : Bool) : List Nat → List Nat := fun r =>
  if r.length = q.length + 1 ∧ q.isPrefixOf r then
    let j := r.getD q.length 0
    if k ≤ j ∧ j < k + n then [0, d] ++ (if ag then [j - k] else []) else r
  else r
theorem rhoC_in {q : List Nat} {k n d : Nat} {ag : Bool} {j : Nat} (h : k ≤ j ∧ j < k + n) : rhoC q k n d ag (q ++ [j]) = [0, d] ++ (if ag then [j - k] else []) := by
  unfold rhoC
  rw [if_pos ⟨by simp, by simp⟩]
  simp [h]
theorem rhoC_out {q : List Nat} {k n d : Nat} {ag : Bool} {j : Nat} (h : ¬ (k ≤ j ∧ j < k + n)) : rhoC q k n d ag (q ++ [j]) = q ++ [j] := by
  unfold rhoC
  rw [if_pos ⟨by simp, by simp⟩]
  simp [h]
theorem rhoC_self {q : List Nat} {k n d : Nat} {ag : Bool} : rhoC q k n d ag q = q := by
  unfold rhoC
  rw [if_neg (by simp)]
theorem rhoC_far {q : List Nat} {k n d : Nat} {ag : Bool} {r : List Nat} (h : q.isPrefixOf r = false) : rhoC q k n d ag r = r := by
  unfold rhoC
  rw [if_neg (by simp [h])]
theorem rhoC_two {x y : Nat} {k n d : Nat} {ag : Bool} (hx : x ≠ 2) : (∀ r, rhoC [x, y] k n d ag (2 :: r) = 2 :: r) ∧ ∀ r s, rhoC [x, y] k n d ag r = 2 :: s → r = 2 :: s := by
  refine ⟨fun r => rhoC_far (by simp [List.isPrefixOf, hx]), fun r s h => ?_⟩
  unfold rhoC at h
  split at h
  · simp only at h
    split at h
    · simp at h
    · exact h
  · exact h
theorem owns_pack {q' : List Nat} {ag : Bool} {us : List TV} {vs : List Value} (hl : us.length = vs.length) (hag : ag = true ∨ us.length = 1) (h : ∀ (j : Nat) (x : TV) (v : Value), us[j]? = some x → vs[j]? = some v → Owns w g ow (q' ++ (if ag then [j] else [])) x v) : Owns w g ow q' (pack ag us) (packV ag vs) := by
  cases ag with
  | true =>
    intro p sz s l A n c hs
    cases hs with
    | agg _ _ k x v p _ _ hx hv h' =>
      have := h k x v hx (by simpa using hv) p sz s l A n c h'
      simpa using this
  | false =>
    have h1 : us.length = 1 := hag.resolve_left (by simp)
    match us, vs, hl, h1, h with
    | [x], [v], _, _, h =>
      have := h 0 x v rfl rfl
      simpa [pack, packV] using this
/-- What is taken out of a slot's box. -/
theorem Inv.takeL (hI : Inv w g ow st a) {b : Nat} {cs us : List TV} (hb : sl st.t b = .lbox cs) {k n : Nat} (hc : cut cs k n = some us) (d : Nat) (ag : Bool) :
    Inv w g (rnO ow (rhoC [0, b] k n d ag)) { st with t := st.t.set b (.lbox (splice cs k (us.map TV.shr0))) } a where
  defers := hI.defers
  len := by simpa using hI.len
  bd := rnO_bd hI.bd
  base := hI.base
  box i ds hi := by
    intro hdd
    obtain ⟨vs, ty, fr, h1, h2, h3, h4, h5, h6⟩ := hI.box i ds hi hdd
    refine ⟨vs, ty, fr, h1, h2, h3, h4, by rw [rnO_at h5, rhoC_far (by simp [List.isPrefixOf])], fun x y v hx hv => ?_⟩
    obtain ⟨c1, c2, c3⟩ := h6 x y v hx hv
    exact ⟨c1, c2, c3.ren _ (fun p => rhoC_far (by simp [List.isPrefixOf]))⟩
  slot j := by
    have hlb : b < st.t.length := by
      rcases Nat.lt_or_ge b st.t.length with h | h
      · exact h
      · simp [sl, List.getElem?_eq_none h] at hb
    have hj := hI.slot j
    rw [sl_set]
    by_cases hbj : b = j
    · subst hbj
      rw [if_pos ⟨rfl, hlb⟩]
      rw [hb] at hj
      obtain ⟨k2, e1, e2⟩ := hj
      exact ⟨k2, e1, e2.down hc _ rhoC_self (fun j hj => rhoC_out hj)⟩
    · rw [if_neg (fun h => hbj h.1)]
      have hfar : ∀ p, rhoC [0, b] k n d ag ([0, j] ++ p) = [0, j] ++ p := fun p => rhoC_far (pre_slot hbj)
      generalize sl st.t j = x at hj ⊢
      cases x <;> first | exact ⟨hj.1, hj.2.ren _ hfar⟩ | skip
      case lbox ds =>
        obtain ⟨k2, e1, vs, ty, fr, r1, r2, r3, r4, r5, r6⟩ := hj
        refine ⟨k2, e1, vs, ty, fr, r1, r2, r3, r4, by rw [rnO_at r5]; have := hfar []; simp at this; rw [this], fun x y v hx hv => ?_⟩
        obtain ⟨c1, c2, c3⟩ := r6 x y v hx hv
        exact ⟨c1, c2, c3.ren _ (fun p => by rw [List.append_assoc]; exact hfar _)⟩
      case lp b' off =>
        intro ds hds
        by_cases hbb : b = b'
        · subst hbb
          exact hj cs hb
        · rw [sl_set, if_neg (fun h => hbb h.1)] at hds
          exact hj ds hds
theorem snd_ldl {tk ag : Bool} {n b : Nat} {p : Src} {d : Dl} (hc : chkOp P o.op (.ldl tk ag n b p) = true) (hI : Inv w g ow st a) {call : CallF} (hd : delta call st (.ldl tk ag n b p) = some d) {Q : Exit → Act → World → Prop} :
    o.wp P a w (Nxt w g ow st.h.length (d.ap o.dst st)) Q := by
  cases hop : o.op <;> rw [hop] at hc <;> try (simp [chkOp] at hc; done)
  rename_i t y
  simp [chkOp] at hc
  simp only [delta] at hd
  split at hd
  · rename_i b' off e
    split at hd
    · rename_i hbb
      subst hbb
      split at hd
      · rename_i cs hb
        split at hd
        · rename_i us hcut
          obtain ⟨k, k1, k2⟩ := (ad_spec hI hc.2).2.2.2 _ _ e cs hb
          have hsb := hI.slot b'
          rw [hb] at hsb
          obtain ⟨k', e1, hbox⟩ := hsb
          obtain rfl : k = k' := by rw [k1] at e1; simpa using e1
          obtain ⟨vs, r1, r2, r3, r4⟩ := hbox.cut hcut
          have hag := (lay_of hc.1).2.2
          split at hd
          · rename_i htk
            obtain rfl := Option.some.inj hd
            have hrun : (execOp a.eval o).run P w = .ok (.value (packV ag vs)) w := by
              unfold execOp; rw [hop]
              simp only [k2, Sem.run_bind, run_ld hc.1 r1 r2, Result.andThen_ok]; rfl
            cases hdst : o.dst with
            | none =>
              rw [← hdst]
              refine wp_val hrun ?_
              have h1 := hI.takeL hb hcut 0 ag
              refine ⟨g, rnO ow (rhoC [0, b'] off n 0 ag), Stp.ren hI.bd _ (rhoC_two (x := 0) (by decide)).1 (rhoC_two (x := 0) (by decide)).2, ?_⟩
              rw [hdst]
              exact ⟨h1.defers, h1.len, h1.slot, h1.box, h1.bd, h1.base⟩
            | some i =>
              rw [← hdst]
              refine wp_val hrun ?_
              have h1 := hI.takeL hb hcut i ag
              refine ⟨g, rnO ow (rhoC [0, b'] off n i ag), Stp.ren hI.bd _ (rhoC_two (x := 0) (by decide)).1 (rhoC_two (x := 0) (by decide)).2, ?_⟩
              rw [hdst]
              obtain ⟨p1, p2, p3⟩ := VR.pack (ag := ag) (us := us) (vs := vs) (by omega) (by rw [r3]; exact hag) (fun j x v hx hv => ⟨(r4 j x v hx hv).1, (r4 j x v hx hv).2.1⟩)
              refine h1.put i p2 p1 (owns_pack (by omega) (by rw [r3]; exact hag) (fun j x v hx hv => ?_))
              obtain ⟨c1, c2, c3⟩ := r4 j x v hx hv
              have hjn : j < n := by have := (List.getElem?_eq_some_iff.1 hx).1; omega
              refine c3.moveCell c1 (fun b2 hb2 => ⟨rfl, rfl, ?_⟩)
              rw [rnO_at hb2, rhoC_in (by omega)]
              simp
          · obtain rfl := Option.some.inj hd
            exact ld_plain hop hI hc.1 k2 r1 r2 r3 (fun j x v hx hv => ⟨(r4 j x v hx hv).1, (r4 j x v hx hv).2.1⟩)
        · cases hd
      · cases hd
    · cases hd
  · cases hd
theorem getD_some {α : Type} {l : List α} {i : Nat} {x d : α} (h : l[i]? = some x) : l.getD i d = x := by simp [h]
/-- What is taken out of a box. -/
theorem Inv.takeH (hI : Inv w g ow st a) {b : Nat} {cs us : List TV} (hb : st.h[b]? = some cs) (hdb : dead cs = false) {k n : Nat} (hc : cut cs k n = some us) (d : Nat) (ag : Bool) :
    Inv w g (rnO ow (rhoC [1, b] k n d ag)) { st with h := st.h.set b (splice cs k (us.map TV.shr0)) } a where
  defers := hI.defers
  len := by simpa using hI.len
  bd := rnO_bd hI.bd
  base := by simpa using hI.base
  box i ds hi := by
    have hlb : b < st.h.length := (List.getElem?_eq_some_iff.1 hb).1
    rw [show (st.h.set b (splice cs k (us.map TV.shr0))).length = st.h.length by simp]
    rw [List.getElem?_set] at hi
    split at hi
    · rename_i hbi
      subst hbi
      (try rw [if_pos hlb] at hi)
      obtain rfl := Option.some.inj hi
      exact ((hI.box b cs hb hdb).down hc _ rhoC_self (fun j hj => rhoC_out hj)).d
    · rename_i hbi
      intro hdd
      obtain ⟨vs, ty, fr, h1, h2, h3, h4, h5, h6⟩ := hI.box i ds hi hdd
      have hfar : ∀ p, rhoC [1, b] k n d ag ([1, i] ++ p) = [1, i] ++ p := fun p => rhoC_far (by simp [List.isPrefixOf, hbi])
      refine ⟨vs, ty, fr, h1, h2, h3, h4, by rw [rnO_at h5]; have := hfar []; simp at this; rw [this], fun x y v hx hv => ?_⟩
      obtain ⟨c1, c2, c3⟩ := h6 x y v hx hv
      exact ⟨c1, c2, c3.ren _ (fun p => by rw [List.append_assoc]; exact hfar _)⟩
  slot j := by
    rw [show (st.h.set b (splice cs k (us.map TV.shr0))).length = st.h.length by simp]
    have hj := hI.slot j
    have hfar : ∀ p, rhoC [1, b] k n d ag ([0, j] ++ p) = [0, j] ++ p := fun p => rhoC_far (by simp [List.isPrefixOf])
    show SlotR w g st.h.length _ st.t a.tmps j (sl st.t j) _
    generalize sl st.t j = x at hj ⊢
    cases x <;> first | exact ⟨hj.1, hj.2.ren _ hfar⟩ | skip
    case lbox ds =>
      obtain ⟨k2, e1, vs, ty, fr, r1, r2, r3, r4, r5, r6⟩ := hj
      refine ⟨k2, e1, vs, ty, fr, r1, r2, r3, r4, by rw [rnO_at r5]; have := hfar []; simp at this; rw [this], fun x y v hx hv => ?_⟩
      obtain ⟨c1, c2, c3⟩ := r6 x y v hx hv
      exact ⟨c1, c2, c3.ren _ (fun p => by rw [List.append_assoc]; exact hfar _)⟩
    case lp b' off => exact hj
theorem snd_ldh {tk ag : Bool} {n : Nat} {p : Src} {d : Dl} (hc : chkOp P o.op (.ldh tk ag n p) = true) (hI : Inv w g ow st a) {call : CallF} (hd : delta call st (.ldh tk ag n p) = some d) {Q : Exit → Act → World → Prop} :
    o.wp P a w (Nxt w g ow st.h.length (d.ap o.dst st)) Q := by
  cases hop : o.op <;> rw [hop] at hc <;> try (simp [chkOp] at hc; done)
  rename_i t y
  simp [chkOp] at hc
  have hag := (lay_of hc.1).2.2
  simp only [delta] at hd
  split at hd
  · rename_i us hget
    unfold getH at hget
    split at hget
    · rename_i i off e
      split at hget
      · rename_i cs hb
        obtain ⟨k2, k3⟩ := (ad_spec hI hc.2).1 _ _ e
        obtain ⟨hb, hdb⟩ := live_some hb
        have hbox := hI.box i cs hb hdb
        obtain ⟨vs, r1, r2, r3, r4⟩ := hbox.cut hget
        split at hd
        · rename_i htk
          rw [e] at hd
          simp only at hd
          obtain rfl := Option.some.inj hd
          have hrun : (execOp a.eval o).run P w = .ok (.value (packV ag vs)) w := by
            unfold execOp; rw [hop]
            simp only [k2, Sem.run_bind, run_ld hc.1 r1 r2, Result.andThen_ok]; rfl
          have hgd : st.h.getD i [] = cs := getD_some hb
          rw [hgd]
          cases hdst : o.dst with
          | none =>
            rw [← hdst]
            refine wp_val hrun ?_
            have h1 := hI.takeH hb hdb hget 0 ag
            refine ⟨g, rnO ow (rhoC [1, i] off n 0 ag), Stp.ren hI.bd _ (rhoC_two (x := 1) (by decide)).1 (rhoC_two (x := 1) (by decide)).2, ?_⟩
            rw [hdst]
            exact ⟨h1.defers, h1.len, h1.slot, h1.box, h1.bd, h1.base⟩
          | some j =>
            rw [← hdst]
            refine wp_val hrun ?_
            have h1 := hI.takeH hb hdb hget j ag
            refine ⟨g, rnO ow (rhoC [1, i] off n j ag), Stp.ren hI.bd _ (rhoC_two (x := 1) (by decide)).1 (rhoC_two (x := 1) (by decide)).2, ?_⟩
            rw [hdst]
            obtain ⟨p1, p2, p3⟩ := VR.pack (ag := ag) (us := us) (vs := vs) (by omega) (by rw [r3]; exact hag) (fun j x v hx hv => ⟨(r4 j x v hx hv).1, (r4 j x v hx hv).2.1⟩)
            refine h1.put j p2 (by simpa using p1) (owns_pack (by omega) (by rw [r3]; exact hag) (fun x y v hx hv => ?_))
            obtain ⟨c1, c2, c3⟩ := r4 x y v hx hv
            have hjn : x < n := by have := (List.getElem?_eq_some_iff.1 hx).1; omega
            refine c3.moveCell c1 (fun b2 hb2 => ⟨rfl, rfl, ?_⟩)
            rw [rnO_at hb2, rhoC_in (by omega)]
            simp
        · obtain rfl := Option.some.inj hd
          exact ld_plain hop hI hc.1 k2 r1 r2 r3 (fun j x v hx hv => ⟨(r4 j x v hx hv).1, (r4 j x v hx hv).2.1⟩)
      · cases hget
    · rename_i cs e
      obtain ⟨b, off, vs, h2, h3, h4, h5, h6⟩ := cp_range ((ad_spec hI hc.2).2.1 _ e) hget
      split at hd
      · rw [e] at hd; cases hd
      · obtain rfl := Option.some.inj hd
        exact ld_plain hop hI hc.1 h2 h3 h4 h5 h6
    · cases hget
  · cases hd
theorem argOk_plain {x : TV} (h : argOk x = true) : plainV x = true := by
  rcases argOk_cells h with ⟨cs, rfl, _⟩ | h
  · rfl
  · cases x <;> first | rfl | simp [TV.isCell] at h
theorem BoxR.reow {m : Nat} {q : List Nat} {cs : List TV} {b : Nat} {ow' : Ow} (h : BoxR w g m ow q cs b) (hk : ∀ b p, ow b = some (q ++ p) → ow' b = some (q ++ p)) : BoxR w g m ow' q cs b := by
  obtain ⟨vs, ty, fr, r1, r2, r3, r4, r5, r6⟩ := h
  refine ⟨vs, ty, fr, r1, r2, r3, r4, by have := hk b []; simp at this; exact this r5, fun x y v hx hv => ?_⟩
  obtain ⟨c1, c2, c3⟩ := r6 x y v hx hv
  exact ⟨c1, c2, c3.mono (fun b p hb => ⟨rfl, rfl, by rw [hb]; have := hk b ([x] ++ p); simp at this; simp at hb ⊢; exact this hb⟩)⟩
/-- A slot's value told otherwise; what others own stays. -/
theorem Inv.reslot (hI : Inv w g ow st a) (i : Nat) {x : TV} {ow' : Ow} (hp : plainV (sl st.t i) = true) (hx : plainV x = true) (hv : VR w g st.h.length x (a.tmps.getD i undef)) (ho : Owns w g ow' [0, i] x (a.tmps.getD i undef))
    (hk : ∀ b q, ow b = some q → List.isPrefixOf [0, i] q = false → ow' b = some q) (hb : ∀ b q, ow' b = some q → b < w.heap.size) : Inv w g ow' { st with t := st.t.set i x } a where
  defers := hI.defers
  len := by simpa using hI.len
  base := hI.base
  bd := hb
  box j cs hj := fun hdd => (hI.box j cs hj hdd).reow (fun b p hb => hk b _ hb (by simp [List.isPrefixOf]))
  slot j := by
    have hj := hI.slot j
    rw [sl_set]
    by_cases h : i = j ∧ j < st.t.length
    · obtain ⟨rfl, hl⟩ := h
      rw [if_pos ⟨rfl, hl⟩]
      exact (SlotR.plain hx).2 ⟨hv, ho⟩
    · rw [if_neg h]
      by_cases hij : i = j
      · subst hij
        have hl : ¬ i < st.t.length := fun h' => h ⟨rfl, h'⟩
        have : sl st.t i = .junk := by simp [sl, List.getElem?_eq_none (Nat.le_of_not_lt hl)]
        rw [this]
        refine ⟨.junk _, ?_⟩
        intro p sz s l A n c hs
        cases hs
      · have hfar : ∀ b p, ow b = some ([0, j] ++ p) → ow' b = some ([0, j] ++ p) := fun b p hb => hk b _ hb (pre_slot hij)
        generalize sl st.t j = y at hj ⊢
        cases y <;> first | exact ⟨hj.1, hj.2.mono (fun b p hb => ⟨rfl, rfl, by rw [hb]; exact hfar b p hb⟩)⟩ | skip
        case lbox ds =>
          obtain ⟨k2, e1, e2⟩ := hj
          exact ⟨k2, e1, e2.reow hfar⟩
        case lp b' off =>
          intro ds hds
          rw [sl_set] at hds
          split at hds
          · rw [hds] at hx; simp [plainV] at hx
          · exact hj ds hds
theorem snd_ext {tk : Bool} {i : Nat} {x : Src} {d : Dl} (hc : chkOp P o.op (.ext tk i x) = true) (hI : Inv w g ow st a) {call : CallF} (hd : delta call st (.ext tk i x) = some d) {Q : Exit → Act → World → Prop} :
    o.wp P a w (Nxt w g ow st.h.length (d.ap o.dst st)) Q := by
  cases hop : o.op <;> rw [hop] at hc <;> try (simp [chkOp] at hc; done)
  rename_i y k
  simp [chkOp] at hc
  obtain ⟨rfl, hc⟩ := hc
  simp only [delta] at hd
  cases x with
  | c v => simp at hd
  | s t =>
    simp only at hd
    cases y <;> simp [chkS] at hc
    subst hc
    rename_i t
    split at hd
    · rename_i vs hsl
      split at hd
      · rename_i v hv
        have hsj := hI.slot t
        rw [hsl] at hsj
        obtain ⟨hVR, hOw⟩ := hsj
        have he : a.eval (.tmp t) = a.tmps.getD t undef := rfl
        generalize hq : a.tmps.getD t undef = q at hVR hOw
        cases hVR with
        | tup _ us hlen hok hr =>
          obtain ⟨u, hu⟩ : ∃ u, us[k]? = some u := by
            have := (List.getElem?_eq_some_iff.1 hv).1
            exact ⟨us[k]'(by omega), by simp⟩
          have hrun : (execOp a.eval o).run P w = .ok (.value u) w := by
            unfold execOp; rw [hop]
            simp [he, hq, Instr.extract, hu]
          have hok' := hok _ _ _ hv hu
          have hv' := hr _ _ _ hv hu
          split at hd
          · obtain rfl := Option.some.inj hd
            have hown : Owns w g ow ([0, t] ++ [k]) v u := by
              intro p sz s l A n c hs
              have := hOw (k :: p) sz s l A n c (.tup _ _ k v u p _ _ hv hu hs)
              simpa using this
            have hne : ∀ j p, j ≠ k → List.isPrefixOf ([0, t] ++ [k]) ([0, t] ++ (j :: p)) = false := fun j p hj => by simp [List.isPrefixOf]; exact fun h => hj h.symm
            have hvk : k < vs.length := (List.getElem?_eq_some_iff.1 hv).1
            have key : ∀ dd : Nat, Inv w g (mvO ow ([0, t] ++ [k]) [0, dd]) { st with t := st.t.set t (.tup (vs.set k v.shrA)) } a := by
              intro dd
              refine hI.reslot t (by rw [hsl]; rfl) rfl ?_ ?_ (fun b q hb hn => mvO_far hb ?_) (mvO_bd hI.bd)
              · rw [hq]
                refine .tup _ _ (by simpa using hlen) (fun j x u' hx hu' => ?_) (fun j x u' hx hu' => ?_)
                · rw [List.getElem?_set] at hx
                  split at hx
                  · rename_i hkj; subst hkj
                    (try rw [if_pos hvk] at hx)
                    obtain rfl := Option.some.inj hx
                    rw [argOk_shrA]; exact hok'
                  · exact hok _ _ _ hx hu'
                · rw [List.getElem?_set] at hx
                  split at hx
                  · rename_i hkj; subst hkj
                    (try rw [if_pos hvk] at hx)
                    obtain rfl := Option.some.inj hx
                    rw [hu] at hu'
                    obtain rfl := Option.some.inj hu'
                    exact hv'.shrA
                  · exact hr _ _ _ hx hu'
              · rw [hq]
                intro p sz s l A n c hs
                cases hs with
                | tup _ _ j x u' p _ _ hx hu' h' =>
                  rw [List.getElem?_set] at hx
                  split at hx
                  · rename_i hkj; subst hkj
                    (try rw [if_pos hvk] at hx)
                    obtain rfl := Option.some.inj hx
                    have := (owns_shrA (w := w) (g := g) (ow := mvO ow ([0, t] ++ [k]) [0, dd]) (q := [0, t] ++ [k]) (v := u') hok') p sz s l A n c h'
                    simpa using this
                  · rename_i hkj
                    obtain ⟨z1, z2⟩ := hOw (j :: p) sz s l A n c (.tup _ _ j x u' p _ _ hx hu' h')
                    refine ⟨z1, fun hh => ?_⟩
                    obtain ⟨ad, e1, e2, e3⟩ := z2 hh
                    exact ⟨ad, e1, mvO_far e2 (hne j p (fun h => hkj h.symm)), e3⟩
              · cases hpre : List.isPrefixOf ([0, t] ++ [k]) q with
                | false => rfl
                | true =>
                  obtain ⟨r, rfl⟩ := List.isPrefixOf_iff_prefix.1 hpre
                  simp [List.isPrefixOf] at hn
            cases hdst : o.dst with
            | none =>
              rw [← hdst]
              refine wp_val hrun ⟨g, mvO ow ([0, t] ++ [k]) [0, 0], Stp.free hI.bd _ 0 [0] (by simp) (by simp) (by decide), ?_⟩
              rw [hdst]
              have h1 := key 0
              exact ⟨h1.defers, h1.len, h1.slot, h1.box, h1.bd, h1.base⟩
            | some i =>
              rw [← hdst]
              refine wp_val hrun ⟨g, mvO ow ([0, t] ++ [k]) [0, i], Stp.free hI.bd _ 0 [i] (by simp) (by simp) (by decide), ?_⟩
              rw [hdst]
              exact (key i).put i (argOk_plain hok') hv' (hown.move (fun b p hb => ⟨rfl, rfl, mvO_at hb⟩))
          · obtain rfl := Option.some.inj hd
            exact wp_val hrun (hI.nx0 o.dst ⟨hv'.shrA, argOk_plain (by rw [argOk_shrA]; exact hok'), fun _ _ _ _ => owns_shrA hok'⟩)
      · cases hd
    · cases hd
end
end Go.T
