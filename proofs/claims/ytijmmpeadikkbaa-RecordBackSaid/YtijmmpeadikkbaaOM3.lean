/- A part of the proofs: the small machine. -/
import Derived.Test.YtijmmpeadikkbaaOM2
/- Operations of the small machine: reads and writes of boxes. -/
set_option linter.unusedVariables false
set_option linter.unusedSimpArgs false
set_option maxRecDepth 10000
namespace Go.T
section
variable {P : Program} {w : World} {g : Gh} {ow : Ow} {st : St} {a : Act} {o : Oper} {dst : Option Nat}
theorem Owns.moveCell {w' : World} {g' : Gh} {ow' : Ow} {q q' : List Nat} {x : TV} {v : Value} (h : Owns w g ow q x v) (hx : x.isCell = true)
    (hk : ∀ b, ow b = some q → w'.heap[b]? = w.heap[b]? ∧ g'.imm b = g.imm b ∧ ow' b = some q') : Owns w' g' ow' q' x v := by
  intro p sz s l A n c hs
  obtain ⟨rfl, rfl, rfl⟩ := hs.cell hx
  obtain ⟨h0, h1⟩ := h [] sz s l A n c (.here _ _)
  refine ⟨h0, fun hh => ?_⟩
  obtain ⟨a, ha, ho, vs, ty, fr, hr, e1, e2, e3⟩ := h1 hh
  obtain ⟨k1, k2, k3⟩ := hk _ (by simpa using ho)
  exact ⟨a, ha, by simpa using k3, vs, ty, fr, by unfold RowOf at *; rw [k1]; exact hr, by rw [k2]; exact e1, e2, e3⟩
/-- A renaming of places. -/
def rnO (ow : Ow) (ρ : List Nat → List Nat) : Ow := fun b => (ow b).map ρ
theorem rnO_at {ow : Ow} {ρ : List Nat → List Nat} {b : Nat} {r : List Nat} (h : ow b = some r) : rnO ow ρ b = some (ρ r) := by simp [rnO, h]
theorem Stp.ren {m : Nat} (hbd : ∀ b q, ow b = some q → b < w.heap.size) (ρ : List Nat → List Nat) (h2 : ∀ q, ρ (2 :: q) = 2 :: q) (h3 : ∀ r q, ρ r = 2 :: q → r = 2 :: q) : Stp w g ow m w g (rnO ow ρ) := by
  refine ⟨rfl, rfl, rfl, Nat.le_refl _, fun _ _ _ _ => rfl, fun _ _ => Nat.le_refl _, fun _ _ => rfl, fun b vs ty fr hh => ⟨vs, fr, hh, rfl⟩, fun b hb hf => ⟨rfl, rfl, ?_⟩, fun b q hq => ?_⟩
  · rcases hf with hf | ⟨r, hf⟩
    · simp [rnO, hf]
    · simp [rnO, hf, h2]
  · unfold rnO at hq
    cases hb : ow b with
    | none => rw [hb] at hq; cases hq
    | some r =>
      rw [hb] at hq
      have : ρ r = 2 :: q := by simpa using hq
      have := h3 r q this
      subst this
      exact ⟨hbd b _ hb, rfl⟩
theorem rnO_bd {ρ : List Nat → List Nat} (hbd : ∀ b q, ow b = some q → b < w.heap.size) : ∀ b q, rnO ow ρ b = some q → b < w.heap.size := by
  intro b q hq
  unfold rnO at hq
  cases hb : ow b with
  | none => rw [hb] at hq; cases hq
  | some r => exact hbd b r hb
theorem Owns.ren {q : List Nat} {x : TV} {v : Value} (h : Owns w g ow q x v) (ρ : List Nat → List Nat) (hρ : ∀ p, ρ (q ++ p) = q ++ p) : Owns w g (rnO ow ρ) q x v :=
  h.mono (fun b p hb => ⟨rfl, rfl, by rw [rnO_at hb, hb, hρ]⟩)
theorem splice_get {cs vs : List TV} {o j : Nat} (h : o + vs.length ≤ cs.length) : (splice cs o vs)[j]? = if o ≤ j ∧ j < o + vs.length then vs[j - o]? else cs[j]? := by
  unfold splice
  rw [List.getElem?_append, List.getElem?_append]
  have h1 : (cs.take o).length = o := by simp; omega
  rw [h1]
  by_cases hj : j < o
  · rw [if_pos hj, if_neg (by omega), List.getElem?_take, if_pos hj]
  · rw [if_neg hj]
    by_cases hj2 : j < o + vs.length
    · rw [if_pos (by omega), if_pos (by omega)]
    · rw [if_neg (by omega), if_neg (by omega), List.getElem?_drop]
      congr 1; omega
theorem splice_len {cs vs : List TV} {o : Nat} (h : o + vs.length ≤ cs.length) : (splice cs o vs).length = cs.length := by
  simp [splice]; omega
/-- A box some cells of which own nothing any more. -/
theorem BoxR.down {m : Nat} {q : List Nat} {cs us : List TV} {b k n : Nat} (h : BoxR w g m ow q cs b) (hc : Go.T.cut cs k n = some us) (ρ : List Nat → List Nat) (hq : ρ q = q) (hρ : ∀ j, ¬ (k ≤ j ∧ j < k + n) → ρ (q ++ [j]) = q ++ [j]) :
    BoxR w g m (rnO ow ρ) q (splice cs k (us.map TV.shr0)) b := by
  obtain ⟨vs, ty, fr, hr, hl, hf, hi, ho, hcell⟩ := h
  obtain ⟨h1, h2, h3⟩ := cut_some hc
  have hle : k + (us.map TV.shr0).length ≤ cs.length := by simp; omega
  refine ⟨vs, ty, fr, hr, by rw [splice_len hle]; exact hl, hf, hi, by rw [rnO_at ho, hq], fun j x v hx hv => ?_⟩
  rw [splice_get hle] at hx
  split at hx
  · rename_i hj
    obtain ⟨y, hy, rfl⟩ := getElem?_map_some hx
    rw [h3] at hy
    split at hy
    · have hj2 : k + (j - k) = j := by omega
      rw [hj2] at hy
      obtain ⟨c1, c2, c3⟩ := hcell j y v hy hv
      exact ⟨by rw [shr0_isCell]; exact c1, c2.shr0, owns_cell (by rw [shr0_isCell]; exact c1) (shr0_noOwn y)⟩
    · cases hy
  · rename_i hj
    obtain ⟨c1, c2, c3⟩ := hcell j x v hx hv
    refine ⟨c1, c2, ?_⟩
    intro p sz s l A n' c hs
    obtain ⟨rfl, rfl, rfl⟩ := hs.cell c1
    obtain ⟨z1, z2⟩ := c3 [] sz s l A n' c (.here _ _)
    refine ⟨z1, fun hh => ?_⟩
    obtain ⟨ad, e1, e2, e3⟩ := z2 hh
    refine ⟨ad, e1, ?_, e3⟩
    rw [rnO_at e2]
    simp only [List.append_nil]
    rw [hρ j (by simpa [h2] using hj)]
/-- The places of what is taken out of a box: the cells k, .., k + n - 1 of the box at q become the value at slot d. -/
def rhoC (q : List Nat) (k n d : Nat) (ag : Bool) : List Nat → List Nat := fun r =>
  if r.length = q.length + 1 ∧ q.isPrefixOf r then
    let j := r.getD q.length 0
    if k ≤ j ∧ j < k + n then [0, d] ++ (if ag then [j - k] else []) else r
  else r
theorem rhoC_in {q : List Nat} {k n d : Nat} {ag : Bool} {j : Nat} (h : k ≤ j ∧ j < k + n) : rhoC q k n d ag (q ++ [j]) = [0, d] ++ (if ag then [j - k] else []) := by
  unfold rhoC
  rw [if_pos ⟨by simp, by simp⟩]
  simp [h]
theorem rhoC_out {q : List Nat} {k n d : Nat} {ag : Bool} {j : Nat} (h : ¬ (k ≤ j ∧ j < k + n)) : rhoC q k n d ag (q ++ [j]) = q ++ [j] := by
  unfold rhoC
  rw [if_pos ⟨by simp, by simp⟩]
  simp [h]
theorem rhoC_self {q : List Nat} {k n d : Nat} {ag : Bool} : rhoC q k n d ag q = q := by
  unfold rhoC
  rw [if_neg (by simp)]
theorem rhoC_far {q : List Nat} {k n d : Nat} {ag : Bool} {r : List Nat} (h : q.isPrefixOf r = false) : rhoC q k n d ag r = r := by
  unfold rhoC
  rw [if_neg (by simp [h])]
theorem rhoC_two {x y : Nat} {k n d : Nat} {ag : Bool} (hx : x ≠ 2) : (∀ r, rhoC [x, y] k n d ag (2 :: r) = 2 :: r) ∧ ∀ r s, rhoC [x, y] k n d ag r = 2 :: s → r = 2 :: s := by
  refine ⟨fun r => rhoC_far (by simp [List.isPrefixOf, hx]), fun r s h => ?_⟩
  unfold rhoC at h
  split at h
  · simp only at h
    split at h
    · simp at h
    · exact h
  · exact h
theorem owns_pack {q' : List Nat} {ag : Bool} {us : List TV} {vs : List Value} (hl : us.length = vs.length) (hag : ag = true ∨ us.length = 1) (h : ∀ (j : Nat) (x : TV) (v : Value), us[j]? = some x → vs[j]? = some v → Owns w g ow (q' ++ (if ag then [j] else [])) x v) : Owns w g ow q' (pack ag us) (packV ag vs) := by
  cases ag with
  | true =>
    intro p sz s l A n c hs
    cases hs with
    | agg _ _ k x v p _ _ hx hv h' =>
      have := h k x v hx (by simpa using hv) p sz s l A n c h'
      simpa using this
  | false =>
    have h1 : us.length = 1 := hag.resolve_left (by simp)
    match us, vs, hl, h1, h with
    | [x], [v], _, _, h =>
      have := h 0 x v rfl rfl
      simpa [pack, packV] using this
/-- What is taken out of a slot's box. -/
theorem Inv.takeL (hI : Inv w g ow st a) {b : Nat} {cs us : List TV} (hb : sl st.t b = .lbox cs) {k n : Nat} (hc : cut cs k n = some us) (d : Nat) (ag : Bool) :
    Inv w g (rnO ow (rhoC [0, b] k n d ag)) { st with t := st.t.set b (.lbox (splice cs k (us.map TV.shr0))) } a where
  defers := hI.defers
  len := by simpa using hI.len
  bd := rnO_bd hI.bd
  base := hI.base
  box i ds hi := by
    intro hdd
    obtain ⟨vs, ty, fr, h1, h2, h3, h4, h5, h6⟩ := hI.box i ds hi hdd
    refine ⟨vs, ty, fr, h1, h2, h3, h4, by rw [rnO_at h5, rhoC_far (by simp [List.isPrefixOf])], fun x y v hx hv => ?_⟩
    obtain ⟨c1, c2, c3⟩ := h6 x y v hx hv
    exact ⟨c1, c2, c3.ren _ (fun p => rhoC_far (by simp [List.isPrefixOf]))⟩
  slot j := by
    have hlb : b < st.t.length := by
      rcases Nat.lt_or_ge b st.t.length with h | h
      · exact h
      · simp [sl, List.getElem?_eq_none h] at hb
    have hj := hI.slot j
    rw [sl_set]
    by_cases hbj : b = j
    · subst hbj
      rw [if_pos ⟨rfl, hlb⟩]
      rw [hb] at hj
      obtain ⟨k2, e1, e2⟩ := hj
      exact ⟨k2, e1, e2.down hc _ rhoC_self (fun j hj => rhoC_out hj)⟩
    · rw [if_neg (fun h => hbj h.1)]
      have hfar : ∀ p, rhoC [0, b] k n d ag ([0, j] ++ p) = [0, j] ++ p := fun p => rhoC_far (pre_slot hbj)
      generalize sl st.t j = x at hj ⊢
      cases x <;> first | exact ⟨hj.1, hj.2.ren _ hfar⟩ | skip
      case lbox ds =>
        obtain ⟨k2, e1, vs, ty, fr, r1, r2, r3, r4, r5, r6⟩ := hj
        refine ⟨k2, e1, vs, ty, fr, r1, r2, r3, r4, by rw [rnO_at r5]; have := hfar []; simp at this; rw [this], fun x y v hx hv => ?_⟩
        obtain ⟨c1, c2, c3⟩ := r6 x y v hx hv
        exact ⟨c1, c2, c3.ren _ (fun p => by rw [List.append_assoc]; exact hfar _)⟩
      case lp b' off =>
        intro ds hds
        by_cases hbb : b = b'
        · subst hbb
          exact hj cs hb
        · rw [sl_set, if_neg (fun h => hbb h.1)] at hds
          exact hj ds hds
theorem snd_ldl {tk ag : Bool} {n b : Nat} {p : Src} {d : Dl} (hc : chkOp P o.op (.ldl tk ag n b p) = true) (hI : Inv w g ow st a) {call : CallF} (hd : delta call st (.ldl tk ag n b p) = some d) {Q : Exit → Act → World → Prop} :
    o.wp P a w (Nxt w g ow st.h.length (d.ap o.dst st)) Q := by
  cases hop : o.op <;> rw [hop] at hc <;> try (simp [chkOp] at hc; done)
  rename_i t y
  simp [chkOp] at hc
  simp only [delta] at hd
  split at hd
  · rename_i b' off e
    split at hd
    · rename_i hbb
      subst hbb
      split at hd
      · rename_i cs hb
        split at hd
        · rename_i us hcut
          obtain ⟨k, k1, k2⟩ := (ad_spec hI hc.2).2.2.2 _ _ e cs hb
          have hsb := hI.slot b'
          rw [hb] at hsb
          obtain ⟨k', e1, hbox⟩ := hsb
          obtain rfl : k = k' := by rw [k1] at e1; simpa using e1
          obtain ⟨vs, r1, r2, r3, r4⟩ := hbox.cut hcut
          have hag := (lay_of hc.1).2.2
          split at hd
          · rename_i htk
            obtain rfl := Option.some.inj hd
            have hrun : (execOp a.eval o).run P w = .ok (.value (packV ag vs)) w := by
              unfold execOp; rw [hop]
              simp only [k2, Sem.run_bind, run_ld hc.1 r1 r2, Result.andThen_ok]; rfl
            cases hdst : o.dst with
            | none =>
              rw [← hdst]
              refine wp_val hrun ?_
              have h1 := hI.takeL hb hcut 0 ag
              refine ⟨g, rnO ow (rhoC [0, b'] off n 0 ag), Stp.ren hI.bd _ (rhoC_two (x := 0) (by decide)).1 (rhoC_two (x := 0) (by decide)).2, ?_⟩
              rw [hdst]
              exact ⟨h1.defers, h1.len, h1.slot, h1.box, h1.bd, h1.base⟩
            | some i =>
              rw [← hdst]
              refine wp_val hrun ?_
              have h1 := hI.takeL hb hcut i ag
              refine ⟨g, rnO ow (rhoC [0, b'] off n i ag), Stp.ren hI.bd _ (rhoC_two (x := 0) (by decide)).1 (rhoC_two (x := 0) (by decide)).2, ?_⟩
              rw [hdst]
              obtain ⟨p1, p2, p3⟩ := VR.pack (ag := ag) (us := us) (vs := vs) (by omega) (by rw [r3]; exact hag) (fun j x v hx hv => ⟨(r4 j x v hx hv).1, (r4 j x v hx hv).2.1⟩)
              refine h1.put i p2 p1 (owns_pack (by omega) (by rw [r3]; exact hag) (fun j x v hx hv => ?_))
              obtain ⟨c1, c2, c3⟩ := r4 j x v hx hv
              have hjn : j < n := by have := (List.getElem?_eq_some_iff.1 hx).1; omega
              refine c3.moveCell c1 (fun b2 hb2 => ⟨rfl, rfl, ?_⟩)
              rw [rnO_at hb2, rhoC_in (by omega)]
              simp
          · obtain rfl := Option.some.inj hd
            exact ld_plain hop hI hc.1 k2 r1 r2 r3 (fun j x v hx hv => ⟨(r4 j x v hx hv).1, (r4 j x v hx hv).2.1⟩)
        · cases hd
      · cases hd
    · cases hd
  · cases hd
theorem getD_some {α : Type} {l : List α} {i : Nat} {x d : α} (h : l[i]? = some x) : l.getD i d = x := by simp [h]
/-- What is taken out of a box. -/
theorem Inv.takeH (hI : Inv w g ow st a) {b : Nat} {cs us : List TV} (hb : st.h[b]? = some cs) (hdb : dead cs = false) {k n : Nat} (hc : cut cs k n = some us) (d : Nat) (ag : Bool) :
    Inv w g (rnO ow (rhoC [1, b] k n d ag)) { st with h := st.h.set b (splice cs k (us.map TV.shr0)) } a where
  defers := hI.defers
  len := by simpa using hI.len
  bd := rnO_bd hI.bd
  base := by simpa using hI.base
  box i ds hi := by
    have hlb : b < st.h.length := (List.getElem?_eq_some_iff.1 hb).1
    rw [show (st.h.set b (splice cs k (us.map TV.shr0))).length = st.h.length by simp]
    rw [List.getElem?_set] at hi
    split at hi
    · rename_i hbi
      subst hbi
      (try rw [if_pos hlb] at hi)
      obtain rfl := Option.some.inj hi
      exact ((hI.box b cs hb hdb).down hc _ rhoC_self (fun j hj => rhoC_out hj)).d
    · rename_i hbi
      intro hdd
      obtain ⟨vs, ty, fr, h1, h2, h3, h4, h5, h6⟩ := hI.box i ds hi hdd
      have hfar : ∀ p, rhoC [1, b] k n d ag ([1, i] ++ p) = [1, i] ++ p := fun p => rhoC_far (by simp [List.isPrefixOf, hbi])
      refine ⟨vs, ty, fr, h1, h2, h3, h4, by rw [rnO_at h5]; have := hfar []; simp at this; rw [this], fun x y v hx hv => ?_⟩
      obtain ⟨c1, c2, c3⟩ := h6 x y v hx hv
      exact ⟨c1, c2, c3.ren _ (fun p => by rw [List.append_assoc]; exact hfar _)⟩
  slot j := by
    rw [show (st.h.set b (splice cs k (us.map TV.shr0))).length = st.h.length by simp]
    have hj := hI.slot j
    have hfar : ∀ p, rhoC [1, b] k n d ag ([0, j] ++ p) = [0, j] ++ p := fun p => rhoC_far (by simp [List.isPrefixOf])
    show SlotR w g st.h.length _ st.t a.tmps j (sl st.t j) _
    generalize sl st.t j = x at hj ⊢
    cases x <;> first | exact ⟨hj.1, hj.2.ren _ hfar⟩ | skip
    case lbox ds =>
      obtain ⟨k2, e1, vs, ty, fr, r1, r2, r3, r4, r5, r6⟩ := hj
      refine ⟨k2, e1, vs, ty, fr, r1, r2, r3, r4, by rw [rnO_at r5]; have := hfar []; simp at this; rw [this], fun x y v hx hv => ?_⟩
      obtain ⟨c1, c2, c3⟩ := r6 x y v hx hv
      exact ⟨c1, c2, c3.ren _ (fun p => by rw [List.append_assoc]; exact hfar _)⟩
    case lp b' off => exact hj
theorem snd_ldh {tk ag : Bool} {n : Nat} {p : Src} {d : Dl} (hc : chkOp P o.op (.ldh tk ag n p) = true) (hI : Inv w g ow st a) {call : CallF} (hd : delta call st (.ldh tk ag n p) = some d) {Q : Exit → Act → World → Prop} :
    o.wp P a w (Nxt w g ow st.h.length (d.ap o.dst st)) Q := by
  cases hop : o.op <;> rw [hop] at hc <;> try (simp [chkOp] at hc; done)
  rename_i t y
  simp [chkOp] at hc
  have hag := (lay_of hc.1).2.2
  simp only [delta] at hd
  split at hd
  · rename_i us hget
    unfold getH at hget
    split at hget
    · rename_i i off e
      split at hget
      · rename_i cs hb
        obtain ⟨k2, k3⟩ := (ad_spec hI hc.2).1 _ _ e
        obtain ⟨hb, hdb⟩ := live_some hb
        have hbox := hI.box i cs hb hdb
        obtain ⟨vs, r1, r2, r3, r4⟩ := hbox.cut hget
        split at hd
        · rename_i htk
          rw [e] at hd
          simp only at hd
          obtain rfl := Option.some.inj hd
          have hrun : (execOp a.eval o).run P w = .ok (.value (packV ag vs)) w := by
            unfold execOp; rw [hop]
            simp only [k2, Sem.run_bind, run_ld hc.1 r1 r2, Result.andThen_ok]; rfl
          have hgd : st.h.getD i [] = cs := getD_some hb
          rw [hgd]
          cases hdst : o.dst with
          | none =>
            rw [← hdst]
            refine wp_val hrun ?_
            have h1 := hI.takeH hb hdb hget 0 ag
            refine ⟨g, rnO ow (rhoC [1, i] off n 0 ag), Stp.ren hI.bd _ (rhoC_two (x := 1) (by decide)).1 (rhoC_two (x := 1) (by decide)).2, ?_⟩
            rw [hdst]
            exact ⟨h1.defers, h1.len, h1.slot, h1.box, h1.bd, h1.base⟩
          | some j =>
            rw [← hdst]
            refine wp_val hrun ?_
            have h1 := hI.takeH hb hdb hget j ag
            refine ⟨g, rnO ow (rhoC [1, i] off n j ag), Stp.ren hI.bd _ (rhoC_two (x := 1) (by decide)).1 (rhoC_two (x := 1) (by decide)).2, ?_⟩
            rw [hdst]
            obtain ⟨p1, p2, p3⟩ := VR.pack (ag := ag) (us := us) (vs := vs) (by omega) (by rw [r3]; exact hag) (fun j x v hx hv => ⟨(r4 j x v hx hv).1, (r4 j x v hx hv).2.1⟩)
            refine h1.put j p2 (by simpa using p1) (owns_pack (by omega) (by rw [r3]; exact hag) (fun x y v hx hv => ?_))
            obtain ⟨c1, c2, c3⟩ := r4 x y v hx hv
            have hjn : x < n := by have := (List.getElem?_eq_some_iff.1 hx).1; omega
            refine c3.moveCell c1 (fun b2 hb2 => ⟨rfl, rfl, ?_⟩)
            rw [rnO_at hb2, rhoC_in (by omega)]
            simp
        · obtain rfl := Option.some.inj hd
          exact ld_plain hop hI hc.1 k2 r1 r2 r3 (fun j x v hx hv => ⟨(r4 j x v hx hv).1, (r4 j x v hx hv).2.1⟩)
      · cases hget
    · rename_i cs e
      obtain ⟨b, off, vs, h2, h3, h4, h5, h6⟩ := cp_range ((ad_spec hI hc.2).2.1 _ e) hget
      split at hd
      · rw [e] at hd; cases hd
      · obtain rfl := Option.some.inj hd
        exact ld_plain hop hI hc.1 h2 h3 h4 h5 h6
    · cases hget
  · cases hd
theorem argOk_plain {x : TV} (h : argOk x = true) : plainV x = true := by
  rcases argOk_cells h with ⟨cs, rfl, _⟩ | h
  · rfl
  · cases x <;> first | rfl | simp [TV.isCell] at h
theorem BoxR.reow {m : Nat} {q : List Nat} {cs : List TV} {b : Nat} {ow' : Ow} (h : BoxR w g m ow q cs b) (hk : ∀ b p, ow b = some (q ++ p) → ow' b = some (q ++ p)) : BoxR w g m ow' q cs b := by
  obtain ⟨vs, ty, fr, r1, r2, r3, r4, r5, r6⟩ := h
  refine ⟨vs, ty, fr, r1, r2, r3, r4, by have := hk b []; simp at this; exact this r5, fun x y v hx hv => ?_⟩
  obtain ⟨c1, c2, c3⟩ := r6 x y v hx hv
  exact ⟨c1, c2, c3.mono (fun b p hb => ⟨rfl, rfl, by rw [hb]; have := hk b ([x] ++ p); simp at this; simp at hb ⊢; exact this hb⟩)⟩
/-- A slot's value told otherwise; what others own stays. -/
theorem Inv.reslot (hI : Inv w g ow st a) (i : Nat) {x : TV} {ow' : Ow} (hp : plainV (sl st.t i) = true) (hx : plainV x = true) (hv : VR w g st.h.length x (a.tmps.getD i undef)) (ho : Owns w g ow' [0, i] x (a.tmps.getD i undef))
    (hk : ∀ b q, ow b = some q → List.isPrefixOf [0, i] q = false → ow' b = some q) (hb : ∀ b q, ow' b = some q → b < w.heap.size) : Inv w g ow' { st with t := st.t.set i x } a where
  defers := hI.defers
  len := by simpa using hI.len
  base := hI.base
  bd := hb
  box j cs hj := fun hdd => (hI.box j cs hj hdd).reow (fun b p hb => hk b _ hb (by simp [List.isPrefixOf]))
  slot j := by
    have hj := hI.slot j
    rw [sl_set]
    by_cases h : i = j ∧ j < st.t.length
    · obtain ⟨rfl, hl⟩ := h
      rw [if_pos ⟨rfl, hl⟩]
      exact (SlotR.plain hx).2 ⟨hv, ho⟩
    · rw [if_neg h]
      by_cases hij : i = j
      · subst hij
        have hl : ¬ i < st.t.length := fun h' => h ⟨rfl, h'⟩
        have : sl st.t i = .junk := by simp [sl, List.getElem?_eq_none (Nat.le_of_not_lt hl)]
        rw [this]
        refine ⟨.junk _, ?_⟩
        intro p sz s l A n c hs
        cases hs
      · have hfar : ∀ b p, ow b = some ([0, j] ++ p) → ow' b = some ([0, j] ++ p) := fun b p hb => hk b _ hb (pre_slot hij)
        generalize sl st.t j = y at hj ⊢
        cases y <;> first | exact ⟨hj.1, hj.2.mono (fun b p hb => ⟨rfl, rfl, by rw [hb]; exact hfar b p hb⟩)⟩ | skip
        case lbox ds =>
          obtain ⟨k2, e1, e2⟩ := hj
          exact ⟨k2, e1, e2.reow hfar⟩
        case lp b' off =>
          intro ds hds
          rw [sl_set] at hds
          split at hds
          · rw [hds] at hx; simp [plainV] at hx
          · exact hj ds hds
theorem snd_ext {tk : Bool} {i : Nat} {x : Src} {d : Dl} (hc : chkOp P o.op (.ext tk i x) = true) (hI : Inv w g ow st a) {call : CallF} (hd : delta call st (.ext tk i x) = some d) {Q : Exit → Act → World → Prop} :
    o.wp P a w (Nxt w g ow st.h.length (d.ap o.dst st)) Q := by
  cases hop : o.op <;> rw [hop] at hc <;> try (simp [chkOp] at hc; done)
  rename_i y k
  simp [chkOp] at hc
  obtain ⟨rfl, hc⟩ := hc
  simp only [delta] at hd
  cases x with
  | c v => simp at hd
  | s t =>
    simp only at hd
    cases y <;> simp [chkS] at hc
    subst hc
    rename_i t
    split at hd
    · rename_i vs hsl
      split at hd
      · rename_i v hv
        have hsj := hI.slot t
        rw [hsl] at hsj
        obtain ⟨hVR, hOw⟩ := hsj
        have he : a.eval (.tmp t) = a.tmps.getD t undef := rfl
        generalize hq : a.tmps.getD t undef = q at hVR hOw
        cases hVR with
        | tup _ us hlen hok hr =>
          obtain ⟨u, hu⟩ : ∃ u, us[k]? = some u := by
            have := (List.getElem?_eq_some_iff.1 hv).1
            exact ⟨us[k]'(by omega), by simp⟩
          have hrun : (execOp a.eval o).run P w = .ok (.value u) w := by
            unfold execOp; rw [hop]
            simp [he, hq, Instr.extract, hu]
          have hok' := hok _ _ _ hv hu
          have hv' := hr _ _ _ hv hu
          split at hd
          · obtain rfl := Option.some.inj hd
            have hown : Owns w g ow ([0, t] ++ [k]) v u := by
              intro p sz s l A n c hs
              have := hOw (k :: p) sz s l A n c (.tup _ _ k v u p _ _ hv hu hs)
              simpa using this
            have hne : ∀ j p, j ≠ k → List.isPrefixOf ([0, t] ++ [k]) ([0, t] ++ (j :: p)) = false := fun j p hj => by simp [List.isPrefixOf]; exact fun h => hj h.symm
            have hvk : k < vs.length := (List.getElem?_eq_some_iff.1 hv).1
            have key : ∀ dd : Nat, Inv w g (mvO ow ([0, t] ++ [k]) [0, dd]) { st with t := st.t.set t (.tup (vs.set k v.shrA)) } a := by
              intro dd
              refine hI.reslot t (by rw [hsl]; rfl) rfl ?_ ?_ (fun b q hb hn => mvO_far hb ?_) (mvO_bd hI.bd)
              · rw [hq]
                refine .tup _ _ (by simpa using hlen) (fun j x u' hx hu' => ?_) (fun j x u' hx hu' => ?_)
                · rw [List.getElem?_set] at hx
                  split at hx
                  · rename_i hkj; subst hkj
                    (try rw [if_pos hvk] at hx)
                    obtain rfl := Option.some.inj hx
                    rw [argOk_shrA]; exact hok'
                  · exact hok _ _ _ hx hu'
                · rw [List.getElem?_set] at hx
                  split at hx
                  · rename_i hkj; subst hkj
                    (try rw [if_pos hvk] at hx)
                    obtain rfl := Option.some.inj hx
                    rw [hu] at hu'
                    obtain rfl := Option.some.inj hu'
                    exact hv'.shrA
                  · exact hr _ _ _ hx hu'
              · rw [hq]
                intro p sz s l A n c hs
                cases hs with
                | tup _ _ j x u' p _ _ hx hu' h' =>
                  rw [List.getElem?_set] at hx
                  split at hx
                  · rename_i hkj; subst hkj
                    (try rw [if_pos hvk] at hx)
                    obtain rfl := Option.some.inj hx
                    have := (owns_shrA (w := w) (g := g) (ow := mvO ow ([0, t] ++ [k]) [0, dd]) (q := [0, t] ++ [k]) (v := u') hok') p sz s l A n c h'
                    simpa using this
                  · rename_i hkj
                    obtain ⟨z1, z2⟩ := hOw (j :: p) sz s l A n c (.tup _ _ j x u' p _ _ hx hu' h')
                    refine ⟨z1, fun hh => ?_⟩
                    obtain ⟨ad, e1, e2, e3⟩ := z2 hh
                    exact ⟨ad, e1, mvO_far e2 (hne j p (fun h => hkj h.symm)), e3⟩
              · cases hpre : List.isPrefixOf ([0, t] ++ [k]) q with
                | false => rfl
                | true =>
                  obtain ⟨r, rfl⟩ := List.isPrefixOf_iff_prefix.1 hpre
                  simp [List.isPrefixOf] at hn
            cases hdst : o.dst with
            | none =>
              rw [← hdst]
              refine wp_val hrun ⟨g, mvO ow ([0, t] ++ [k]) [0, 0], Stp.free hI.bd _ 0 [0] (by simp) (by simp) (by decide), ?_⟩
              rw [hdst]
              have h1 := key 0
              exact ⟨h1.defers, h1.len, h1.slot, h1.box, h1.bd, h1.base⟩
            | some i =>
              rw [← hdst]
              refine wp_val hrun ⟨g, mvO ow ([0, t] ++ [k]) [0, i], Stp.free hI.bd _ 0 [i] (by simp) (by simp) (by decide), ?_⟩
              rw [hdst]
              exact (key i).put i (argOk_plain hok') hv' (hown.move (fun b p hb => ⟨rfl, rfl, mvO_at hb⟩))
          · obtain rfl := Option.some.inj hd
            exact wp_val hrun (hI.nx0 o.dst ⟨hv'.shrA, argOk_plain (by rw [argOk_shrA]; exact hok'), fun _ _ _ _ => owns_shrA hok'⟩)
      · cases hd
    · cases hd
end
end Go.T
/- Operations of the small machine that make memory. -/
set_option linter.unusedVariables false
set_option linter.unusedSimpArgs false
set_option maxRecDepth 10000
namespace Go.T
section
variable {P : Program} {w : World} {g : Gh} {ow : Ow} {st : St} {a : Act} {o : Oper} {dst : Option Nat}
/-- A slot that owns nothing gives its places away. -/
theorem Inv.freeR (hI : Inv w g ow st a) (i : Nat) (ρ : List Nat → List Nat) (hp : plainV (sl st.t i) = true) (hn : ∀ ow', Owns w g ow' [0, i] (sl st.t i) (a.tmps.getD i undef)) (hρ : ∀ r, List.isPrefixOf [0, i] r = false → ρ r = r) :
    Inv w g (rnO ow ρ) st a where
  defers := hI.defers
  len := hI.len
  base := hI.base
  bd := rnO_bd hI.bd
  box j cs hj := fun hdd => (hI.box j cs hj hdd).reow (fun b p hb => by rw [rnO_at hb, hρ _ (by simp [List.isPrefixOf])])
  slot j := by
    by_cases hij : i = j
    · subst hij
      exact (SlotR.plain hp).2 ⟨(hI.plain hp).1, hn _⟩
    · have hj := hI.slot j
      have hk : ∀ b p, ow b = some ([0, j] ++ p) → rnO ow ρ b = some ([0, j] ++ p) := fun b p hb => by rw [rnO_at hb, hρ _ (pre_slot hij)]
      generalize sl st.t j = x at hj ⊢
      cases x <;> first | exact ⟨hj.1, hj.2.mono (fun b p hb => ⟨rfl, rfl, by rw [hb]; exact hk b p hb⟩)⟩ | skip
      case lbox cs =>
        obtain ⟨b, h1, h2⟩ := hj
        exact ⟨b, h1, h2.reow hk⟩
      case lp b o => exact hj
def isAggT : TV → Bool
  | .agg _ => true
  | _ => false
/-- The places of a slot's value, as cells from cell o of Q on. -/
def rhoV (i : Nat) (ag : Bool) (Q : List Nat) (o : Nat) : List Nat → List Nat := fun r =>
  if ag then (if r.length = 3 ∧ List.isPrefixOf [0, i] r then Q ++ [o + r.getD 2 0] else r) else (if r = [0, i] then Q ++ [o] else r)
theorem rhoV_far {i : Nat} {ag : Bool} {Q : List Nat} {o : Nat} {r : List Nat} (h : List.isPrefixOf [0, i] r = false) : rhoV i ag Q o r = r := by
  unfold rhoV
  cases ag
  · rw [if_neg (by simp), if_neg (by rintro rfl; simp at h)]
  · rw [if_pos rfl, if_neg (by simp [h])]
theorem rhoV_two {i : Nat} {ag : Bool} {k : Nat} {Q : List Nat} {o : Nat} (hk : k ≠ 2) : (∀ r, rhoV i ag (k :: Q) o (2 :: r) = 2 :: r) ∧ ∀ r s, rhoV i ag (k :: Q) o r = 2 :: s → r = 2 :: s := by
  refine ⟨fun r => rhoV_far (by simp [List.isPrefixOf]), fun r s h => ?_⟩
  unfold rhoV at h
  cases ag
  · rw [if_neg (by simp)] at h
    split at h
    · simp at h; exact absurd h.1 hk
    · exact h
  · rw [if_pos rfl] at h
    split at h
    · simp at h; exact absurd h.1 hk
    · exact h
/-- The slots behind what was taken. -/
def downs (is : List Nat) (t : List TV) : List TV := is.foldl (fun t i => t.set i (sl t i).shrT) t
/-- A value's cells, taken, with places of their own. -/
theorem tak_cells (hI : Inv w g ow st a) {x : Src} {y : Operand} {tk : Bool} {v : TV} {is : List Nat} (hc : chkS y x = true) (he : tak st.t tk x = some (v, is)) (hok : argOk v = true) (k : Nat) (Q : List Nat) (off : Nat) (hk : k ≠ 2) :
    ∃ ow1, Inv w g ow1 { st with t := downs is st.t } a ∧ Stp w g ow st.h.length w g ow1 ∧ (∀ b q, ow b = some q → (∀ i, is = [i] → List.isPrefixOf [0, i] q = false) → ow1 b = some q) ∧ v.cells.length = (a.eval y).cells.size ∧
      ∀ (j : Nat) (x : TV) (u : Value), v.cells[j]? = some x → (a.eval y).cells[j]? = some u → x.isCell = true ∧ VR w g st.h.length x u ∧ Owns w g ow1 ((k :: Q) ++ [off + j]) x u := by
  obtain ⟨hv, hp, ho⟩ := tak_spec hI hc he
  -- the cells themselves
  have hcells : v.cells.length = (a.eval y).cells.size ∧ ∀ (j : Nat) (x : TV) (u : Value), v.cells[j]? = some x → (a.eval y).cells[j]? = some u → x.isCell = true ∧ VR w g st.h.length x u ∧
      ((isAggT v = true ∧ ∀ p z t, Sub x u p z t → Sub v (a.eval y) (j :: p) z t) ∨ (isAggT v = false ∧ x = v ∧ u = a.eval y ∧ j = 0)) := by
    rcases argOk_cells hok with ⟨cs, rfl, hcs⟩ | hcell
    · generalize a.eval y = q at hv
      cases hv with
      | agg _ vs hl h hr =>
        refine ⟨hl, fun j x u hx hu => ⟨h j x u hx hu, hr j x u hx hu, .inl ⟨rfl, fun p z t hs => .agg _ _ j x u p z t hx hu hs⟩⟩⟩
    · have h1 : v.cells = [v] := by cases v <;> first | rfl | simp [TV.isCell] at hcell
      have h2 : (a.eval y).cells = #[a.eval y] := by
        generalize a.eval y = q at hv
        cases hv <;> first | rfl | simp [TV.isCell] at hcell
      rw [h1, h2]
      refine ⟨rfl, fun j x u hx hu => ?_⟩
      have hj : j = 0 := by
        rcases Nat.eq_zero_or_pos j with h | h
        · exact h
        · rw [List.getElem?_eq_none (by simp; omega)] at hx; cases hx
      subst hj
      simp at hx hu
      subst hx; subst hu
      exact ⟨hcell, hv, .inr ⟨by cases v <;> first | rfl | simp [TV.isCell] at hcell, rfl, rfl, rfl⟩⟩
  rcases ho with ⟨rfl, ho⟩ | ⟨i, rfl, hvi, ho⟩
  · refine ⟨ow, ⟨hI.defers, hI.len, hI.slot, hI.box, hI.bd, hI.base⟩, hI.refl, fun b q hb _ => hb, hcells.1, fun j x u hx hu => ?_⟩
    obtain ⟨c1, c2, c3⟩ := hcells.2 j x u hx hu
    refine ⟨c1, c2, ?_⟩
    intro p sz s l A n c hs
    rcases c3 with ⟨_, c3⟩ | ⟨_, rfl, rfl, rfl⟩
    · obtain ⟨z1, z2⟩ := ho w g (fun b => if ow b = some ((k :: Q) ++ [off + j] ++ p) then some ([] ++ (j :: p)) else none) [] (j :: p) sz s l A n c (c3 _ _ _ hs)
      refine ⟨z1, fun hh => ?_⟩
      obtain ⟨ad, e1, e2, e3⟩ := z2 hh
      refine ⟨ad, e1, ?_, e3⟩
      by_cases h : ow ad.block = some ((k :: Q) ++ [off + j] ++ p)
      · exact h
      · simp only at e2; rw [if_neg h] at e2; cases e2
    · exact ho w g ow _ p sz s l A n c hs
  · have hp' : plainV (sl st.t i) = true := hvi ▸ hp
    have h1 := hI.down i hp'
    have hd : downs [i] st.t = st.t.set i (sl st.t i).shrT := rfl
    have hsl : ∀ j, sl (st.t.set i (sl st.t i).shrT) j = if i = j ∧ j < st.t.length then (sl st.t i).shrT else sl st.t j := fun j => sl_set _ _ _ _
    have hpi : plainV (sl (st.t.set i (sl st.t i).shrT) i) = true := by
      rw [hsl]; split
      · exact plain_shrT _ hp'
      · exact hp'
    have hpoor : ∀ ow', Owns w g ow' [0, i] (sl (st.t.set i (sl st.t i).shrT) i) (a.tmps.getD i undef) := by
      intro ow'
      rw [hsl]
      split
      · exact (hI.plain hp').1.owns_shrT
      · rename_i hn
        have hlt : ¬ i < st.t.length := fun h => hn ⟨rfl, h⟩
        have : sl st.t i = .junk := by simp [sl, List.getElem?_eq_none (Nat.le_of_not_lt hlt)]
        rw [this]
        intro p sz s l A n c hs
        cases hs
    rw [hd]
    refine ⟨rnO ow (rhoV i (isAggT v) (k :: Q) off), h1.freeR i _ hpi hpoor (fun r hr => rhoV_far hr), Stp.ren hI.bd _ (rhoV_two hk).1 (rhoV_two hk).2, fun b q hb hn => by rw [rnO_at hb, rhoV_far (hn i rfl)], hcells.1, fun j x u hx hu => ?_⟩
    obtain ⟨c1, c2, c3⟩ := hcells.2 j x u hx hu
    refine ⟨c1, c2, ?_⟩
    rcases c3 with ⟨hag, c3⟩ | ⟨hag, rfl, rfl, rfl⟩
    · have hown : Owns w g ow ([0, i] ++ [j]) x u := by
        intro p sz s l A n c hs
        have := ho (j :: p) sz s l A n c (c3 _ _ _ hs)
        simpa using this
      refine hown.moveCell c1 (fun b hb => ⟨rfl, rfl, ?_⟩)
      rw [rnO_at hb, hag]
      simp [rhoV, List.isPrefixOf]
    · refine ho.moveCell c1 (fun b hb => ⟨rfl, rfl, ?_⟩)
      rw [rnO_at hb, hag]
      simp [rhoV]
/-- A new block. -/
theorem Stp.push {m : Nat} {w' : World} {g' : Gh} {ow' : Ow} {ob : Obj} (hbd : ∀ b q, ow b = some q → b < w.heap.size) (hh : w'.heap = w.heap.push ob) (h1 : w'.os = w.os) (h2 : w'.tape = w.tape) (h3 : w'.output = w.output)
    (himm : ∀ b, b < w.heap.size → g'.imm b = g.imm b) (hnu : ∀ i, i < m → g'.nu i = g.nu i) (how : ∀ b, b ≠ w.heap.size → ow' b = ow b) (hq : ∀ q, ow' w.heap.size ≠ some (2 :: q)) : Stp w g ow m w' g' ow' := by
  have hold : ∀ b, b < w.heap.size → w'.heap[b]? = w.heap[b]? := by
    intro b hb
    rw [hh, Array.getElem?_push]
    rw [if_neg (by omega)]
  refine ⟨h1, h2, h3, by rw [hh]; simp, fun b off hb ho => ?_, fun b hb => by rw [himm b hb]; exact Nat.le_refl _, hnu, fun b vs ty fr hr => ⟨vs, fr, ?_, rfl⟩, fun b hb hf => ⟨hold b hb, himm b hb, how b (by omega)⟩, fun b q hb => ?_⟩
  · simp only [World.cell?, hold b hb]
  · unfold RowOf at *; rw [hold b (lt_of_row hr)]; exact hr
  · by_cases hbn : b = w.heap.size
    · subst hbn; exact absurd hb (hq q)
    · rw [how b hbn] at hb
      exact ⟨hbd b _ hb, hb⟩
theorem Inv.push (hI : Inv w g ow st a) {w' : World} {g' : Gh} {ow' : Ow} {ob : Obj} (hs : Stp w g ow st.h.length w' g' ow') (hh : w'.heap = w.heap.push ob) (himm : ∀ b, b < w.heap.size → g'.imm b = g.imm b) (how : ∀ b, b ≠ w.heap.size → ow' b = ow b) : Inv w' g' ow' st a := by
  refine hI.mono hs (fun b q hb _ => ?_) (fun b q hb => ?_)
  · have hlt := hI.bd b q hb
    refine ⟨?_, himm b hlt, how b (by omega)⟩
    rw [hh, Array.getElem?_push, if_neg (by omega)]
  · rw [hh]
    by_cases hbn : b = w.heap.size
    · simp [hbn]
    · rw [how b hbn] at hb
      have := hI.bd b q hb
      simp; omega
theorem row_push {w' : World} {vs : Array Value} {ty : TypeId} (hh : w'.heap = w.heap.push (.cells vs ty (0, 0))) : RowOf w' w.heap.size vs ty (0, 0) := by
  unfold RowOf
  rw [hh]
  simp
theorem NF_zero (n : Nat) : NF (0, 0) n := .inl rfl
theorem sl_map {f : TV → TV} (hf : f .junk = .junk) (t : List TV) (j : Nat) : sl (t.map f) j = f (sl t j) := by
  unfold sl
  simp only [List.getD_eq_getElem?_getD, List.getElem?_map]
  cases t[j]? <;> simp [hf]
/-- A box of the frame's, written into a slot. -/
theorem Inv.putBox (hI : Inv w g ow st a) (d : Nat) {cs : List TV} {b : Nat} (hb : BoxR w g st.h.length ow [0, d] cs b) :
    Inv w g ow { st with t := (st.t.map (fun v => if isLp d v then .junk else v)).set d (.lbox cs) } (a.put (some d) (.pointer (some (at_ b 0)))) where
  defers := hI.defers
  len := by simpa [Act.put] using hI.len
  bd := hI.bd
  base := hI.base
  box := hI.box
  slot j := by
    have hj := hI.slot j
    have hlen : (st.t.map (fun v => if isLp d v then .junk else v)).length = st.t.length := by simp
    have hm : ∀ j, sl (st.t.map (fun v => if isLp d v then .junk else v)) j = if isLp d (sl st.t j) then .junk else sl st.t j := fun j => sl_map (f := fun v => if isLp d v then .junk else v) (by simp [isLp]) st.t j
    rw [sl_set, hlen, getD_put, ← hI.len]
    by_cases h : d = j ∧ j < st.t.length
    · obtain ⟨rfl, hl⟩ := h
      rw [if_pos ⟨rfl, hl⟩, if_pos ⟨rfl, hl⟩]
      exact ⟨b, rfl, hb⟩
    · rw [if_neg h, if_neg h, hm]
      generalize hy : sl st.t j = y at hj ⊢
      cases y <;> try exact hj
      case lp b' off =>
        by_cases hbd : b' = d
        · subst hbd
          simp only [isLp, beq_self_eq_true, if_true]
          refine ⟨.junk _, ?_⟩
          intro p sz s l A n c hs
          cases hs
        · have : isLp d (.lp b' off) = false := by simp [isLp, hbd]
          rw [this]
          intro ds hds
          rw [sl_set, if_neg (fun h => hbd h.1.symm), hm] at hds
          have hds' : sl st.t b' = .lbox ds := by
            split at hds
            · cases hds
            · exact hds
          obtain ⟨k, e1, e2⟩ := hj ds hds'
          refine ⟨k, ?_, e2⟩
          rw [getD_put, if_neg (fun h => hbd h.1.symm)]
          exact e1
theorem Value.cells_eq (v : Value) : v.cells.toList.toArray = v.cells := by simp
/-- A block of cells of the frame's own: the ghost behind it. -/
def gPush (g : Gh) (b k : Nat) : Gh := { g with imm := fun c => if c = b then k else g.imm c }
def oPush (ow : Ow) (b : Nat) (q : List Nat) : Ow := fun c => if c = b then some q else ow c
theorem BoxR.fresh {m : Nat} {w' : World} {ow1 : Ow} {q : List Nat} {cs : List TV} {vs : Array Value} {ty : TypeId} (hbd : ∀ b q, ow1 b = some q → b < w.heap.size) (hh : w'.heap = w.heap.push (.cells vs ty (0, 0)))
    {g' : Gh} (himm : ∀ b, b < w.heap.size → g'.imm b = g.imm b) (h0 : g'.imm w.heap.size = 0) (hs : Stp w g ow1 m w' g' (oPush ow1 w.heap.size q)) (hl : cs.length ≤ vs.size)
    (h : ∀ (j : Nat) (x : TV) (u : Value), cs[j]? = some x → vs[j]? = some u → x.isCell = true ∧ VR w g m x u ∧ Owns w g ow1 (q ++ [j]) x u) {m' : Nat} (hm : m ≤ m') : BoxR w' g' m' (oPush ow1 w.heap.size q) q cs w.heap.size := by
  refine ⟨vs, ty, (0, 0), row_push hh, hl, NF_zero _, h0, by simp [oPush], fun j x u hx hu => ?_⟩
  obtain ⟨c1, c2, c3⟩ := h j x u hx hu
  refine ⟨c1, c2.mono hs hm, c3.mono (fun b p hb => ?_)⟩
  have hlt := hbd b _ hb
  refine ⟨?_, himm b hlt, by simp [oPush]; intro hbb; omega⟩
  rw [hh, Array.getElem?_push, if_neg (by omega)]
theorem gPush_imm {b k c : Nat} (h : c < b) : (gPush g b k).imm c = g.imm c := by simp [gPush]; intro hh; omega
theorem run_box (e : TypeId) (v : Value) : (Instr.box e v).run P w = .ok (.pointer (some (at_ w.heap.size 0))) { w with heap := w.heap.push (.cells v.cells e) } := by
  simp [Instr.box, newVar, newRow]
theorem snd_lbx {tk : Bool} {x : Src} {d : Dl} (hc : chkOp P o.op (.lbx tk x) = true) (hI : Inv w g ow st a) {call : CallF} (hd : delta call st (.lbx tk x) = some d) {Q : Exit → Act → World → Prop} :
    o.wp P a w (Nxt w g ow st.h.length (d.ap o.dst st)) Q := by
  cases hop : o.op <;> rw [hop] at hc <;> try (simp [chkOp] at hc; done)
  rename_i e y
  simp only [chkOp] at hc
  simp only [delta] at hd
  split at hd
  · rename_i v is ht
    split at hd
    · rename_i hok
      obtain rfl := Option.some.inj hd
      have hrun : (execOp a.eval o).run P w = .ok (.value (.pointer (some (at_ w.heap.size 0)))) { w with heap := w.heap.push (.cells (a.eval y).cells e) } := by
        unfold execOp; rw [hop]
        simp only [Sem.run_bind, run_box, Result.andThen_ok]; rfl
      refine wp_val hrun ?_
      obtain ⟨dd, hdd⟩ : ∃ dd, dd = o.dst.getD 0 := ⟨_, rfl⟩
      obtain ⟨ow1, h1, h2, h3, h4, h5⟩ := tak_cells hI hc ht hok 0 [dd] 0 (by decide)
      have hs : Stp w g ow1 st.h.length { w with heap := w.heap.push (.cells (a.eval y).cells e) } (gPush g w.heap.size 0) (oPush ow1 w.heap.size [0, dd]) :=
        Stp.push h1.bd rfl rfl rfl rfl (fun b hb => gPush_imm hb) (fun _ _ => rfl) (fun b hb => by simp [oPush, hb]) (fun q => by simp [oPush])
      have hI1 := h1.push hs rfl (fun b hb => gPush_imm hb) (fun b hb => by simp [oPush, hb])
      have hbox := BoxR.fresh (w := w) (g := g) (m := st.h.length) (m' := st.h.length) h1.bd (w' := { w with heap := w.heap.push (.cells (a.eval y).cells e) }) rfl (g' := gPush g w.heap.size 0) (fun b hb => gPush_imm hb) (by simp [gPush]) hs (Nat.le_of_eq h4) (fun j x u hx hu => by
        obtain ⟨c1, c2, c3⟩ := h5 j x u hx hu
        rw [Nat.zero_add] at c3
        exact ⟨c1, c2, c3⟩) (Nat.le_refl _)
      refine ⟨_, _, h2.trans hs (Nat.le_refl _), ?_⟩
      cases hdst : o.dst with
      | none => exact ⟨hI1.defers, hI1.len, hI1.slot, hI1.box, hI1.bd, hI1.base⟩
      | some i =>
        obtain rfl : dd = i := by rw [hdd, hdst]; rfl
        exact hI1.putBox dd hbox
    · cases hd
  · cases hd
/-- One box more. -/
theorem Inv.addBox (hI : Inv w g ow st a) {cs : List TV} (hb : BoxR w g (st.h.length + 1) ow [1, st.h.length] cs (g.nu st.h.length)) : Inv w g ow { st with h := st.h ++ [cs] } a where
  defers := hI.defers
  len := hI.len
  bd := hI.bd
  base := by have := hI.base; simp; omega
  box i ds hi := by
    have hlen : (st.h ++ [cs]).length = st.h.length + 1 := by simp
    rw [show ({ st with h := st.h ++ [cs] } : St).h.length = st.h.length + 1 from hlen]
    rw [List.getElem?_append] at hi
    split at hi
    · exact (hI.box i ds hi).mono (Stp.refl w g ow _ hI.bd) (Nat.le_succ _) (fun b p _ => ⟨rfl, rfl, rfl⟩)
    · rename_i hge
      have : i = st.h.length := by
        rcases Nat.lt_or_ge (i - st.h.length) 1 with h | h
        · omega
        · rw [List.getElem?_eq_none (by simp; omega)] at hi; cases hi
      subst this
      simp at hi
      subst hi
      exact hb.d
  slot j := by
    have hlen : (st.h ++ [cs]).length = st.h.length + 1 := by simp
    rw [show ({ st with h := st.h ++ [cs] } : St).h.length = st.h.length + 1 from hlen]
    have hj := hI.slot j
    have hS := Stp.refl w g ow st.h.length hI.bd
    show SlotR w g _ ow st.t a.tmps j (sl st.t j) _
    generalize sl st.t j = x at hj ⊢
    cases x <;> first | exact ⟨hj.1.mono hS (Nat.le_succ _), hj.2⟩ | skip
    case lbox ds =>
      obtain ⟨b, h1, h2⟩ := hj
      exact ⟨b, h1, h2.mono hS (Nat.le_succ _) (fun b p _ => ⟨rfl, rfl, rfl⟩)⟩
    case lp b o => exact hj
def gBox (g : Gh) (b m : Nat) : Gh := { imm := fun c => if c = b then 0 else g.imm c, nu := fun i => if i = m then b else g.nu i }
theorem gBox_imm {b m c : Nat} (h : c < b) : (gBox g b m).imm c = g.imm c := by simp [gBox]; intro hh; omega
/-- A new box of the heap's. -/
theorem Inv.mkBox {ow1 : Ow} (h1 : Inv w g ow1 st a) {w' : World} {cs : List TV} {vs : Array Value} {ty : TypeId} (hh : w'.heap = w.heap.push (.cells vs ty (0, 0))) (e1 : w'.os = w.os) (e2 : w'.tape = w.tape) (e3 : w'.output = w.output) (h4 : cs.length ≤ vs.size)
    (h5 : ∀ (j : Nat) (x : TV) (u : Value), cs[j]? = some x → vs[j]? = some u → x.isCell = true ∧ VR w g st.h.length x u ∧ Owns w g ow1 ([1, st.h.length] ++ [j]) x u) :
    Stp w g ow1 st.h.length w' (gBox g w.heap.size st.h.length) (oPush ow1 w.heap.size [1, st.h.length]) ∧ Inv w' (gBox g w.heap.size st.h.length) (oPush ow1 w.heap.size [1, st.h.length]) { st with h := st.h ++ [cs] } a := by
  have hs : Stp w g ow1 st.h.length w' (gBox g w.heap.size st.h.length) (oPush ow1 w.heap.size [1, st.h.length]) :=
    Stp.push h1.bd hh e1 e2 e3 (fun b hb => gBox_imm hb) (fun i hi => by simp [gBox]; intro hii; omega) (fun b hb => by simp [oPush, hb]) (fun q => by simp [oPush])
  have hI1 := h1.push hs hh (fun b hb => gBox_imm hb) (fun b hb => by simp [oPush, hb])
  refine ⟨hs, hI1.addBox ?_⟩
  have hb := BoxR.fresh (w := w) (g := g) (m := st.h.length) (m' := st.h.length + 1) h1.bd (w' := w') hh (g' := gBox g w.heap.size st.h.length) (fun b hb => gBox_imm hb) (by simp [gBox]) hs h4 h5 (Nat.le_succ _)
  have : (gBox g w.heap.size st.h.length).nu st.h.length = w.heap.size := by simp [gBox]
  rw [this]
  exact hb
theorem snd_hbx {tk : Bool} {x : Src} {d : Dl} (hc : chkOp P o.op (.hbx tk x) = true) (hI : Inv w g ow st a) {call : CallF} (hd : delta call st (.hbx tk x) = some d) {Q : Exit → Act → World → Prop} :
    o.wp P a w (Nxt w g ow st.h.length (d.ap o.dst st)) Q := by
  cases hop : o.op <;> rw [hop] at hc <;> try (simp [chkOp] at hc; done)
  rename_i e y
  simp only [chkOp] at hc
  simp only [delta] at hd
  split at hd
  · rename_i v is ht
    split at hd
    · rename_i hok
      obtain rfl := Option.some.inj hd
      have hrun : (execOp a.eval o).run P w = .ok (.value (.pointer (some (at_ w.heap.size 0)))) { w with heap := w.heap.push (.cells (a.eval y).cells e) } := by
        unfold execOp; rw [hop]
        simp only [Sem.run_bind, run_box, Result.andThen_ok]; rfl
      refine wp_val hrun ?_
      obtain ⟨ow1, h1, h2, h3, h4, h5⟩ := tak_cells hI hc ht hok 1 [st.h.length] 0 (by decide)
      obtain ⟨hs, hI1⟩ := h1.mkBox (w' := { w with heap := w.heap.push (.cells (a.eval y).cells e) }) (cs := v.cells) rfl rfl rfl rfl (Nat.le_of_eq h4) (fun j x u hx hu => by
        obtain ⟨c1, c2, c3⟩ := h5 j x u hx hu
        rw [Nat.zero_add] at c3
        exact ⟨c1, c2, c3⟩)
      refine ⟨_, _, h2.trans hs (Nat.le_refl _), ?_⟩
      cases hdst : o.dst with
      | none => exact ⟨hI1.defers, hI1.len, hI1.slot, hI1.box, hI1.bd, hI1.base⟩
      | some i =>
        have hnu : (gBox g w.heap.size st.h.length).nu st.h.length = w.heap.size := by simp [gBox]
        have hp : VR { w with heap := w.heap.push (.cells (a.eval y).cells e) } (gBox g w.heap.size st.h.length) (st.h ++ [v.cells]).length (.ptr st.h.length 0) (.pointer (some (at_ ((gBox g w.heap.size st.h.length).nu st.h.length) 0))) := .ptr _ _ (by simp)
        rw [hnu] at hp
        exact hI1.put i rfl hp (owns_cell rfl rfl)
    · cases hd
  · cases hd
theorem layZ_of {t : TypeId} {z : List TV} (h : layZ P t z = true) : ∃ v, (∀ w, (zeroValue t).run P w = .ok v w) ∧ (∃ i, P.info? t = some i ∧ i.zero = some v) ∧ cvals v.cells.toList z = true := by
  unfold layZ at h
  split at h
  · rename_i v hv
    unfold zeOf at hv
    cases hi : P.info? t with
    | none => rw [hi] at hv; cases hv
    | some i =>
      rw [hi] at hv
      have hz : i.zero = some v := by simpa using hv
      refine ⟨v, fun w => ?_, ⟨i, rfl, hz⟩, h⟩
      simp [zeroValue, typeInfo, hi, hz]
  · cases h
theorem cvals_cells {vs : Array Value} {xs : List TV} (h : cvals vs.toList xs = true) {m : Nat} : xs.length = vs.size ∧ ∀ (j : Nat) (x : TV) (u : Value), xs[j]? = some x → vs[j]? = some u → x.isCell = true ∧ VR w g m x u ∧ ∀ w' g' ow' q, Owns w' g' ow' q x u := by
  obtain ⟨h1, h2⟩ := cvals_get h
  refine ⟨by simpa using h1, fun j x u hx hu => ?_⟩
  obtain ⟨c1, c2, c3⟩ := cval_VR (w := w) (g := g) (m := m) (h2 j x u hx (by simpa using hu))
  exact ⟨c2, c1, c3⟩
theorem run_alloc {t : TypeId} {v : Value} (h : ∀ w, (zeroValue t).run P w = .ok v w) : (Instr.alloc t true (.tuple #[])).run P w = .ok (.pointer (some (at_ w.heap.size 0))) { w with heap := w.heap.push (.cells v.cells t) } := by
  simp [Instr.alloc, h, newVar, newRow]
theorem snd_lal {z : List TV} {d : Dl} (hc : chkOp P o.op (.lal z) = true) (hI : Inv w g ow st a) {call : CallF} (hd : delta call st (.lal z) = some d) {Q : Exit → Act → World → Prop} :
    o.wp P a w (Nxt w g ow st.h.length (d.ap o.dst st)) Q := by
  cases hop : o.op <;> rw [hop] at hc <;> try (simp [chkOp] at hc; done)
  rename_i e
  simp only [chkOp] at hc
  simp only [delta] at hd
  obtain rfl := Option.some.inj hd
  obtain ⟨v, hz, _, hcv⟩ := layZ_of hc
  have hrun : (execOp a.eval o).run P w = .ok (.value (.pointer (some (at_ w.heap.size 0)))) { w with heap := w.heap.push (.cells v.cells e) } := by
    unfold execOp; rw [hop]
    simp only [Sem.run_bind, run_alloc hz, Result.andThen_ok]; rfl
  refine wp_val hrun ?_
  obtain ⟨dd, hdd⟩ : ∃ dd, dd = o.dst.getD 0 := ⟨_, rfl⟩
  obtain ⟨h4, h5⟩ := cvals_cells (w := w) (g := g) (m := st.h.length) hcv
  have hs : Stp w g ow st.h.length { w with heap := w.heap.push (.cells v.cells e) } (gPush g w.heap.size 0) (oPush ow w.heap.size [0, dd]) :=
    Stp.push hI.bd rfl rfl rfl rfl (fun b hb => gPush_imm hb) (fun _ _ => rfl) (fun b hb => by simp [oPush, hb]) (fun q => by simp [oPush])
  have hI1 := hI.push hs rfl (fun b hb => gPush_imm hb) (fun b hb => by simp [oPush, hb])
  have hbox := BoxR.fresh (w := w) (g := g) (m := st.h.length) (m' := st.h.length) hI.bd (w' := { w with heap := w.heap.push (.cells v.cells e) }) rfl (g' := gPush g w.heap.size 0) (fun b hb => gPush_imm hb) (by simp [gPush]) hs (Nat.le_of_eq h4) (fun j x u hx hu => by
    obtain ⟨c1, c2, c3⟩ := h5 j x u hx hu
    exact ⟨c1, c2, c3 _ _ _ _⟩) (Nat.le_refl _)
  refine ⟨_, _, hs, ?_⟩
  cases hdst : o.dst with
  | none => exact ⟨hI1.defers, hI1.len, hI1.slot, hI1.box, hI1.bd, hI1.base⟩
  | some i =>
    obtain rfl : dd = i := by rw [hdd, hdst]; rfl
    exact hI1.putBox dd hbox
theorem snd_hal {z : List TV} {d : Dl} (hc : chkOp P o.op (.hal z) = true) (hI : Inv w g ow st a) {call : CallF} (hd : delta call st (.hal z) = some d) {Q : Exit → Act → World → Prop} :
    o.wp P a w (Nxt w g ow st.h.length (d.ap o.dst st)) Q := by
  cases hop : o.op <;> rw [hop] at hc <;> try (simp [chkOp] at hc; done)
  rename_i e
  simp only [chkOp] at hc
  simp only [delta] at hd
  obtain rfl := Option.some.inj hd
  obtain ⟨v, hz, _, hcv⟩ := layZ_of hc
  have hrun : (execOp a.eval o).run P w = .ok (.value (.pointer (some (at_ w.heap.size 0)))) { w with heap := w.heap.push (.cells v.cells e) } := by
    unfold execOp; rw [hop]
    simp only [Sem.run_bind, run_alloc hz, Result.andThen_ok]; rfl
  refine wp_val hrun ?_
  obtain ⟨h4, h5⟩ := cvals_cells (w := w) (g := g) (m := st.h.length) hcv
  obtain ⟨hs, hI1⟩ := hI.mkBox (w' := { w with heap := w.heap.push (.cells v.cells e) }) (cs := z) rfl rfl rfl rfl (Nat.le_of_eq h4) (fun j x u hx hu => by
    obtain ⟨c1, c2, c3⟩ := h5 j x u hx hu
    exact ⟨c1, c2, c3 _ _ _ _⟩)
  refine ⟨_, _, hs, ?_⟩
  cases hdst : o.dst with
  | none => exact ⟨hI1.defers, hI1.len, hI1.slot, hI1.box, hI1.bd, hI1.base⟩
  | some i =>
    have hnu : (gBox g w.heap.size st.h.length).nu st.h.length = w.heap.size := by simp [gBox]
    have hp : VR { w with heap := w.heap.push (.cells v.cells e) } (gBox g w.heap.size st.h.length) (st.h ++ [z]).length (.ptr st.h.length 0) (.pointer (some (at_ ((gBox g w.heap.size st.h.length).nu st.h.length) 0))) := .ptr _ _ (by simp)
    rw [hnu] at hp
    exact hI1.put i rfl hp (owns_cell rfl rfl)
end
end Go.T
/- Operations of the small machine that write. -/
set_option linter.unusedVariables false
set_option linter.unusedSimpArgs false
set_option maxRecDepth 10000
namespace Go.T
section
variable {P : Program} {w : World} {g : Gh} {ow : Ow} {st : St} {a : Act} {o : Oper} {dst : Option Nat}
theorem setCell_row {b o : Nat} {vs : Array Value} {ty : TypeId} {fr : Nat × Nat} (h : RowOf w b vs ty fr) (v : Value) : RowOf (w.setCell (at_ b o) v) b (vs.setIfInBounds o v) ty fr := by
  unfold RowOf at *
  simp [World.setCell, Array.getElem?_modify, h]
theorem setCell_other {b o : Nat} (v : Value) {c : Nat} (h : c ≠ b) : (w.setCell (at_ b o) v).heap[c]? = w.heap[c]? := by
  simp only [World.setCell, Array.getElem?_modify]
  rw [if_neg (fun e => h e.symm)]
theorem setCells_row {b : Nat} : ∀ (us : List Value) (o : Nat) (w : World) (vs : Array Value) (ty : TypeId) (fr : Nat × Nat), RowOf w b vs ty fr → o + us.length ≤ vs.size →
    ∃ vs', RowOf (w.setCells b o us) b vs' ty fr ∧ vs'.size = vs.size ∧ ∀ j, vs'[j]? = if o ≤ j ∧ j < o + us.length then us[j - o]? else vs[j]? := by
  intro us
  induction us with
  | nil =>
    intro o w vs ty fr h hl
    refine ⟨vs, h, rfl, fun j => ?_⟩
    rw [if_neg (by simp only [List.length_nil]; omega)]
  | cons u us ih =>
    intro o w vs ty fr h hl
    simp at hl
    obtain ⟨vs', h1, h2, h3⟩ := ih (o + 1) _ _ _ _ (setCell_row (o := o) h u) (by simp; omega)
    refine ⟨vs', h1, by simpa using h2, fun j => ?_⟩
    rw [h3, Array.getElem?_setIfInBounds]
    by_cases hj : j = o
    · subst hj
      have hlt : j < vs.size := by omega
      rw [if_neg (by omega)]
      simp [hlt]
    · by_cases hj2 : o + 1 ≤ j ∧ j < o + 1 + us.length
      · rw [if_pos hj2, if_pos ⟨by omega, by simp; omega⟩]
        rw [show j - o = (j - (o + 1)) + 1 by omega]
        simp
      · rw [if_neg hj2, if_neg (by omega), if_neg (by simp; omega)]
theorem setCells_other {b c : Nat} (h : c ≠ b) : ∀ (us : List Value) (o : Nat) (w : World), (w.setCells b o us).heap[c]? = w.heap[c]? := by
  intro us
  induction us with
  | nil => intro o w; rfl
  | cons u us ih =>
    intro o w
    rw [World.setCells, ih]
    exact setCell_other u h
theorem setCells_same {b : Nat} : ∀ (us : List Value) (o : Nat) (w : World), (w.setCells b o us).os = w.os ∧ (w.setCells b o us).tape = w.tape ∧ (w.setCells b o us).output = w.output ∧ (w.setCells b o us).heap.size = w.heap.size := by
  intro us
  induction us with
  | nil => intro o w; exact ⟨rfl, rfl, rfl, rfl⟩
  | cons u us ih =>
    intro o w
    rw [World.setCells]
    obtain ⟨h1, h2, h3, h4⟩ := ih (o + 1) (w.setCell (at_ b o) u)
    refine ⟨h1, h2, h3, h4.trans ?_⟩
    simp [World.setCell]
theorem NF_frozen {b o : Nat} {vs : Array Value} {ty : TypeId} {fr : Nat × Nat} (h : RowOf w b vs ty fr) (hf : NF fr vs.size) (ho : o < vs.size) : w.frozen? (at_ b o) = false := by
  unfold RowOf at h
  obtain ⟨lo, hi⟩ := fr
  simp only [World.frozen?, h]
  unfold NF at hf
  simp at hf ⊢
  omega
theorem VR.oneCell {m : Nat} {x : TV} {u : Value} (h : VR w g m x u) (hc : x.isCell = true) : u.oneCell' = true := by
  cases h <;> first | rfl | simp [TV.isCell] at hc
/-- Cells written in a block of the frame's own. -/
theorem Stp.write {m : Nat} {b : Nat} {q : List Nat} (hbd : ∀ b q, ow b = some q → b < w.heap.size) (ho : ow b = some q) (hq : q.head? ≠ some 2) {vs : Array Value} {ty : TypeId} {fr : Nat × Nat} (hr : RowOf w b vs ty fr) {k : Nat} {us : List Value} (hl : k + us.length ≤ vs.size)
    (hi : g.imm b ≤ k) (k2 : Nat) (hk2 : k2 = g.imm b ∨ (g.imm b ≤ k2)) : Stp w g ow m (w.setCells b k us) { g with imm := fun c => if c = b then k2 else g.imm c } ow := by
  obtain ⟨s1, s2, s3, s4⟩ := setCells_same (b := b) us k w
  obtain ⟨vs', r1, r2, r3⟩ := setCells_row us k w vs ty fr hr hl
  refine ⟨s1, s2, s3, by rw [s4]; exact Nat.le_refl _, fun c off hc hoff => ?_, fun c hc => ?_, fun _ _ => rfl, fun c vs2 ty2 fr2 h2 => ?_, fun c hc hf => ?_, fun c p hp => ⟨hbd c _ hp, hp⟩⟩
  · by_cases hcb : c = b
    · subst hcb
      rw [cell_of_row r1, cell_of_row hr, r3, if_neg (by omega)]
    · simp only [World.cell?, setCells_other hcb us k w]
  · show g.imm c ≤ if c = b then k2 else g.imm c
    split
    · rename_i h; subst h; omega
    · exact Nat.le_refl _
  · by_cases hcb : c = b
    · subst hcb
      have : some (Obj.cells vs ty fr) = some (Obj.cells vs2 ty2 fr2) := by rw [← hr, ← h2]
      simp at this
      obtain ⟨rfl, rfl, rfl⟩ := this
      exact ⟨vs', _, r1, r2⟩
    · exact ⟨vs2, fr2, by unfold RowOf at *; rw [setCells_other hcb us k w]; exact h2, rfl⟩
  · have hcb : c ≠ b := by
      rintro rfl
      rcases hf with hf | ⟨r, hf⟩
      · rw [ho] at hf; cases hf
      · rw [ho] at hf; simp at hf; subst hf; simp at hq
    exact ⟨setCells_other hcb us k w, by simp [hcb], rfl⟩
theorem downs_keep {is : List Nat} {t : List TV} {j : Nat} (h : ∀ i ∈ is, i ≠ j) : sl (downs is t) j = sl t j := by
  induction is generalizing t with
  | nil => rfl
  | cons i is ih =>
    show sl (downs is (t.set i (sl t i).shrT)) j = sl t j
    rw [ih (fun k hk => h k (List.mem_cons_of_mem _ hk)), sl_set, if_neg (fun e => h i (by simp) e.1)]
theorem tak_slots {t : List TV} {tk : Bool} {x : Src} {v : TV} {is : List Nat} (h : tak t tk x = some (v, is)) : ∀ i ∈ is, plainV (sl t i) = true := by
  cases x with
  | c v' => cases tk <;> simp [tak] at h <;> (obtain ⟨_, rfl⟩ := h; simp)
  | s i =>
    obtain ⟨hp, ⟨_, rfl, _⟩ | ⟨_, rfl, _⟩⟩ := tak_s h
    · simpa using hp
    · simp
theorem run_st {t : TypeId} {n : Nat} (hn : szOf P t = some n) {b k : Nat} {v : Value} (hv : v.cells.size = n) {vs : Array Value} {ty : TypeId} {fr : Nat × Nat} (hr : RowOf w b vs ty fr) (hf : NF fr vs.size) (hl : k + v.cells.toList.length ≤ vs.size)
    (h1 : ∀ u ∈ v.cells.toList, u.oneCell' = true) : (Instr.storeAt t (.pointer (some (at_ b k))) v).run P w = .ok () (w.setCells b k v.cells.toList) := by
  obtain ⟨ti, h2, h3⟩ := info_of hn
  have := run_storeCells_cells (P := P) b k v.cells.toList 0 w (fun j hj => by
      rw [show (⟨b, k + 0 + j, none⟩ : Addr) = at_ b (k + j) by simp, cell_of_row hr]
      simp; omega) (fun j hj => by
      rw [show (⟨b, k + 0 + j, none⟩ : Addr) = at_ b (k + j) by simp]
      exact NF_frozen hr hf (by omega)) h1
  simp only [Nat.add_zero] at this
  have hne : v.cells.size = ti.size := by omega
  simp [Instr.storeAt, Instr.sureAddr, storeVar, sizeOf, typeInfo, h2, hne, this]
/-- A box's cells, some of them new. -/
theorem BoxR.wr {m : Nat} {q : List Nat} {cs us : List TV} {b k : Nat} {vs : List Value} (h : BoxR w g m ow q cs b) (hl : k + us.length ≤ cs.length) (hlen : us.length = vs.length) {g' : Gh} (hs : Stp w g ow m (w.setCells b k vs) g' ow) (hg : g'.imm b = 0)
    (hgo : ∀ c, c ≠ b → g'.imm c = g.imm c) (hc : ∀ (j : Nat) (x : TV) (u : Value), us[j]? = some x → vs[j]? = some u → x.isCell = true ∧ VR w g m x u ∧ Owns w g ow (q ++ [k + j]) x u) : BoxR (w.setCells b k vs) g' m ow q (splice cs k us) b := by
  obtain ⟨rs, ty, fr, r1, r2, r3, r4, r5, r6⟩ := h
  obtain ⟨rs', s1, s2, s3⟩ := setCells_row vs k w rs ty fr r1 (by omega)
  have hmv : ∀ (j : Nat) (x : TV) (u : Value), Owns w g ow (q ++ [j]) x u → Owns (w.setCells b k vs) g' ow (q ++ [j]) x u := by
    intro j x u ho
    refine ho.mono (fun c p hcp => ?_)
    have hcb : c ≠ b := by
      rintro rfl
      rw [r5] at hcp
      simp at hcp
    exact ⟨setCells_other hcb vs k w, hgo c hcb, rfl⟩
  refine ⟨rs', ty, fr, s1, by rw [splice_len hl, s2]; exact r2, by rw [s2]; exact r3, hg, r5, fun j x u hx hu => ?_⟩
  rw [splice_get hl] at hx
  rw [s3, ← hlen] at hu
  split at hx
  · rename_i hj
    rw [if_pos hj] at hu
    obtain ⟨c1, c2, c3⟩ := hc _ x u hx hu
    refine ⟨c1, c2.mono hs (Nat.le_refl _), hmv _ _ _ ?_⟩
    rw [show k + (j - k) = j by omega] at c3
    exact c3
  · rename_i hj
    rw [if_neg hj] at hu
    obtain ⟨c1, c2, c3⟩ := r6 _ x u hx hu
    exact ⟨c1, c2.mono hs (Nat.le_refl _), hmv _ _ _ c3⟩
theorem snd_stl {tk : Bool} {n b : Nat} {p x : Src} {d : Dl} (hc : chkOp P o.op (.stl tk n b p x) = true) (hI : Inv w g ow st a) {call : CallF} (hd : delta call st (.stl tk n b p x) = some d) {Q : Exit → Act → World → Prop} :
    o.wp P a w (Nxt w g ow st.h.length (d.ap o.dst st)) Q := by
  cases hop : o.op <;> rw [hop] at hc <;> try (simp [chkOp] at hc; done)
  rename_i t y z
  simp [chkOp] at hc
  obtain ⟨⟨hn, c1⟩, c2⟩ := hc
  simp only [delta] at hd
  split at hd
  · rename_i b' off v is e ht
    split at hd
    · rename_i hcond
      obtain ⟨rfl, hvn, hok⟩ := hcond
      split at hd
      · rename_i cs hb
        split at hd
        · rename_i hle
          obtain rfl := Option.some.inj hd
          obtain ⟨k, k1, k2⟩ := (ad_spec hI c1).2.2.2 _ _ e cs hb
          obtain ⟨ow1, h1, h2, h3, h4, h5⟩ := tak_cells hI c2 ht hok 0 [b'] off (by decide)
          have hpl := tak_slots ht
          have hkeep : sl (downs is st.t) b' = .lbox cs := by
            rw [downs_keep (fun i hi hib => by subst hib; have := hpl i hi; rw [hb] at this; simp [plainV] at this)]
            exact hb
          have hsb := h1.slot b'
          rw [show ({ st with t := downs is st.t } : St).t = downs is st.t from rfl, hkeep] at hsb
          obtain ⟨k', e1, hbox⟩ := hsb
          obtain rfl : k = k' := by rw [k1] at e1; simpa using e1
          have hbox' := hbox
          obtain ⟨rs, ty, fr, r1, r2, r3, r4, r5, r6⟩ := hbox
          have hsz : (a.eval z).cells.toList.length = n := by rw [Array.length_toList]; omega
          have hone : ∀ u ∈ (a.eval z).cells.toList, u.oneCell' = true := by
            intro u hu
            obtain ⟨j, hj⟩ := List.getElem?_of_mem hu
            have hj' : (a.eval z).cells[j]? = some u := by simpa using hj
            have hlt : j < v.cells.length := by rw [h4]; exact (Array.getElem?_eq_some_iff.1 hj').1
            obtain ⟨z1, z2, _⟩ := h5 j v.cells[j] u (by simp [hlt]) hj'
            exact z2.oneCell z1
          have hrun := run_st (P := P) (w := w) hn (b := k) (k := off) (v := a.eval z) (by omega) r1 r3 (by omega) hone
          refine wp_skp (w' := w.setCells k off (a.eval z).cells.toList) ?_ ?_
          · unfold execOp; rw [hop]
            simp only [k2, Sem.run_bind, hrun, Result.andThen_ok]; rfl
          · have hs := Stp.write (m := st.h.length) h1.bd r5 (by simp) r1 (k := off) (us := (a.eval z).cells.toList) (by omega) (by omega) 0 (.inl r4.symm)
            have hg : ({ g with imm := fun c => if c = k then 0 else g.imm c } : Gh) = g := by
              have : (fun c => if c = k then 0 else g.imm c) = g.imm := by
                funext c; split
                · rename_i h; rw [h, r4]
                · rfl
              rw [this]
            rw [hg] at hs
            have hwr := hbox'.wr (us := v.cells) (vs := (a.eval z).cells.toList) (k := off) (by omega) (by rw [h4, Array.length_toList]) hs r4 (fun _ _ => rfl) (fun j x u hx hu => h5 j x u hx (by simpa using hu))
            refine ⟨g, ow1, h2.trans hs (Nat.le_refl _), ?_⟩
            -- the others
            have hoth : ∀ (c : Nat) (q p : List Nat), ow1 c = some (q ++ p) → (q ++ p) ≠ [0, b'] → (w.setCells k off (a.eval z).cells.toList).heap[c]? = w.heap[c]? := by
              intro c q p hcp hne
              refine setCells_other ?_ _ _ _
              rintro rfl
              rw [r5] at hcp
              exact hne (Option.some.inj hcp).symm
            have hlb : b' < st.t.length := by
              rcases Nat.lt_or_ge b' st.t.length with h | h
              · exact h
              · simp [sl, List.getElem?_eq_none h] at hb
            have hdl : (downs is st.t).length = st.t.length := by simpa using h1.len.trans hI.len.symm
            have hres : Inv (w.setCells k off (a.eval z).cells.toList) g ow1 { st with t := (downs is st.t).set b' (.lbox (splice cs off v.cells)) } a := by
              refine ⟨h1.defers, by simpa using h1.len, fun j => ?_, fun i ds hi => ?_, fun c q hq => by rw [(setCells_same _ _ _).2.2.2]; exact h1.bd c q hq, h1.base⟩
              · rw [sl_set, hdl]
                by_cases hbj : b' = j
                · subst hbj
                  rw [if_pos ⟨rfl, hlb⟩]
                  exact ⟨k, e1, hwr⟩
                · rw [if_neg (fun h => hbj h.1)]
                  have hj := h1.slot j
                  have hne : ∀ p, [0, j] ++ p ≠ [0, b'] := fun p h => by simp at h; exact hbj h.1.symm
                  have hkk : ∀ c p, ow1 c = some ([0, j] ++ p) → (w.setCells k off (a.eval z).cells.toList).heap[c]? = w.heap[c]? ∧ g.imm c = g.imm c ∧ ow1 c = ow1 c := fun c p hcp => ⟨hoth c _ p hcp (hne p), rfl, rfl⟩
                  show SlotR _ g _ ow1 _ a.tmps j (sl (downs is st.t) j) _
                  have hj' : SlotR w g st.h.length ow1 (downs is st.t) a.tmps j (sl (downs is st.t) j) (a.tmps.getD j undef) := hj
                  generalize sl (downs is st.t) j = y at hj' ⊢
                  cases y <;> first | exact ⟨hj'.1.mono hs (Nat.le_refl _), hj'.2.mono hkk⟩ | skip
                  case lbox ds =>
                    obtain ⟨k3, e3, e4⟩ := hj'
                    exact ⟨k3, e3, e4.mono hs (Nat.le_refl _) hkk⟩
                  case lp b2 off2 =>
                    intro ds hds
                    by_cases hbb : b' = b2
                    · subst hbb; exact hj' cs hkeep
                    · rw [sl_set, if_neg (fun h => hbb h.1)] at hds
                      exact hj' ds hds
              · have hbi := h1.box i ds hi
                exact hbi.mono hs (Nat.le_refl _) (fun c p hcp => ⟨hoth c _ p hcp (by simp), rfl, rfl⟩)
            cases hdst : o.dst with
            | none => exact ⟨hres.defers, hres.len, hres.slot, hres.box, hres.bd, hres.base⟩
            | some i => exact hres.put i (x := .tup []) (v := undef) rfl (.tup [] #[] rfl (by simp) (by simp)) (by intro p sz s l A n' c hs'; cases hs'; rename_i hx hv h; simp at hx)
        · cases hd
      · cases hd
    · cases hd
  · cases hd
end
end Go.T
/- Operations of the small machine that write boxes of the heap, and make rows. -/
set_option linter.unusedVariables false
set_option linter.unusedSimpArgs false
set_option maxRecDepth 10000
namespace Go.T
section
variable {P : Program} {w : World} {g : Gh} {ow : Ow} {st : St} {a : Act} {o : Oper} {dst : Option Nat}
theorem gSame {g : Gh} {b : Nat} (h : g.imm b = 0) : ({ g with imm := fun c => if c = b then 0 else g.imm c } : Gh) = g := by
  have : (fun c => if c = b then 0 else g.imm c) = g.imm := by
    funext c; split
    · rename_i h'; rw [h', h]
    · rfl
  rw [this]
/-- A box of the heap's is written. -/
theorem Inv.wrH (h1 : Inv w g ow st a) {i off : Nat} {cs us : List TV} {vs : List Value} (hb : st.h[i]? = some cs) (hdb : dead cs = false) (hl : off + us.length ≤ cs.length) (hlen : us.length = vs.length)
    (hc : ∀ (j : Nat) (x : TV) (u : Value), us[j]? = some x → vs[j]? = some u → x.isCell = true ∧ VR w g st.h.length x u ∧ Owns w g ow ([1, i] ++ [off + j]) x u) (keep : Bool) :
    Stp w g ow st.h.length (w.setCells (g.nu i) off vs) g ow ∧ Inv (w.setCells (g.nu i) off vs) g ow { st with h := st.h.set i (splice cs off us), keep := keep } a := by
  have hbox := h1.box i cs hb hdb
  have hbox' := hbox
  obtain ⟨rs, ty, fr, r1, r2, r3, r4, r5, r6⟩ := hbox
  have hs := Stp.write (m := st.h.length) h1.bd r5 (by simp) r1 (k := off) (us := vs) (by omega) (by omega) 0 (.inl r4.symm)
  rw [gSame r4] at hs
  have hwr := hbox'.wr (us := us) (vs := vs) (k := off) hl hlen hs r4 (fun _ _ => rfl) hc
  refine ⟨hs, h1.defers, h1.len, fun j => ?_, fun k ds hk => ?_, fun c q hq => by rw [(setCells_same _ _ _).2.2.2]; exact h1.bd c q hq, by simpa using h1.base⟩
  all_goals
    have hoth : ∀ (c : Nat) (q p : List Nat), ow c = some (q ++ p) → (q ++ p) ≠ [1, i] → (w.setCells (g.nu i) off vs).heap[c]? = w.heap[c]? := by
      intro c q p hcp hne
      refine setCells_other ?_ _ _ _
      rintro rfl
      rw [r5] at hcp
      exact hne (Option.some.inj hcp).symm
    have hlen2 : (st.h.set i (splice cs off us)).length = st.h.length := by simp
  · have hj := h1.slot j
    have hkk : ∀ c p, ow c = some ([0, j] ++ p) → (w.setCells (g.nu i) off vs).heap[c]? = w.heap[c]? ∧ g.imm c = g.imm c ∧ ow c = ow c := fun c p hcp => ⟨hoth c _ p hcp (by simp), rfl, rfl⟩
    show SlotR _ g (st.h.set i (splice cs off us)).length ow st.t a.tmps j (sl st.t j) _
    rw [hlen2]
    generalize sl st.t j = y at hj ⊢
    cases y <;> first | exact ⟨hj.1.mono hs (Nat.le_refl _), hj.2.mono hkk⟩ | skip
    case lbox ds =>
      obtain ⟨k3, e3, e4⟩ := hj
      exact ⟨k3, e3, e4.mono hs (Nat.le_refl _) hkk⟩
    case lp b2 off2 => exact hj
  · show BoxD _ g (st.h.set i (splice cs off us)).length ow [1, k] ds (g.nu k)
    rw [hlen2]
    have hk' : (st.h.set i (splice cs off us))[k]? = some ds := hk
    rw [List.getElem?_set] at hk'
    split at hk'
    · rename_i hik
      subst hik
      (try rw [if_pos (List.getElem?_eq_some_iff.1 hb).1] at hk')
      obtain rfl := Option.some.inj hk'
      exact hwr.d
    · rename_i hik
      exact (h1.box k ds hk').mono hs (Nat.le_refl _) (fun c p hcp => ⟨hoth c _ p hcp (by simp; intro h; exact absurd h.symm hik), rfl, rfl⟩)
theorem snd_sth {tk : Bool} {n : Nat} {p x : Src} {d : Dl} (hc : chkOp P o.op (.sth tk n p x) = true) (hI : Inv w g ow st a) {call : CallF} (hd : delta call st (.sth tk n p x) = some d) {Q : Exit → Act → World → Prop} :
    o.wp P a w (Nxt w g ow st.h.length (d.ap o.dst st)) Q := by
  cases hop : o.op <;> rw [hop] at hc <;> try (simp [chkOp] at hc; done)
  rename_i t y z
  simp [chkOp] at hc
  obtain ⟨⟨hn, c1⟩, c2⟩ := hc
  simp only [delta] at hd
  split at hd
  · rename_i i off v is e ht
    split at hd
    · rename_i hcond
      obtain ⟨hvn, hok⟩ := hcond
      split at hd
      · rename_i cs hb
        split at hd
        · rename_i hle
          obtain rfl := Option.some.inj hd
          obtain ⟨k2, k1⟩ := (ad_spec hI c1).1 _ _ e
          obtain ⟨ow1, h1, h2, h3, h4, h5⟩ := tak_cells hI c2 ht hok 1 [i] off (by decide)
          obtain ⟨hb, hdb⟩ := live_some hb
          obtain ⟨rs, ty, fr, r1, r2, r3, r4, r5, r6⟩ := h1.box i cs hb hdb
          have hsz : (a.eval z).cells.toList.length = n := by rw [Array.length_toList]; omega
          have hone : ∀ u ∈ (a.eval z).cells.toList, u.oneCell' = true := by
            intro u hu
            obtain ⟨j, hj⟩ := List.getElem?_of_mem hu
            have hj' : (a.eval z).cells[j]? = some u := by simpa using hj
            have hlt : j < v.cells.length := by rw [h4]; exact (Array.getElem?_eq_some_iff.1 hj').1
            obtain ⟨z1, z2, _⟩ := h5 j v.cells[j] u (by simp [hlt]) hj'
            exact z2.oneCell z1
          have hrun := run_st (P := P) (w := w) hn (b := g.nu i) (k := off) (v := a.eval z) (by omega) r1 r3 (by omega) hone
          refine wp_skp (w' := w.setCells (g.nu i) off (a.eval z).cells.toList) ?_ ?_
          · unfold execOp; rw [hop]
            simp only [k2, Sem.run_bind, hrun, Result.andThen_ok]; rfl
          · obtain ⟨hs, hres⟩ := h1.wrH (i := i) (off := off) (cs := cs) (us := v.cells) (vs := (a.eval z).cells.toList) hb hdb (by omega) (by rw [h4, Array.length_toList]) (fun j x u hx hu => h5 j x u hx (by simpa using hu)) (keeps st i v.cells)
            refine ⟨g, ow1, h2.trans hs (Nat.le_refl _), ?_⟩
            cases hdst : o.dst with
            | none => exact ⟨hres.defers, hres.len, hres.slot, hres.box, hres.bd, hres.base⟩
            | some i => exact hres.put i (x := .tup []) (v := undef) rfl (.tup [] #[] rfl (by simp) (by simp)) (by intro p sz s l A n' c hs'; cases hs'; rename_i hx hv h; simp at hx)
        · cases hd
      · cases hd
    · cases hd
  · cases hd
/-- A row of one element, again and again. -/
theorem flat_rep (e : TV) : ∀ n, (flat (List.replicate n e)).length = n * e.cells.length ∧ ∀ j, j < n * e.cells.length → (flat (List.replicate n e))[j]? = e.cells[j % e.cells.length]? := by
  intro n
  induction n with
  | zero => simp [flat]
  | succ n ih =>
    have hf : flat (List.replicate (n + 1) e) = e.cells ++ flat (List.replicate n e) := by simp [flat, List.replicate_succ]
    rw [hf]
    refine ⟨by rw [List.length_append, ih.1, Nat.succ_mul]; omega, fun j hj => ?_⟩
    rw [List.getElem?_append]
    split
    · rename_i h
      rw [Nat.mod_eq_of_lt h]
    · rename_i h
      rw [ih.2 _ (by rw [Nat.succ_mul] at hj; omega)]
      congr 1
      exact (Nat.mod_eq_sub_mod (by omega)).symm
theorem pack_cells {ag : Bool} {z : List TV} {vs : List Value} (hz : ag = true ∨ z.length = 1) (h : cvals vs z = true) : (pack ag z).cells = z := by
  cases ag with
  | true => rfl
  | false =>
    have h1 : z.length = 1 := hz.resolve_left (by simp)
    obtain ⟨hl, hc⟩ := cvals_get h
    match z, h1 with
    | [x], _ =>
      match vs, hl with
      | [v], _ =>
        have := (cval_VR (w := default) (g := ⟨fun _ => 0, fun _ => 0⟩) (m := 0) (hc 0 x v rfl rfl)).2.1
        show x.cells = [x]
        cases x <;> first | rfl | simp [TV.isCell] at this
theorem snd_mks {ag : Bool} {sz bytes : Nat} {z : List TV} {l c : Src} {d : Dl} (hc : chkOp P o.op (.mks ag sz bytes z l c) = true) (hI : Inv w g ow st a) {call : CallF} (hd : delta call st (.mks ag sz bytes z l c) = some d) {Q : Exit → Act → World → Prop} :
    o.wp P a w (Nxt w g ow st.h.length (d.ap o.dst st)) Q := by
  cases hop : o.op <;> rw [hop] at hc <;> try (simp [chkOp] at hc; done)
  rename_i t y1 y2
  simp only [chkOp] at hc
  split at hc
  · rename_i e he
    simp at hc
    obtain ⟨⟨⟨⟨⟨⟨⟨hl, hz⟩, hby⟩, hb0⟩, hlz⟩, hzl⟩, c1⟩, c2⟩ := hc
    have ht := elem_of he
    obtain ⟨zv, hzr, ⟨ti, hi, hiz⟩, hcv⟩ := layZ_of hlz
    obtain ⟨hs1, hs2, hs3⟩ := lay_of hl
    have hisz : ti.size = sz := by unfold szOf at hs1; rw [hi] at hs1; simpa using hs1
    have hiby : ti.bytes = bytes := by unfold byOf at hby; rw [hi] at hby; simpa using hby
    have hpc : (pack ag z).cells = z := pack_cells (by rw [hzl]; exact hs3) hcv
    simp only [delta] at hd
    split at hd
    · rename_i kl li kc ci e1 e2
      split at hd
      · rename_i hcond
        obtain ⟨q1, q2, q3, q4⟩ := hcond
        obtain rfl := Option.some.inj hd
        have h1 := (ev_spec hI c1 e1).1.int_inv
        have h2 := (ev_spec hI c2 e2).1.int_inv
        have hbytes : (ti.bytes : Int) * ci ≤ 281474976710656 := by
          rw [hiby]
          have : (ci.toNat : Int) = ci := Int.toNat_of_nonneg (by omega)
          have h3 : ((ci.toNat * bytes : Nat) : Int) ≤ ((140737488355328 : Nat) : Int) := Int.ofNat_le.2 q3
          rw [Int.natCast_mul, this, Int.mul_comm] at h3
          omega
        have hrun := run_make (P := P) w t e ti zv ht hi hiz kl kc li ci q1 q2 hbytes q4
        have hheap : (w.alloc (.cells (madeCells zv.cells (ci.toNat * ti.size)) e)).heap = w.heap.push (.cells (madeCells zv.cells (ci.toNat * ti.size)) e) := rfl
        have hrun2 : (execOp a.eval o).run P w = .ok (.value (.slice (some (at_ w.heap.size 0)) li.toNat ci.toNat)) (w.alloc (.cells (madeCells zv.cells (ci.toNat * ti.size)) e)) := by
          unfold execOp; rw [hop]
          simp only [h1, h2, Sem.run_bind, hrun, Result.andThen_ok]; rfl
        refine wp_val hrun2 ?_
        obtain ⟨k1, k2⟩ := cvals_cells (w := w) (g := g) (m := st.h.length) hcv
        have hfl := flat_rep (pack ag z) ci.toNat
        rw [hpc, hzl] at hfl
        have hsize : (madeCells zv.cells (ci.toNat * ti.size)).size = ci.toNat * sz := by rw [size_madeCells, hisz]
        have hlen : (flat (zeros ag z ci.toNat)).length = (madeCells zv.cells (ci.toNat * ti.size)).size := by rw [hsize]; exact hfl.1
        have hzs : zv.cells.size = sz := by omega
        obtain ⟨hs, hI1⟩ := hI.mkBox (w' := w.alloc (.cells (madeCells zv.cells (ci.toNat * ti.size)) e)) (cs := flat (zeros ag z ci.toNat)) hheap rfl rfl rfl (Nat.le_of_eq hlen) (fun j x u hx hu => by
          have hj : j < ci.toNat * sz := by have := (Array.getElem?_eq_some_iff.1 hu).1; omega
          have hx' := hfl.2 j hj
          rw [show flat (zeros ag z ci.toNat) = flat (List.replicate ci.toNat (pack ag z)) from rfl] at hx
          rw [hx'] at hx
          have hmod : j % sz < zv.cells.size := by rw [hzs]; exact Nat.mod_lt _ hz
          have hu' : u = zv.cells[j % sz] := by
            unfold madeCells at hu
            rw [hisz] at hu
            simp [hj, hzs] at hu
            rw [← hu]
            simp [hmod]
          obtain ⟨c1, c2, c3⟩ := k2 _ x u hx (by rw [hu']; simp)
          exact ⟨c1, c2, c3 _ _ _ _⟩)
        refine ⟨_, _, hs, ?_⟩
        cases hdst : o.dst with
        | none => exact ⟨hI1.defers, hI1.len, hI1.slot, hI1.box, hI1.bd, hI1.base⟩
        | some i =>
          have hnu : (gBox g w.heap.size st.h.length).nu st.h.length = w.heap.size := by simp [gBox]
          have hp : VR (w.alloc (.cells (madeCells zv.cells (ci.toNat * ti.size)) e)) (gBox g w.heap.size st.h.length) (st.h ++ [flat (zeros ag z ci.toNat)]).length (.asl ag sz st.h.length 0 li.toNat) (.slice (some (at_ ((gBox g w.heap.size st.h.length).nu st.h.length) 0)) li.toNat ci.toNat) :=
            .asl _ _ _ _ _ _ (by simp) (by omega) (by omega) ⟨_, _, _, by rw [hnu]; exact row_push hheap, by omega⟩
          rw [hnu] at hp
          exact hI1.put i rfl hp (owns_cell rfl rfl)
      · cases hd
    · cases hd
  · cases hc
end
end Go.T
