/- What a state of the small machine says of a frame of the model. -/
import Derived.Test.YtlcnhdbedgpbiaaOTRel
set_option linter.unusedVariables false
set_option linter.unusedSimpArgs false
namespace Go.T

theorem sl_set (t : List TV) (i j : Nat) (v : TV) : sl (t.set i v) j = if i = j ∧ j < t.length then v else sl t j := by
  unfold sl
  simp only [List.getD_eq_getElem?_getD, List.getElem?_set]
  by_cases h : i = j
  · subst h
    by_cases h2 : i < t.length
    · simp [h2]
    · simp [h2, List.getElem?_eq_none (Nat.le_of_not_lt h2)]
  · simp [h]
theorem getD_put (a : Act) (d j : Nat) (v : Value) : (a.put (some d) v).tmps.getD j undef = if d = j ∧ j < a.tmps.size then v else a.tmps.getD j undef := by
  show (a.tmps.setIfInBounds d v).getD j undef = _
  simp only [Array.getD_eq_getD_getElem?, Array.getElem?_setIfInBounds]
  by_cases h : d = j
  · subst h
    by_cases h2 : d < a.tmps.size
    · simp [h2]
    · simp [h2]
  · simp [h]

/-- What slot j holds. -/
def SlotR (w : World) (g : Gh) (m : Nat) (ow : Ow) (t : List TV) (tm : Array Value) (j : Nat) : TV → Value → Prop
  | .lbox cs, v => ∃ b, v = .pointer (some (at_ b 0)) ∧ BoxR w g m ow [0, j] cs b
  | .lp b o, v => ∀ cs, sl t b = .lbox cs → ∃ k, tm.getD b undef = .pointer (some (at_ k 0)) ∧ v = .pointer (some (at_ k o))
  | x, v => VR w g m x v ∧ Owns w g ow [0, j] x v
structure Inv (w : World) (g : Gh) (ow : Ow) (st : St) (a : Act) : Prop where
  defers : a.defers = []
  len : st.t.length = a.tmps.size
  slot : ∀ j, SlotR w g st.h.length ow st.t a.tmps j (sl st.t j) (a.tmps.getD j undef)
  box : ∀ (i : Nat) cs, st.h[i]? = some cs → BoxD w g st.h.length ow [1, i] cs (g.nu i)
  bd : ∀ b q, ow b = some q → b < w.heap.size
  base : st.base ≤ st.h.length

def plainV : TV → Bool
  | .lbox _ | .lp .. => false
  | _ => true
theorem SlotR.plain {w : World} {g : Gh} {m : Nat} {ow : Ow} {t : List TV} {tm : Array Value} {j : Nat} {x : TV} {v : Value} (hx : plainV x = true) : SlotR w g m ow t tm j x v ↔ VR w g m x v ∧ Owns w g ow [0, j] x v := by
  cases x <;> first | rfl | simp [plainV] at hx
theorem Inv.plain {w : World} {g : Gh} {ow : Ow} {st : St} {a : Act} (h : Inv w g ow st a) {j : Nat} (hx : plainV (sl st.t j) = true) : VR w g st.h.length (sl st.t j) (a.tmps.getD j undef) ∧ Owns w g ow [0, j] (sl st.t j) (a.tmps.getD j undef) :=
  (SlotR.plain hx).1 (h.slot j)
theorem plain_shrT (x : TV) (h : plainV x = true) : plainV x.shrT = true := by cases x <;> first | rfl | simp [plainV] at h

/-- A constant. -/
theorem cval_VR {w : World} {g : Gh} {m : Nat} {v : Value} {x : TV} (h : cval v x = true) : VR w g m x v ∧ x.isCell = true ∧ ∀ w' g' ow' q, Owns w' g' ow' q x v := by
  unfold cval at h
  split at h
  · obtain rfl := eq_of_beq h; exact ⟨.bool _, rfl, fun _ _ _ _ => owns_cell rfl rfl⟩
  · simp at h; obtain ⟨rfl, rfl⟩ := h; exact ⟨.int _ _, rfl, fun _ _ _ _ => owns_cell rfl rfl⟩
  · simp at h; subst h; exact ⟨.str _, rfl, fun _ _ _ _ => owns_cell rfl rfl⟩
  · exact ⟨.nilp, rfl, fun _ _ _ _ => owns_cell rfl rfl⟩
  · exact ⟨.nils none (by simp), rfl, fun _ _ _ _ => owns_cell rfl rfl⟩
  · exact ⟨.sl _ [] none 0 1 (fun _ _ => default) (by decide) (by simp) (by simp) (by simp) (fun _ => rfl) (by simp) (by simp) (by simp), rfl, fun _ _ _ _ => owns_cell rfl rfl⟩
  · rename_i n
    refine ⟨.sl _ [] none 0 1 (fun _ _ => default) (by decide) (by simp) (by simp) (by simp) (fun _ => rfl) (by simp) (by simp) (by simp), rfl, ?_⟩
    intro w' g' ow' q p sz s l A n c hs
    cases hs
    simp at h
    exact ⟨h, by simp⟩
  · exact ⟨.nilf, rfl, fun _ _ _ _ => owns_cell rfl rfl⟩
  · rename_i f a b f'
    simp at h
    obtain ⟨⟨rfl, h1⟩, h2⟩ := h
    subst h1; subst h2
    exact ⟨.fn f [] #[] rfl (by simp) (by simp), rfl, fun _ _ _ _ => owns_cell rfl rfl⟩
  · cases h
theorem cvals_get {vs : List Value} {xs : List TV} (h : cvals vs xs = true) : xs.length = vs.length ∧ ∀ (j : Nat) (x : TV) (v : Value), xs[j]? = some x → vs[j]? = some v → cval v x = true := by
  induction vs generalizing xs with
  | nil => cases xs <;> simp [cvals] at h ⊢
  | cons v vs ih =>
    cases xs with
    | nil => simp [cvals] at h
    | cons x xs =>
      simp [cvals] at h
      obtain ⟨h1, h2⟩ := ih h.2
      refine ⟨by simp [h1], fun j y u hy hu => ?_⟩
      cases j with
      | zero => simp at hy hu; subst hy; subst hu; exact h.1
      | succ j => simp at hy hu; exact h2 j y u hy hu
theorem cvals_agg {w : World} {g : Gh} {m : Nat} {vs : Array Value} {xs : List TV} (h : cvals vs.toList xs = true) : VR w g m (.agg xs) (.agg vs) ∧ (∀ w' g' ow' q, Owns w' g' ow' q (.agg xs) (.agg vs)) := by
  obtain ⟨hl, hc⟩ := cvals_get h
  have hc' : ∀ (j : Nat) (x : TV) (v : Value), xs[j]? = some x → vs[j]? = some v → cval v x = true := fun j x v hx hv => hc j x v hx (by simpa using hv)
  refine ⟨.agg _ _ (by simpa using hl) (fun j x v hx hv => (cval_VR (w := w) (g := g) (m := m) (hc' j x v hx hv)).2.1) (fun j x v hx hv => (cval_VR (hc' j x v hx hv)).1), ?_⟩
  intro w' g' ow' q p sz s l A n c hs
  cases hs with
  | agg _ _ k x v p _ _ hx hv h' => exact (cval_VR (w := w) (g := g) (m := m) (hc' k x v hx hv)).2.2 w' g' ow' (q ++ [k]) p sz s l A n c h' |> fun h => by simpa using h
theorem cvalA_VR {w : World} {g : Gh} {m : Nat} {v : Value} {x : TV} (h : cvalA v x = true) : VR w g m x v ∧ plainV x = true ∧ ∀ w' g' ow' q, Owns w' g' ow' q x v := by
  unfold cvalA at h
  split at h
  · obtain ⟨h1, h2⟩ := cvals_agg (w := w) (g := g) (m := m) h
    exact ⟨h1, rfl, h2⟩
  · obtain ⟨h1, h2, h3⟩ := cval_VR (w := w) (g := g) (m := m) h
    exact ⟨h1, by cases x <;> first | rfl | simp [TV.isCell] at h2, h3⟩

section
variable {w : World} {g : Gh} {ow : Ow} {st : St} {a : Act}
theorem ev_s {t : List TV} {i : Nat} {v : TV} (h : ev t (.s i) = some v) : plainV (sl t i) = true ∧ v = (sl t i).shrT := by
  simp only [ev] at h
  split at h
  · cases h
  · cases h
  · rename_i hx hy
    simp at h
    refine ⟨?_, h.symm⟩
    generalize sl t i = x at *
    cases x <;> first | rfl | simp_all [plainV]
theorem ev_spec (hI : Inv w g ow st a) {o : Operand} {x : Src} {v : TV} (hc : chkS o x = true) (he : ev st.t x = some v) :
    VR w g st.h.length v (a.eval o) ∧ plainV v = true ∧ ∀ w' g' ow' q, Owns w' g' ow' q v (a.eval o) := by
  unfold chkS at hc
  split at hc
  · obtain rfl := eq_of_beq hc
    obtain ⟨hp, rfl⟩ := ev_s he
    obtain ⟨h1, h2⟩ := hI.plain hp
    exact ⟨h1.shrT, plain_shrT _ hp, fun _ _ _ _ => h1.owns_shrT⟩
  · simp only [ev, Option.some.injEq] at he
    subst he
    obtain ⟨h1, h2, _⟩ := cvalA_VR (w := w) (g := g) (m := st.h.length) hc
    exact ⟨h1.shrT, plain_shrT _ h2, fun _ _ _ _ => h1.owns_shrT⟩
  · obtain rfl := eq_of_beq hc
    simp only [ev, Option.some.injEq] at he
    subst he
    exact ⟨.fn _ [] #[] rfl (by simp) (by simp), rfl, fun _ _ _ _ => owns_cell rfl rfl⟩
  · cases hc
theorem tak_s {t : List TV} {tk : Bool} {i : Nat} {v : TV} {is : List Nat} (h : tak t tk (.s i) = some (v, is)) : plainV (sl t i) = true ∧ ((v = sl t i ∧ is = [i] ∧ tk = true) ∨ (v = (sl t i).shrT ∧ is = [] ∧ tk = false)) := by
  simp only [tak] at h
  split at h
  · cases h
  · cases h
  · rename_i hx hy
    refine ⟨?_, ?_⟩
    · generalize sl t i = x at *
      cases x <;> first | rfl | simp_all [plainV]
    · cases tk
      · simp at h; right; exact ⟨h.1.symm, h.2, rfl⟩
      · simp at h; left; exact ⟨h.1.symm, h.2.symm, rfl⟩
/-- A value that is taken: either it owns nothing, or it is what a slot holds, with what that owns. -/
theorem tak_spec (hI : Inv w g ow st a) {o : Operand} {x : Src} {tk : Bool} {v : TV} {is : List Nat} (hc : chkS o x = true) (he : tak st.t tk x = some (v, is)) :
    VR w g st.h.length v (a.eval o) ∧ plainV v = true ∧ ((is = [] ∧ ∀ w' g' ow' q, Owns w' g' ow' q v (a.eval o)) ∨ ∃ i, is = [i] ∧ v = sl st.t i ∧ Owns w g ow [0, i] v (a.eval o)) := by
  unfold chkS at hc
  split at hc
  · obtain rfl := eq_of_beq hc
    obtain ⟨hp, ⟨rfl, rfl, _⟩ | ⟨rfl, rfl, _⟩⟩ := tak_s he
    · obtain ⟨h1, h2⟩ := hI.plain hp
      exact ⟨h1, hp, .inr ⟨_, rfl, rfl, h2⟩⟩
    · obtain ⟨h1, h2⟩ := hI.plain hp
      exact ⟨h1.shrT, plain_shrT _ hp, .inl ⟨rfl, fun _ _ _ _ => h1.owns_shrT⟩⟩
  · obtain ⟨h1, h2, h3⟩ := cvalA_VR (w := w) (g := g) (m := st.h.length) hc
    cases tk
    · simp only [tak, Bool.false_eq_true, if_false, Option.some.injEq, Prod.mk.injEq] at he
      obtain ⟨rfl, rfl⟩ := he
      exact ⟨h1.shrT, plain_shrT _ h2, .inl ⟨rfl, fun _ _ _ _ => h1.owns_shrT⟩⟩
    · simp only [tak, if_true, Option.some.injEq, Prod.mk.injEq] at he
      obtain ⟨rfl, rfl⟩ := he
      exact ⟨h1, h2, .inl ⟨rfl, h3⟩⟩
  · obtain rfl := eq_of_beq hc
    cases tk
    · simp only [tak, Bool.false_eq_true, if_false, Option.some.injEq, Prod.mk.injEq] at he
      obtain ⟨rfl, rfl⟩ := he
      exact ⟨.fn _ [] #[] rfl (by simp) (by simp), rfl, .inl ⟨rfl, fun _ _ _ _ => owns_cell rfl rfl⟩⟩
    · simp only [tak, if_true, Option.some.injEq, Prod.mk.injEq] at he
      obtain ⟨rfl, rfl⟩ := he
      exact ⟨.fn _ [] #[] rfl (by simp) (by simp), rfl, .inl ⟨rfl, fun _ _ _ _ => owns_cell rfl rfl⟩⟩
  · cases hc

/-- A slot that owns nothing any more. -/
theorem Inv.down (hI : Inv w g ow st a) (i : Nat) (hp : plainV (sl st.t i) = true) : Inv w g ow { st with t := st.t.set i (sl st.t i).shrT } a where
  defers := hI.defers
  len := by simpa using hI.len
  bd := hI.bd
  base := hI.base
  box := hI.box
  slot j := by
    have hj := hI.slot j
    by_cases h : i = j ∧ j < st.t.length
    · obtain ⟨rfl, hl⟩ := h
      obtain ⟨h1, h2⟩ := hI.plain hp
      rw [sl_set, if_pos ⟨rfl, hl⟩]
      exact (SlotR.plain (plain_shrT _ hp)).2 ⟨h1.shrT, h1.owns_shrT⟩
    · rw [sl_set, if_neg h]
      generalize hx : sl st.t j = x at hj ⊢
      cases x <;> try exact hj
      case lp b o =>
        intro cs hb
        refine hj cs ?_
        rw [sl_set] at hb
        split at hb
        · rename_i hh
          obtain ⟨rfl, _⟩ := hh
          have := plain_shrT _ hp
          rw [hb] at this
          simp [plainV] at this
        · exact hb
/-- What is written into a slot. -/
theorem Inv.put (hI : Inv w g ow st a) (d : Nat) {x : TV} {v : Value} (hx : plainV x = true) (hv : VR w g st.h.length x v) (ho : Owns w g ow [0, d] x v) : Inv w g ow { st with t := st.t.set d x } (a.put (some d) v) where
  defers := hI.defers
  len := by simpa [Act.put] using hI.len
  bd := hI.bd
  base := hI.base
  box := hI.box
  slot j := by
    have hj := hI.slot j
    rw [getD_put, sl_set, ← hI.len]
    by_cases h : d = j ∧ j < st.t.length
    · obtain ⟨rfl, hl⟩ := h
      rw [if_pos ⟨rfl, hl⟩, if_pos ⟨rfl, hl⟩]
      exact (SlotR.plain hx).2 ⟨hv, ho⟩
    · rw [if_neg h, if_neg h]
      generalize hy : sl st.t j = y at hj ⊢
      cases y <;> try exact hj
      case lp b o =>
        intro cs hb
        rw [sl_set] at hb
        split at hb
        · rw [hb] at hx; simp [plainV] at hx
        · rename_i hn
          obtain ⟨k, h1, h2⟩ := hj cs hb
          refine ⟨k, ?_, h2⟩
          rw [getD_put, ← hI.len, if_neg hn]
          exact h1
/-- A pointer into a box of the frame, written into a slot. -/
theorem Inv.putLp (hI : Inv w g ow st a) (d b o : Nat) {v : Value} (hv : ∀ cs, sl st.t b = .lbox cs → ∃ k, a.tmps.getD b undef = .pointer (some (at_ k 0)) ∧ v = .pointer (some (at_ k o))) :
    Inv w g ow { st with t := st.t.set d (.lp b o) } (a.put (some d) v) where
  defers := hI.defers
  len := by simpa [Act.put] using hI.len
  bd := hI.bd
  base := hI.base
  box := hI.box
  slot j := by
    have hj := hI.slot j
    have key : ∀ (b' : Nat) cs, sl (st.t.set d (.lp b o)) b' = .lbox cs → sl st.t b' = .lbox cs ∧ (a.put (some d) v).tmps.getD b' undef = a.tmps.getD b' undef := by
      intro b' cs hb
      rw [sl_set] at hb
      split at hb
      · cases hb
      · rename_i hn
        refine ⟨hb, ?_⟩
        rw [getD_put, ← hI.len, if_neg hn]
    rw [sl_set]
    by_cases h : d = j ∧ j < st.t.length
    · obtain ⟨rfl, hl⟩ := h
      rw [if_pos ⟨rfl, hl⟩]
      intro cs hb
      obtain ⟨e1, e2⟩ := key b cs hb
      obtain ⟨k, h1, h2⟩ := hv cs e1
      refine ⟨k, by rw [e2]; exact h1, ?_⟩
      rw [getD_put, ← hI.len, if_pos ⟨rfl, hl⟩]
      exact h2
    · rw [if_neg h, getD_put, ← hI.len, if_neg h]
      generalize hy : sl st.t j = y at hj ⊢
      cases y <;> try exact hj
      case lp b' o' =>
        intro cs hb
        obtain ⟨e1, e2⟩ := key b' cs hb
        obtain ⟨k, h1, h2⟩ := hj cs e1
        exact ⟨k, by rw [e2]; exact h1, h2⟩
/-- The world goes on, and what the frame has is as it was. -/
theorem Inv.mono (hI : Inv w g ow st a) {w' : World} {g' : Gh} {ow' : Ow} (hs : Stp w g ow st.h.length w' g' ow') (hk : ∀ b q, ow b = some q → q.head? = some 0 ∨ q.head? = some 1 → w'.heap[b]? = w.heap[b]? ∧ g'.imm b = g.imm b ∧ ow' b = ow b)
    (hb : ∀ b q, ow' b = some q → b < w'.heap.size) : Inv w' g' ow' st a where
  defers := hI.defers
  len := hI.len
  bd := hb
  base := hI.base
  box i cs hi := by
    have hlt : i < st.h.length := (List.getElem?_eq_some_iff.1 hi).1
    rw [hs.nu i hlt]
    exact (hI.box i cs hi).mono hs (Nat.le_refl _) (fun b p hbp => hk b _ hbp (.inr rfl))
  slot j := by
    have hj := hI.slot j
    generalize sl st.t j = x at hj ⊢
    have hkj : ∀ b p, ow b = some ([0, j] ++ p) → w'.heap[b]? = w.heap[b]? ∧ g'.imm b = g.imm b ∧ ow' b = ow b := fun b p hbp => hk b _ hbp (.inl rfl)
    cases x <;> first | exact ⟨hj.1.mono hs (Nat.le_refl _), hj.2.mono hkj⟩ | skip
    case lbox cs =>
      obtain ⟨b, h1, h2⟩ := hj
      exact ⟨b, h1, h2.mono hs (Nat.le_refl _) hkj⟩
    case lp b o => exact hj
/-- What is owned at one place is owned at another one. -/
def mvO (ow : Ow) (q q' : List Nat) : Ow := fun b => match ow b with
  | some r => if q.isPrefixOf r then some (q' ++ r.drop q.length) else some r
  | none => none
theorem mvO_at {ow : Ow} {q q' p : List Nat} {b : Nat} (h : ow b = some (q ++ p)) : mvO ow q q' b = some (q' ++ p) := by
  simp [mvO, h]
theorem mvO_none {ow : Ow} {q q' : List Nat} {b : Nat} : mvO ow q q' b = none ↔ ow b = none := by
  unfold mvO
  cases h : ow b with
  | none => simp
  | some r => simp; split <;> simp
theorem mvO_far {ow : Ow} {q q' : List Nat} {b : Nat} {r : List Nat} (h : ow b = some r) (hn : q.isPrefixOf r = false) : mvO ow q q' b = some r := by
  simp [mvO, h, hn]
theorem pre_slot {i j : Nat} {p : List Nat} (h : i ≠ j) : List.isPrefixOf [0, i] ([0, j] ++ p) = false := by
  simp [List.isPrefixOf, h]
theorem mvO_some {ow : Ow} {q q' r : List Nat} {b : Nat} (h : mvO ow q q' b = some r) : (∃ p, ow b = some (q ++ p) ∧ r = q' ++ p) ∨ (ow b = some r ∧ q.isPrefixOf r = false) := by
  unfold mvO at h
  split at h
  · rename_i s hs
    split at h
    · rename_i hpre
      obtain ⟨p, rfl⟩ := List.isPrefixOf_iff_prefix.1 hpre
      left
      exact ⟨p, hs, by simpa using h.symm⟩
    · rename_i hpre
      obtain rfl : s = r := by simpa using h
      right
      exact ⟨hs, by cases hh : q.isPrefixOf s <;> first | rfl | exact absurd hh hpre⟩
  · cases h
/-- A place that nobody holds any more is given another name. -/
theorem Stp.free {w : World} {g : Gh} {ow : Ow} {m : Nat} (hbd : ∀ b q, ow b = some q → b < w.heap.size) (q : List Nat) (k : Nat) (q' : List Nat) (hq : q.head? ≠ some 2) (hq0 : q ≠ []) (hk : k ≠ 2) : Stp w g ow m w g (mvO ow q (k :: q')) := by
  have hn2 : ∀ r, q.isPrefixOf (2 :: r) = false := by
    intro r
    cases q with
    | nil => exact absurd rfl hq0
    | cons x xs => simp at hq; simp [List.isPrefixOf, hq]
  refine ⟨rfl, rfl, rfl, Nat.le_refl _, fun _ _ _ _ => rfl, fun _ _ => Nat.le_refl _, fun _ _ => rfl, fun b vs ty fr hh => ⟨vs, fr, hh, rfl⟩, fun b hb hf => ⟨rfl, rfl, ?_⟩, fun b r hr => ?_⟩
  · rcases hf with hf | ⟨r, hf⟩
    · rw [hf]; exact mvO_none.2 hf
    · rw [hf]; exact mvO_far hf (hn2 r)
  · rcases mvO_some hr with ⟨p, _, h⟩ | ⟨h, _⟩
    · simp at h; exact absurd h.1.symm hk
    · exact ⟨hbd b _ h, h⟩
theorem mvO_bd {w : World} {ow : Ow} {q q' : List Nat} (hbd : ∀ b q, ow b = some q → b < w.heap.size) : ∀ b r, mvO ow q q' b = some r → b < w.heap.size := by
  intro b r hr
  rcases mvO_some hr with ⟨p, h, _⟩ | ⟨h, _⟩
  · exact hbd b _ h
  · exact hbd b _ h
/-- A slot that owns nothing gives its place away. -/
theorem Inv.free (hI : Inv w g ow st a) (i k : Nat) (q' : List Nat) (hp : plainV (sl st.t i) = true) (hn : ∀ ow', Owns w g ow' [0, i] (sl st.t i) (a.tmps.getD i undef)) :
    Inv w g (mvO ow [0, i] (k :: q')) st a where
  defers := hI.defers
  len := hI.len
  base := hI.base
  bd := mvO_bd hI.bd
  box j cs hj := by
    intro hdd
    obtain ⟨vs, ty, fr, h1, h2, h3, h4, h5, h6⟩ := hI.box j cs hj hdd
    refine ⟨vs, ty, fr, h1, h2, h3, h4, mvO_far h5 (by simp [List.isPrefixOf]), fun x y v hx hv => ?_⟩
    obtain ⟨c1, c2, c3⟩ := h6 x y v hx hv
    exact ⟨c1, c2, c3.mono (fun b p hb => ⟨rfl, rfl, by rw [hb]; exact mvO_far hb (by simp [List.isPrefixOf])⟩)⟩
  slot j := by
    by_cases hij : i = j
    · subst hij
      exact (SlotR.plain hp).2 ⟨(hI.plain hp).1, hn _⟩
    · have hj := hI.slot j
      generalize sl st.t j = x at hj ⊢
      have hk : ∀ b p, ow b = some ([0, j] ++ p) → mvO ow [0, i] (k :: q') b = ow b := fun b p hb => by rw [hb]; exact mvO_far hb (pre_slot hij)
      cases x <;> first | exact ⟨hj.1, hj.2.mono (fun b p hb => ⟨rfl, rfl, hk b p hb⟩)⟩ | skip
      case lbox cs =>
        obtain ⟨b, h1, vs, ty, fr, r1, r2, r3, r4, r5, r6⟩ := hj
        refine ⟨b, h1, vs, ty, fr, r1, r2, r3, r4, by rw [hk b [] (by simpa using r5)]; exact r5, fun x y v hx hv => ?_⟩
        obtain ⟨c1, c2, c3⟩ := r6 x y v hx hv
        exact ⟨c1, c2, c3.mono (fun b' p hb => ⟨rfl, rfl, hk b' ([x] ++ p) (by rw [hb]; simp)⟩)⟩
      case lp b o => exact hj
end
end Go.T
