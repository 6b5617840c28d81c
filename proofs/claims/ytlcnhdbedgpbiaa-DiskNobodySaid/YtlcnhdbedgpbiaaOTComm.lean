/- Two operations of the small machine that look at different things may be carried out in either order. -/
import Derived.Test.YtlcnhdbedgpbiaaOTFun
set_option linter.unusedVariables false
set_option linter.unusedSimpArgs false
set_option maxRecDepth 10000
namespace Go.T
/-- What every look at a slot sees. -/
def TV.vw : TV → TV
  | .lbox cs => .lbox (cs.map TV.shr0)
  | v => v.shrT
theorem ev_vw (t : List TV) (i : Nat) : ev t (.s i) = match (sl t i).vw with
    | .lbox _ | .lp .. => none
    | v => some v := by
  simp only [ev]
  cases sl t i <;> rfl
structure Agr (x : TOp) (st st' : St) : Prop where
  rd : ∀ i ∈ x.rd, (sl st.t i).vw = (sl st'.t i).vw
  eq : ∀ i ∈ x.tk ++ x.bx, sl st.t i = sl st'.t i
  hp : x.hp ≠ 0 → st.h = st'.h ∧ st.keep = st'.keep
  lb : ∀ i, isLb (sl st.t i) = isLb (sl st'.t i)
section
variable {t t' : List TV} {st st' : St} {call : CallF}
theorem ev_agr {x : Src} (h : ∀ i ∈ x.ss, (sl t i).vw = (sl t' i).vw) : ev t x = ev t' x := by
  cases x with
  | c v => rfl
  | s i => rw [ev_vw, ev_vw, h i (by simp [Src.ss])]
theorem tak_agr {tk : Bool} {x : Src} (h : ∀ i ∈ rdS tk x, (sl t i).vw = (sl t' i).vw) (k : ∀ i ∈ tkS tk x, sl t i = sl t' i) : tak t tk x = tak t' tk x := by
  cases x with
  | c v => rfl
  | s i =>
    cases tk with
    | true =>
      have := k i (by simp [tkS, Src.ss])
      simp only [tak, this]
    | false =>
      have := h i (by simp [rdS, Src.ss])
      have e : ∀ u : List TV, tak u false (.s i) = match (sl u i).vw with
          | .lbox _ | .lp .. => none
          | v => some (v, []) := by
        intro u
        simp only [tak]
        cases sl u i <;> rfl
      rw [e, e, this]
/-- What is no address. -/
def nad : TV → Bool
  | .sl .. | .nils | .agg _ | .tup _ => true
  | _ => false
/-- Addresses that agree. -/
theorem ad_agr {x : Src} (h : ∀ i ∈ x.ss, (sl t i).vw = (sl t' i).vw) : ad t x = ad t' x ∨ (nad (ad t x) = true ∧ nad (ad t' x) = true) := by
  cases x with
  | c v => exact .inl rfl
  | s i =>
    have := h i (by simp [Src.ss])
    simp only [ad]
    cases h1 : sl t i <;> cases h2 : sl t' i <;> rw [h1, h2] at this <;> (try simp [TV.vw, TV.shrT, TV.shrA, TV.shr0] at this) <;> first | exact .inr ⟨rfl, rfl⟩ | exact .inl rfl | exact .inl (by simp [this]) | (simp_all; done)
theorem getH_nad {h : Heap} {v : TV} {n : Nat} (hv : nad v = true) : getH h v n = none := by cases v <;> first | rfl | simp [nad] at hv
theorem evs_agr : ∀ {xs : List Src}, (∀ i ∈ xs.flatMap Src.ss, (sl t i).vw = (sl t' i).vw) → evs t xs = evs t' xs := by
  intro xs
  induction xs with
  | nil => intro _; rfl
  | cons x xs ih =>
    intro h
    simp only [evs]
    rw [ev_agr (fun i hi => h i (by simp [hi])), ih (fun i hi => h i (by simp only [List.flatMap_cons, List.mem_append]; exact .inr hi))]
theorem taks_agr : ∀ {xs : List (Bool × Src)}, (∀ i ∈ xs.flatMap (fun p => rdS p.1 p.2), (sl t i).vw = (sl t' i).vw) → (∀ i ∈ xs.flatMap (fun p => tkS p.1 p.2), sl t i = sl t' i) → taks t xs = taks t' xs := by
  intro xs
  induction xs with
  | nil => intro _ _; rfl
  | cons x xs ih =>
    intro h k
    obtain ⟨b, x⟩ := x
    simp only [taks]
    rw [tak_agr (fun i hi => h i (by simp [hi])) (fun i hi => k i (by simp [hi])), ih (fun i hi => h i (by simp only [List.flatMap_cons, List.mem_append]; exact .inr hi)) (fun i hi => k i (by simp only [List.flatMap_cons, List.mem_append]; exact .inr hi))]
theorem fillP_agr : ∀ {ps : List (Nat × Nat × Src)} {cs : List TV}, (∀ i ∈ ps.flatMap (fun p => p.2.2.ss), (sl t i).vw = (sl t' i).vw) → fillP t ps cs = fillP t' ps cs := by
  intro ps
  induction ps with
  | nil => intro _ _; rfl
  | cons p ps ih =>
    intro cs h
    obtain ⟨o, n, x⟩ := p
    simp only [fillP]
    rw [ev_agr (fun i hi => h i (by simp [hi]))]
    cases ev t' x with
    | none => rfl
    | some v =>
      simp only
      split
      · exact ih (fun i hi => h i (by simp only [List.flatMap_cons, List.mem_append]; exact .inr hi))
      · rfl
theorem fillE_agr {ag : Bool} {sz : Nat} : ∀ {ps : List (Nat × Src)} {cs : List TV}, (∀ i ∈ ps.flatMap (fun p => p.2.ss), (sl t i).vw = (sl t' i).vw) → fillE t ag sz ps cs = fillE t' ag sz ps cs := by
  intro ps
  induction ps with
  | nil => intro _ _; rfl
  | cons p ps ih =>
    intro cs h
    obtain ⟨o, x⟩ := p
    simp only [fillE]
    rw [ev_agr (fun i hi => h i (by simp [hi]))]
    cases ev t' x with
    | none => rfl
    | some v =>
      simp only
      split
      · exact ih (fun i hi => h i (by simp only [List.flatMap_cons, List.mem_append]; exact .inr hi))
      · rfl
theorem bound_agr {x : Option Src} {a b : Nat} (h : ∀ i ∈ x.elim [] Src.ss, (sl t i).vw = (sl t' i).vw) : bound t x a b = bound t' x a b := by
  cases x with
  | none => rfl
  | some x => simp only [bound]; rw [ev_agr h]
theorem callD_agr {pu f : Nat} {tk : List Nat} {vs : List TV} (h : (match pu with | 0 => 2 | 1 => 1 | 3 => 2 | 4 => 1 | _ => 0) ≠ 0 → st.h = st'.h ∧ st.keep = st'.keep) : callD call pu st tk f vs = callD call pu st' tk f vs := by
  unfold callD
  split
  · split
    · obtain ⟨h1, h2⟩ := h (by simp)
      rw [h1, h2]
    · obtain ⟨h1, h2⟩ := h (by simp)
      rw [h1]
    · obtain ⟨h1, h2⟩ := h (by simp)
      rw [h1, h2]
    · obtain ⟨h1, h2⟩ := h (by simp)
      rw [h1]
    · rfl
    · rfl
  · rfl
theorem keptB_agr {h : Heap} : ∀ {ks : List Src}, (∀ i ∈ ks.flatMap Src.ss, (sl t i).vw = (sl t' i).vw) → (fun h' => keptB t h h' ks) = fun h' => keptB t' h h' ks := by
  intro ks
  induction ks with
  | nil => intro _; rfl
  | cons p ks ih =>
    intro hh
    have ih' := ih (fun i hi => hh i (by simp only [List.flatMap_cons, List.mem_append]; exact .inr hi))
    funext h'
    have ih2 : keptB t h h' ks = keptB t' h h' ks := congrFun ih' h'
    simp only [keptB]
    rw [ih2]
    rcases ad_agr (t := t) (t' := t') (x := p) (fun i hi => hh i (by simp [hi])) with e | ⟨e1, e2⟩
    · rw [e]
    · congr 1
      generalize ad t p = A at e1 ⊢
      generalize ad t' p = B at e2 ⊢
      cases A <;> first | (simp [nad] at e1; done) | (cases B <;> first | (simp [nad] at e2; done) | rfl)
theorem ldr_agr {ag : Bool} {n : Nat} {r p : Src} {h : Heap} (R : ∀ i ∈ r.ss ++ p.ss, (sl st.t i).vw = (sl st'.t i).vw) : (match ad st.t r, ad st.t p with
    | .ptr i _, .ptr j _ => if i = j then match getH h (ad st.t p) n with
      | some vs => some ({ v := pack ag (vs.map TV.shrK) } : Dl)
      | none => none
      else none
    | _, _ => none) = match ad st'.t r, ad st'.t p with
    | .ptr i _, .ptr j _ => if i = j then match getH h (ad st'.t p) n with
      | some vs => some { v := pack ag (vs.map TV.shrK) }
      | none => none
      else none
    | _, _ => none := by
  rcases ad_agr (t := st.t) (t' := st'.t) (x := r) (fun i hi => R i (by simp [hi])) with e | ⟨e1, e2⟩
  · rcases ad_agr (t := st.t) (t' := st'.t) (x := p) (fun i hi => R i (by simp [hi])) with f | ⟨f1, f2⟩
    · rw [e, f]
    · rw [e]
      generalize ad st.t p = A at f1 ⊢
      generalize ad st'.t p = B at f2 ⊢
      cases A <;> first | (simp [nad] at f1; done) | (cases B <;> first | (simp [nad] at f2; done) | (cases ad st'.t r <;> rfl))
  · generalize ad st.t r = A at e1 ⊢
    generalize ad st'.t r = B at e2 ⊢
    cases A <;> first | (simp [nad] at e1; done) | (cases B <;> first | (simp [nad] at e2; done) | rfl)
theorem delta_agr {x : TOp} (h : Agr x st st') : delta call st x = delta call st' x := by
  have R := h.rd
  have E := h.eq
  have H := h.hp
  cases x with
  | mv tk x => simp only [delta]; rw [tak_agr (t' := st'.t) (fun i hi => R i hi) (fun i hi => E i (by simp [TOp.tk, hi]))]
  | pick c a b => simp only [delta]; rw [ev_agr (t' := st'.t) (x := c) (fun i hi => R i (by simp [TOp.rd, hi])), ev_agr (t' := st'.t) (x := a) (fun i hi => R i (by simp [TOp.rd, hi])), ev_agr (t' := st'.t) (x := b) (fun i hi => R i (by simp [TOp.rd, hi]))]
  | lbx tk x => simp only [delta]; rw [tak_agr (t' := st'.t) (fun i hi => R i hi) (fun i hi => E i (by simp [TOp.tk, hi]))]
  | lal z => rfl
  | hbx tk x =>
    obtain ⟨h1, h2⟩ := H (by simp [TOp.hp])
    simp only [delta]; rw [tak_agr (t' := st'.t) (fun i hi => R i hi) (fun i hi => E i (by simp [TOp.tk, hi])), h1, h2]
  | hal z =>
    obtain ⟨h1, h2⟩ := H (by simp [TOp.hp])
    simp only [delta]; rw [h1, h2]
  | build z ps => simp only [delta]; rw [fillP_agr (t' := st'.t) (fun i hi => R i hi)]
  | bsl ag sz n z ps => simp only [delta]; rw [fillE_agr (t' := st'.t) (fun i hi => R i hi)]
  | ldl tk ag n b p =>
    simp only [delta]
    rcases ad_agr (t := st.t) (t' := st'.t) (x := p) (fun i hi => R i (by simp [TOp.rd, hi])) with e | ⟨e1, e2⟩
    · rw [e]
      cases ad st'.t p <;> try rfl
      rename_i b' o
      simp only
      split
      · cases tk with
        | true =>
          have := E b (by simp [TOp.tk])
          rw [this]
        | false =>
          have := R b (by simp [TOp.rd])
          cases h1 : sl st.t b <;> cases h2 : sl st'.t b <;> rw [h1, h2] at this <;> simp [TV.vw, TV.shrT, TV.shrA, TV.shr0] at this ⊢
          rename_i c1 c2
          have hc : ∀ c : List TV, (cut c o n).map (List.map TV.shr0) = cut (c.map TV.shr0) o n := by
            intro c
            unfold cut
            by_cases hh : o + n ≤ c.length
            · simp [hh, List.map_drop, List.map_take]
            · simp [hh]
          have h5 : (cut c1 o n).map (List.map TV.shr0) = (cut c2 o n).map (List.map TV.shr0) := by rw [hc, hc, this]
          cases h3 : cut c1 o n <;> cases h4 : cut c2 o n <;> simp [h3, h4] at h5 ⊢
          rw [h5]
      · rfl
    · generalize hA : ad st.t p = A at e1 ⊢
      generalize hB : ad st'.t p = B at e2 ⊢
      cases A <;> first | (simp [nad] at e1; done) | (cases B <;> first | (simp [nad] at e2; done) | rfl | (first | (split <;> rfl) | simp))
  | ldh tk ag n p =>
    obtain ⟨h1, h2⟩ := H (by simp [TOp.hp]; split <;> simp)
    simp only [delta]
    rcases ad_agr (t := st.t) (t' := st'.t) (x := p) (fun i hi => R i (by simp [TOp.rd, hi])) with e | ⟨e1, e2⟩
    · rw [e, h1, h2]
    · rw [getH_nad e1, getH_nad e2]
  | ldc ag n p =>
    simp only [delta]
    rcases ad_agr (t := st.t) (t' := st'.t) (x := p) (fun i hi => R i (by simp [TOp.rd, hi])) with e | ⟨e1, e2⟩
    · rw [e]
    · generalize hA : ad st.t p = A at e1 ⊢
      generalize hB : ad st'.t p = B at e2 ⊢
      cases A <;> first | (simp [nad] at e1; done) | (cases B <;> first | (simp [nad] at e2; done) | rfl | (first | (split <;> rfl) | simp))
  | stl tk n b p x =>
    simp only [delta]
    rw [tak_agr (t' := st'.t) (fun i hi => R i (by simp [TOp.rd, hi])) (fun i hi => E i (by simp [TOp.tk, hi]))]
    have hb := E b (by simp [TOp.bx])
    rcases ad_agr (t := st.t) (t' := st'.t) (x := p) (fun i hi => R i (by simp [TOp.rd, hi])) with e | ⟨e1, e2⟩
    · rw [e, hb]
    · generalize hA : ad st.t p = A at e1 ⊢
      generalize hB : ad st'.t p = B at e2 ⊢
      cases A <;> first | (simp [nad] at e1; done) | (cases B <;> first | (simp [nad] at e2; done) | rfl | (first | (split <;> rfl) | simp))
  | sth tk n p x =>
    obtain ⟨h1, h2⟩ := H (by simp [TOp.hp])
    simp only [delta, keeps]
    rw [tak_agr (t' := st'.t) (fun i hi => R i (by simp [TOp.rd, hi])) (fun i hi => E i (by simp [TOp.tk, hi]))]
    rcases ad_agr (t := st.t) (t' := st'.t) (x := p) (fun i hi => R i (by simp [TOp.rd, hi])) with e | ⟨e1, e2⟩
    · rw [e, h1, h2]
    · generalize hA : ad st.t p = A at e1 ⊢
      generalize hB : ad st'.t p = B at e2 ⊢
      cases A <;> first | (simp [nad] at e1; done) | (cases B <;> first | (simp [nad] at e2; done) | rfl | (first | (split <;> rfl) | simp))
  | nilc x =>
    simp only [delta]
    rcases ad_agr (t := st.t) (t' := st'.t) (x := x) (fun i hi => R i (by simp [TOp.rd, hi])) with e | ⟨e1, e2⟩
    · rw [e]
      cases ad st'.t x <;> try rfl
      rename_i b o
      have := h.lb b
      simp only
      cases h1 : sl st.t b <;> cases h2 : sl st'.t b <;> rw [h1, h2] at this <;> simp [isLb] at this ⊢
    · generalize hA : ad st.t x = A at e1 ⊢
      generalize hB : ad st'.t x = B at e2 ⊢
      cases A <;> first | (simp [nad] at e1; done) | (cases B <;> first | (simp [nad] at e2; done) | rfl | (first | (split <;> rfl) | simp))
  | fa off x =>
    simp only [delta]
    rcases ad_agr (t := st.t) (t' := st'.t) (x := x) (fun i hi => R i (by simp [TOp.rd, hi])) with e | ⟨e1, e2⟩
    · rw [e]
      cases ad st'.t x <;> try rfl
      rename_i b o
      have := h.lb b
      simp only
      cases h1 : sl st.t b <;> cases h2 : sl st'.t b <;> rw [h1, h2] at this <;> simp [isLb] at this ⊢
    · generalize hA : ad st.t x = A at e1 ⊢
      generalize hB : ad st'.t x = B at e2 ⊢
      cases A <;> first | (simp [nad] at e1; done) | (cases B <;> first | (simp [nad] at e2; done) | rfl | (first | (split <;> rfl) | simp))
  | ext tk i x =>
    cases x with
    | c v => rfl
    | s j =>
      simp only [delta]
      cases tk with
      | true => rw [E j (by simp [TOp.tk, tkS, Src.ss])]
      | false =>
        have := R j (by simp [TOp.rd, rdS, Src.ss])
        cases h1 : sl st.t j <;> cases h2 : sl st'.t j <;> rw [h1, h2] at this <;> simp [TV.vw, TV.shrT, TV.shrA, TV.shr0] at this ⊢
        rename_i c1 c2
        have := congrArg (fun l : List TV => l[i]?) this
        simp only [List.getElem?_map] at this
        cases h3 : c1[i]? <;> cases h4 : c2[i]? <;> simp [h3, h4] at this ⊢
        exact this
  | mks ag sz bytes z l c =>
    obtain ⟨h1, h2⟩ := H (by simp [TOp.hp])
    simp only [delta]
    rw [ev_agr (t' := st'.t) (x := l) (fun i hi => R i (by simp [TOp.rd, hi])), ev_agr (t' := st'.t) (x := c) (fun i hi => R i (by simp [TOp.rd, hi])), h1, h2]
  | cpy sz x y =>
    obtain ⟨h1, h2⟩ := H (by simp [TOp.hp])
    simp only [delta, keeps]
    rw [ev_agr (t' := st'.t) (x := x) (fun i hi => R i (by simp [TOp.rd, hi])), ev_agr (t' := st'.t) (x := y) (fun i hi => R i (by simp [TOp.rd, hi])), h1, h2]
  | mkf f cs => simp only [delta]; rw [evs_agr (t' := st'.t) (fun i hi => R i hi)]
  | slc sz x lo hi mx =>
    simp only [delta]
    rw [ev_agr (t' := st'.t) (x := x) (fun i hi => R i (by simp [TOp.rd, hi]))]
    have b1 : ∀ a b, bound st.t mx a b = bound st'.t mx a b := fun a b => bound_agr (fun i hi => R i (by simp only [TOp.rd, List.mem_append]; exact .inr (.inr (.inr hi))))
    have b2 : ∀ a b, bound st.t hi a b = bound st'.t hi a b := fun a b => bound_agr (fun i hi => R i (by simp only [TOp.rd, List.mem_append]; exact .inr (.inr (.inl hi))))
    have b3 : ∀ a b, bound st.t lo a b = bound st'.t lo a b := fun a b => bound_agr (fun i hi => R i (by simp only [TOp.rd, List.mem_append]; exact .inr (.inl hi)))
    simp only [b1, b2, b3]
  | sls x lo hi =>
    simp only [delta]
    rw [ev_agr (t' := st'.t) (x := x) (fun i hi => R i (by simp [TOp.rd, hi]))]
    have b2 : ∀ a b, bound st.t hi a b = bound st'.t hi a b := fun a b => bound_agr (fun i hi => R i (by simp only [TOp.rd, List.mem_append]; exact .inr (.inr hi)))
    have b3 : ∀ a b, bound st.t lo a b = bound st'.t lo a b := fun a b => bound_agr (fun i hi => R i (by simp only [TOp.rd, List.mem_append]; exact .inr (.inl hi)))
    simp only [b2, b3]
  | call pu f as =>
    simp only [delta]
    rw [taks_agr (t' := st'.t) (fun i hi => R i hi) (fun i hi => E i (List.mem_append_left _ hi))]
    cases taks st'.t as with
    | none => rfl
    | some p => exact callD_agr H
  | callv pu x as =>
    simp only [delta]
    rw [taks_agr (t' := st'.t) (fun i hi => R i (List.mem_append_right _ hi)) (fun i hi => E i (List.mem_append_left _ hi)), ev_agr (t' := st'.t) (x := x) (fun i hi => R i (List.mem_append_left _ hi))]
    split
    · exact callD_agr H
    · rfl
  | app tk sz bytes x y =>
    obtain ⟨h1, h2⟩ := H (by simp [TOp.hp])
    simp only [delta]
    rw [h1]
    rw [tak_agr (t' := st'.t) (fun i hi => R i (by simp [TOp.rd, hi])) (fun i hi => E i (by simp [TOp.tk, hi])), ev_agr (t' := st'.t) (x := y) (fun i hi => R i (by simp [TOp.rd, hi]))]
  | cvx x => simp only [delta]; rw [tak_agr (t' := st'.t) (fun i hi => by simp [rdS] at hi) (fun i hi => E i (List.mem_append_left _ (by simpa [TOp.tk, tkS] using hi)))]
  | ar op x y => simp only [delta]; rw [ev_agr (t' := st'.t) (x := x) (fun i hi => R i (by simp [TOp.rd, hi])), ev_agr (t' := st'.t) (x := y) (fun i hi => R i (by simp [TOp.rd, hi]))]
  | eqb op x y => simp only [delta]; rw [ev_agr (t' := st'.t) (x := x) (fun i hi => R i (by simp [TOp.rd, hi])), ev_agr (t' := st'.t) (x := y) (fun i hi => R i (by simp [TOp.rd, hi]))]
  | eqp op x y => simp only [delta]; rw [ev_agr (t' := st'.t) (x := x) (fun i hi => R i (by simp [TOp.rd, hi])), ev_agr (t' := st'.t) (x := y) (fun i hi => R i (by simp [TOp.rd, hi]))]
  | eqs op fs x y => simp only [delta]; rw [ev_agr (t' := st'.t) (x := x) (fun i hi => R i (by simp [TOp.rd, hi])), ev_agr (t' := st'.t) (x := y) (fun i hi => R i (by simp [TOp.rd, hi]))]
  | ia op x y => simp only [delta]; rw [ev_agr (t' := st'.t) (x := x) (fun i hi => R i (by simp [TOp.rd, hi])), ev_agr (t' := st'.t) (x := y) (fun i hi => R i (by simp [TOp.rd, hi]))]
  | sx x y => simp only [delta]; rw [ev_agr (t' := st'.t) (x := x) (fun i hi => R i (by simp [TOp.rd, hi])), ev_agr (t' := st'.t) (x := y) (fun i hi => R i (by simp [TOp.rd, hi]))]
  | mn x y => simp only [delta]; rw [ev_agr (t' := st'.t) (x := x) (fun i hi => R i (by simp [TOp.rd, hi])), ev_agr (t' := st'.t) (x := y) (fun i hi => R i (by simp [TOp.rd, hi]))]
  | mx x y => simp only [delta]; rw [ev_agr (t' := st'.t) (x := x) (fun i hi => R i (by simp [TOp.rd, hi])), ev_agr (t' := st'.t) (x := y) (fun i hi => R i (by simp [TOp.rd, hi]))]
  | not x => simp only [delta]; rw [ev_agr (t' := st'.t) (x := x) (fun i hi => R i (by simp [TOp.rd, hi]))]
  | neg x => simp only [delta]; rw [ev_agr (t' := st'.t) (x := x) (fun i hi => R i (by simp [TOp.rd, hi]))]
  | cvi k x => simp only [delta]; rw [ev_agr (t' := st'.t) (x := x) (fun i hi => R i (by simp [TOp.rd, hi]))]
  | cvt x => simp only [delta]; rw [ev_agr (t' := st'.t) (x := x) (fun i hi => R i (by simp [TOp.rd, hi]))]
  | cvs x =>
    obtain ⟨h1, h2⟩ := H (by simp [TOp.hp])
    simp only [delta]; rw [ev_agr (t' := st'.t) (x := x) (fun i hi => R i (by simp [TOp.rd, hi])), h1]
  | mvk x => simp only [delta]; rw [tak_agr (t' := st'.t) (fun i hi => by simp [rdS] at hi) (fun i hi => E i (List.mem_append_left _ (by simpa [TOp.tk, tkS] using hi)))]
  | bsr ag sz n z ps =>
    obtain ⟨h1, h2⟩ := H (by simp [TOp.hp])
    simp only [delta]; rw [fillE_agr (t' := st'.t) (fun i hi => R i hi), h1, h2]
  | ldk ag n p =>
    obtain ⟨h1, h2⟩ := H (by simp [TOp.hp])
    simp only [delta]
    rcases ad_agr (t := st.t) (t' := st'.t) (x := p) (fun i hi => R i (by simp [TOp.rd, hi])) with e | ⟨e1, e2⟩
    · rw [e, h1]
    · rw [getH_nad e1, getH_nad e2]
  | ldr ag n r p =>
    obtain ⟨h1, h2⟩ := H (by simp [TOp.hp])
    simp only [delta]
    rw [h1]
    exact ldr_agr R
  | slx sz x lo hi =>
    obtain ⟨h1, h2⟩ := H (by simp [TOp.hp])
    simp only [delta]
    rw [ev_agr (t' := st'.t) (x := x) (fun i hi => R i (by simp [TOp.rd, hi])), h1]
    have b2 : ∀ a b, bound st.t hi a b = bound st'.t hi a b := fun a b => bound_agr (fun i hi => R i (by simp only [TOp.rd, List.mem_append]; exact .inr (.inr hi)))
    have b3 : ∀ a b, bound st.t lo a b = bound st'.t lo a b := fun a b => bound_agr (fun i hi => R i (by simp only [TOp.rd, List.mem_append]; exact .inr (.inl hi)))
    simp only [b2, b3]
  | apr ag sz bytes x y =>
    obtain ⟨h1, h2⟩ := H (by simp [TOp.hp])
    simp only [delta, keeps]
    rw [tak_agr (t' := st'.t) (fun i hi => by simp [rdS] at hi) (fun i hi => E i (List.mem_append_left _ (by simpa [TOp.tk, tkS] using hi))), ev_agr (t' := st'.t) (x := y) (fun i hi => R i (by simp [TOp.rd, hi])), h1, h2]
  | clr z x =>
    obtain ⟨h1, h2⟩ := H (by simp [TOp.hp])
    simp only [delta]; rw [ev_agr (t' := st'.t) (x := x) (fun i hi => R i (by simp [TOp.rd, hi])), h1, h2]
  | calk ks x as =>
    obtain ⟨h1, h2⟩ := H (by simp [TOp.hp])
    simp only [delta]
    rw [taks_agr (t' := st'.t) (fun i hi => R i (by simp only [TOp.rd, List.mem_append]; exact .inr (.inr hi))) (fun i hi => E i (List.mem_append_left _ hi)), ev_agr (t' := st'.t) (x := x) (fun i hi => R i (by simp only [TOp.rd, List.mem_append]; exact .inr (.inl hi)))]
    have hk : ∀ h h', keptB st.t h h' ks = keptB st'.t h h' ks := fun h h' => congrFun (keptB_agr (t := st.t) (t' := st'.t) (fun i hi => R i (by simp only [TOp.rd, List.mem_append]; exact .inl hi))) h'
    have hcd : ∀ tk f vs, callD call 0 st tk f vs = callD call 0 st' tk f vs := fun tk f vs => callD_agr (fun _ => ⟨h1, h2⟩)
    simp only [hcd, hk, h1]
  | cvb x => simp only [delta]; rw [ev_agr (t' := st'.t) (x := x) (fun i hi => R i (by simp [TOp.rd, hi]))]
  | fld ag n off x => simp only [delta]; rw [ev_agr (t' := st'.t) (x := x) (fun i hi => R i (by simp [TOp.rd, hi]))]
  | len b x => simp only [delta]; rw [ev_agr (t' := st'.t) (x := x) (fun i hi => R i (by simp [TOp.rd, hi]))]
end
end Go.T
