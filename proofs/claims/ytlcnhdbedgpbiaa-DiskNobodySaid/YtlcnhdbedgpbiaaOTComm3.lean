/- Two operations in either order; a region of which the order is drawn. -/
import Derived.Test.YtlcnhdbedgpbiaaOTComm2
import Derived.Orders
set_option linter.unusedVariables false
set_option linter.unusedSimpArgs false
set_option maxRecDepth 10000
namespace Go.T
theorem apart_spec {a b : List Nat} (h : apartL a b = true) : ∀ i ∈ a, i ∉ b := by
  unfold apartL at h
  intro i hi
  have := List.all_eq_true.1 h i hi
  simpa using this
structure Comm (x y : TOper) : Prop where
  jx : x.op.jl = false
  jy : y.op.jl = false
  wx : ∀ i ∈ x.wr, i ∉ y.rd ++ (y.op.tk ++ y.wr)
  wy : ∀ i ∈ y.wr, i ∉ x.rd ++ (x.op.tk ++ x.wr)
  tk : ∀ i ∈ x.op.tk, i ∉ y.op.tk
  hp : x.op.hp = 0 ∨ y.op.hp = 0 ∨ (x.op.hp = 1 ∧ y.op.hp = 1) ∨ ldKept x.op y.op = true ∨ ldKept y.op x.op = true
theorem comm_spec {x y : TOper} (h : comm x y = true) : Comm x y := by
  unfold comm at h
  simp only [Bool.and_eq_true, Bool.or_eq_true, Bool.not_eq_true', beq_iff_eq] at h
  obtain ⟨⟨⟨⟨⟨h1, h2⟩, h3⟩, h4⟩, h5⟩, h6⟩ := h
  refine ⟨h1, h2, apart_spec h3, apart_spec h4, apart_spec h5, ?_⟩
  rcases h6 with (((h6 | h6) | h6) | h6) | h6
  · exact .inl h6
  · exact .inr (.inl h6)
  · exact .inr (.inr (.inl h6))
  · exact .inr (.inr (.inr (.inl h6)))
  · exact .inr (.inr (.inr (.inr h6)))
theorem ldKept_hp {x y : TOp} (h : ldKept x y = true) : x.hp = 1 ∧ y.hp = 2 ∧ ldKept y x = false := by
  unfold ldKept at h
  split at h
  · exact ⟨rfl, rfl, rfl⟩
  · cases h
theorem Comm.symm {x y : TOper} (h : Comm x y) : Comm y x := ⟨h.jy, h.jx, h.wy, h.wx, fun i hi hh => h.tk i hh hi, by rcases h.hp with e | e | ⟨e, f⟩ | e | e <;> simp_all⟩
section
variable {call : CallF} {st : St}
theorem sl_slots {d : Dl} {dst : Option Nat} {t : List TV} (hj : d.jl = false) (j : Nat) : sl (d.slots dst t) j = if j < t.length then upd d dst j (sl t j) else .junk := by
  unfold sl
  simp only [List.getD_eq_getElem?_getD, slots_get hj]
  by_cases h : j < t.length
  · simp [h]
  · simp [h, List.getElem?_eq_none (Nat.le_of_not_lt h)]
theorem sl_out {t : List TV} {j : Nat} (h : ¬ j < t.length) : sl t j = .junk := by simp [sl, List.getElem?_eq_none (Nat.le_of_not_lt h)]
/-- What one operation leaves as it is. -/
theorem ap_agr {x y : TOper} (hc : Comm x y) {d : Dl} (hf : Foot x.op st d) (hok : okD st.t x.d d = true) :
    (∀ i ∈ y.rd, (sl st.t i).vw = (sl (d.ap x.d st).t i).vw) ∧ (∀ i ∈ y.op.tk ++ y.op.bx, sl st.t i = sl (d.ap x.d st).t i) ∧ (y.op.hp ≠ 0 → ldKept y.op x.op = false → st.h = (d.ap x.d st).h ∧ st.keep = (d.ap x.d st).keep) ∧ (∀ i, isLb (sl st.t i) = isLb (sl (d.ap x.d st).t i)) := by
  have hj := hf.jl hc.jx
  have hsl : ∀ j, sl (d.ap x.d st).t j = if j < st.t.length then upd d x.d j (sl st.t j) else .junk := fun j => sl_slots hj j
  have hdst : ∀ j, x.d = some j → j ∈ x.wr := fun j h => by simp [TOper.wr, h]
  have hbx : ∀ j, j ∈ x.op.bx → j ∈ x.wr := fun j h => by simp [TOper.wr, h]
  have hvw : ∀ j, j ∉ x.wr → (sl (d.ap x.d st).t j).vw = (sl st.t j).vw := by
    intro j hn
    rw [hsl]
    split
    · unfold upd
      rw [if_neg (fun h => hn (hdst j h))]
      split
      · rename_i b u hb
        split
        · rename_i hbj
          subst hbj
          rcases (hf.bw b u hb).2 with ⟨_, h⟩ | h
          · exact h
          · exact absurd (hbx b h) hn
        · split
          · exact vw_shrT _
          · rfl
      · split
        · exact vw_shrT _
        · rfl
    · rename_i h; rw [sl_out h]
  have heq : ∀ j, j ∉ x.wr → j ∉ x.op.tk → sl (d.ap x.d st).t j = sl st.t j := by
    intro j hn ht
    rw [hsl]
    split
    · unfold upd
      rw [if_neg (fun h => hn (hdst j h))]
      split
      · rename_i b u hb
        split
        · rename_i hbj
          subst hbj
          rcases (hf.bw b u hb).2 with ⟨h, _⟩ | h
          · exact absurd h ht
          · exact absurd (hbx b h) hn
        · rw [if_neg (fun h => ht (hf.tk j h))]
      · rw [if_neg (fun h => ht (hf.tk j h))]
    · rename_i h; rw [sl_out h]
  refine ⟨fun i hi => (hvw i (fun h => hc.wx i h (by simp [hi]))).symm, fun i hi => ?_, fun hy hk => ?_, fun i => ?_⟩
  · rcases List.mem_append.1 hi with hi | hi
    · exact (heq i (fun h => hc.wx i h (by simp [hi])) (fun h => hc.tk i h hi)).symm
    · have hw : i ∈ y.wr := by simp [TOper.wr, hi]
      exact (heq i (fun h => hc.wx i h (by simp [hw])) (fun h => hc.wy i hw (by simp [h]))).symm
  · have h2 : x.op.hp ≠ 2 := by
      rcases hc.hp with e | e | ⟨e, f⟩ | e | e
      · omega
      · exact absurd e hy
      · omega
      · have := (ldKept_hp e).1; omega
      · rw [hk] at e; cases e
    have := hf.hw h2
    simp [Dl.ap, this]
  · rw [hsl]
    split
    · unfold upd
      split
      · rename_i h
        rw [h] at hok
        simp [okD, hj] at hok
        rw [hok.1, hok.2]
      · split
        · rename_i b u hb
          split
          · rename_i hbj
            subst hbj
            exact (hf.bw b u hb).1.symm
          · split
            · exact (lb_shrT _).symm
            · rfl
        · split
          · exact (lb_shrT _).symm
          · rfl
    · rename_i h; rw [sl_out h]
theorem okD_agr {t t' : List TV} {dst : Option Nat} {d : Dl} (h : ∀ i, isLb (sl t i) = isLb (sl t' i)) : okD t dst d = okD t' dst d := by
  unfold okD
  cases dst with
  | none => rfl
  | some i => simp only [h i]
theorem ap_comm {x y : TOper} (hc : Comm x y) {dx dy : Dl} {stx sty : St} (hx : Foot x.op stx dx) (hy : Foot y.op sty dy) : dy.ap y.d (dx.ap x.d st) = dx.ap x.d (dy.ap y.d st) := by
  have jx := hx.jl hc.jx
  have jy := hy.jl hc.jy
  have hslots : dy.slots y.d (dx.slots x.d st.t) = dx.slots x.d (dy.slots y.d st.t) := by
    apply List.ext_getElem?
    intro j
    rw [slots_get jy, slots_get jx, slots_get jx, slots_get jy]
    cases st.t[j]? with
    | none => rfl
    | some v =>
      simp only [Option.map_some, Option.some.injEq]
      have id_of : ∀ {z : TOper} {dz : Dl} {sz : St}, Foot z.op sz dz → j ∉ z.wr → j ∉ z.op.tk → ∀ v, upd dz z.d j v = v := by
        intro z dz sz hz hn ht v
        unfold upd
        rw [if_neg (fun h => hn (by simp [TOper.wr, h]))]
        split
        · rename_i b u hb
          split
          · rename_i hbj
            subst hbj
            rcases (hz.bw b u hb).2 with ⟨h, _⟩ | h
            · exact absurd h ht
            · exact absurd (by simp [TOper.wr, h]) hn
          · rw [if_neg (fun h => ht (hz.tk j h))]
        · rw [if_neg (fun h => ht (hz.tk j h))]
      by_cases hjx : j ∈ x.wr ∨ j ∈ x.op.tk
      · have h1 : j ∉ y.wr ∧ j ∉ y.op.tk := by
          rcases hjx with h | h
          · have := hc.wx j h
            simp only [List.mem_append, not_or] at this
            exact ⟨this.2.2, this.2.1⟩
          · exact ⟨fun hh => hc.wy j hh (by simp [h]), hc.tk j h⟩
        rw [id_of hy h1.1 h1.2, id_of hy h1.1 h1.2]
      · rw [not_or] at hjx
        rw [id_of hx hjx.1 hjx.2, id_of hx hjx.1 hjx.2]
  have hnone : dx.hw = none ∨ dy.hw = none := by
    by_cases h : x.op.hp = 2
    · right
      refine hy.hw (fun h2 => ?_)
      rcases hc.hp with e | e | ⟨e, f⟩ | e | e
      · omega
      · omega
      · omega
      · have := (ldKept_hp e).1; omega
      · have := (ldKept_hp e).1; omega
    · exact .inl (hx.hw h)
  unfold Dl.ap
  simp only [hslots]
  rcases hnone with h | h <;> simp [h]
theorem keptB_get {t : List TV} {h h' : Heap} : ∀ {ks : List Src} {r : Src}, keptB t h h' ks = true → ks.any (Src.beq r) = true → ∀ i o, ad t r = .ptr i o → i < h.length ∧ i < h'.length ∧ h'.getD i [] = h.getD i [] := by
  intro ks
  induction ks with
  | nil => intro r _ hr; simp at hr
  | cons p ks ih =>
    intro r hk hr i o hi
    simp only [keptB, Bool.and_eq_true] at hk
    simp only [List.any_cons, Bool.or_eq_true] at hr
    rcases hr with hr | hr
    · have : r = p := by
        cases r <;> cases p <;> simp [Src.beq] at hr
        rw [hr]
      subst this
      have h1 := hk.1
      rw [hi] at h1
      simp only [Bool.and_eq_true, decide_eq_true_eq] at h1
      exact ⟨h1.1.1, h1.1.2, TV.beqs_eq _ _ h1.2⟩
    · exact ih hk.2 hr i o hi
theorem kept_core {st st' : St} {ag : Bool} {n : Nat} {r p : Src} {ks : List Src} (R : ∀ i ∈ r.ss ++ p.ss, (sl st.t i).vw = (sl st'.t i).vw) (hk : ks.any (Src.beq r) = true) (hkept : keptB st.t st.h st'.h ks = true) : (match ad st'.t r, ad st'.t p with
    | .ptr i _, .ptr j _ => if i = j then match getH st.h (ad st'.t p) n with
      | some vs => some ({ v := pack ag (vs.map TV.shrK) } : Dl)
      | none => none
      else none
    | _, _ => none) = match ad st'.t r, ad st'.t p with
    | .ptr i _, .ptr j _ => if i = j then match getH st'.h (ad st'.t p) n with
      | some vs => some { v := pack ag (vs.map TV.shrK) }
      | none => none
      else none
    | _, _ => none := by
  rcases ad_agr (t := st.t) (t' := st'.t) (x := r) (fun i hi => R i (by simp [hi])) with e | ⟨e1, e2⟩
  · cases hr : ad st'.t r <;> try rfl
    rename_i i o
    cases hp : ad st'.t p <;> try rfl
    rename_i j o2
    simp only
    split
    · rename_i hij
      subst hij
      obtain ⟨k1, k2, k3⟩ := keptB_get hkept hk i o (by rw [e, hr])
      have hl : live st.h i = live st'.h i := by
        unfold live
        rw [List.getElem?_eq_getElem k1, List.getElem?_eq_getElem k2]
        have : st'.h[i] = st.h[i] := by
          have := k3
          simp only [List.getD_eq_getElem?_getD, List.getElem?_eq_getElem k1, List.getElem?_eq_getElem k2, Option.getD_some] at this
          exact this
        rw [this]
      simp only [getH, hl]
    · rfl
  · generalize ad st'.t r = B at e2 ⊢
    cases B <;> first | (simp [nad] at e2; done) | rfl
/-- A look into a box that the other one, a call, leaves as it is. -/
theorem kept_agr {x y : TOper} (hc : Comm x y) {d : Dl} (hd : dlt call x st = some d) (hok : okD st.t x.d d = true) (hk : ldKept y.op x.op = true) : dlt call y st = dlt call y (d.ap x.d st) := by
  obtain ⟨a1, a2, a3, a4⟩ := ap_agr hc (dlt_foot hd) hok
  unfold dlt
  rw [wanted_agr (t' := (d.ap x.d st).t) (fun i hi => a1 i (List.mem_append_left _ hi))]
  have key : delta call st y.op = delta call (d.ap x.d st) y.op := by
    obtain ⟨yd, yo, yg⟩ := y
    obtain ⟨xd, xo, xg⟩ := x
    simp only at *
    cases yo <;> try (simp [ldKept] at hk; done)
    rename_i ag n r p
    cases xo <;> try (simp [ldKept] at hk; done)
    rename_i ks f as
    simp only [ldKept] at hk
    have R : ∀ i ∈ r.ss ++ p.ss, (sl st.t i).vw = (sl (d.ap xd st).t i).vw := fun i hi => a1 i (by simp only [TOper.rd, TOp.rd]; exact List.mem_append_right _ hi)
    simp only [delta]
    refine Eq.trans (ldr_agr (st := st) (st' := d.ap xd st) (h := st.h) (ag := ag) (n := n) R) ?_
    -- the heap: the box is as it was
    unfold dlt at hd
    split at hd
    · simp only [delta] at hd
      split at hd
      · rename_i f' cs vs tk hx hvs
        split at hd
        · rename_i d' hd'
          have hd2 : (if keptB st.t st.h (d'.ap xd st).h ks = true then some d' else none) = some d := hd
          split at hd2
          · rename_i hkept
            obtain rfl := Option.some.inj hd2
            exact kept_core R hk hkept
          · cases hd2
        · cases hd
      · cases hd
    · obtain rfl := Option.some.inj hd
      rfl
    · cases hd
  rw [key]
theorem step_comm {x y : TOper} (hc : Comm x y) {s1 s2 : St} (h1 : step call x st = some s1) (h2 : step call y s1 = some s2) : ∃ s1', step call y st = some s1' ∧ step call x s1' = some s2 := by
  unfold step at h1
  split at h1
  · rename_i dx hdx
    split at h1
    · rename_i hokx
      obtain rfl := Option.some.inj h1
      unfold step at h2
      split at h2
      · rename_i dy hdy
        split at h2
        · rename_i hoky
          obtain rfl := Option.some.inj h2
          have fx := dlt_foot hdx
          obtain ⟨a1, a2, a3, a4⟩ := ap_agr hc fx hokx
          have hdy' : dlt call y st = some dy := by
            cases hk : ldKept y.op x.op with
            | false => rw [dlt_agr a1 a2 (fun h => a3 h hk) a4]; exact hdy
            | true => rw [kept_agr hc hdx hokx hk]; exact hdy
          have hoky' : okD st.t y.d dy = true := by rw [okD_agr a4]; exact hoky
          have fy := dlt_foot hdy'
          obtain ⟨b1, b2, b3, b4⟩ := ap_agr hc.symm fy hoky'
          refine ⟨dy.ap y.d st, ?_, ?_⟩
          · unfold step; simp only [hdy']; rw [if_pos hoky']
          · unfold step
            have hdx' : dlt call x (dy.ap y.d st) = some dx := by
              cases hk : ldKept x.op y.op with
              | false => rw [← dlt_agr b1 b2 (fun h => b3 h hk) b4]; exact hdx
              | true => rw [← kept_agr hc.symm hdy' hoky' hk]; exact hdx
            rw [hdx']
            simp only
            rw [← okD_agr b4, if_pos hokx, ap_comm hc fx fy]
        · cases h2
      · cases h2
    · cases h1
  · cases h1
/-- One that waits for none of those before it may go first. -/
theorem steps_first {x : TOper} : ∀ (l : List TOper) (r : List TOper) (st s' : St), (∀ y ∈ l, Comm y x) → steps call (l ++ x :: r) st = some s' → ∃ s1, step call x st = some s1 ∧ steps call (l ++ r) s1 = some s' := by
  intro l
  induction l with
  | nil =>
    intro r st s' _ h
    simp only [List.nil_append, steps] at h
    split at h
    · rename_i s1 h1; exact ⟨s1, h1, h⟩
    · cases h
  | cons y l ih =>
    intro r st s' hl h
    simp only [List.cons_append, steps] at h
    split at h
    · rename_i s0 h0
      obtain ⟨s1, k1, k2⟩ := ih r s0 s' (fun z hz => hl z (by simp [hz])) h
      obtain ⟨s0', e1, e2⟩ := step_comm (hl y (by simp)) h0 k1
      refine ⟨s0', e1, ?_⟩
      simp only [List.cons_append, steps, e2]
      exact k2
    · cases h
end
end Go.T
