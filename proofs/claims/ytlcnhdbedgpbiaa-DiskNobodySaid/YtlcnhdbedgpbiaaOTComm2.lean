/- Two operations in either order; a region of which the order is drawn. -/
import Derived.Test.YtlcnhdbedgpbiaaOTComm
set_option linter.unusedVariables false
set_option linter.unusedSimpArgs false
set_option maxRecDepth 10000
namespace Go.T
theorem shr0_shr0 (x : TV) : x.shr0.shr0 = x.shr0 := by cases x <;> rfl
theorem shrA_shrA (x : TV) : x.shrA.shrA = x.shrA := by
  cases x <;> first | rfl | skip
  simp [TV.shrA, shr0_shr0]
theorem shrT_shrT (x : TV) : x.shrT.shrT = x.shrT := by
  cases x <;> first | rfl | skip
  · simp [TV.shrT, TV.shrA, shr0_shr0]
  · simp [TV.shrT, shrA_shrA]
theorem vw_shrT (x : TV) : x.shrT.vw = x.vw := by
  cases x <;> first | rfl | skip
  · exact shrT_shrT (.agg _)
  · exact shrT_shrT (.tup _)
theorem lb_shrT (x : TV) : isLb x.shrT = isLb x := by cases x <;> rfl
/-- What an operation may touch. -/
structure Foot (x : TOp) (st : St) (d : Dl) : Prop where
  tk : ∀ i ∈ d.tk, i ∈ x.tk
  bw : ∀ b u, d.bw = some (b, u) → isLb u = isLb (sl st.t b) ∧ ((b ∈ x.tk ∧ u.vw = (sl st.t b).vw) ∨ b ∈ x.bx)
  jl : x.jl = false → d.jl = false
  hw : x.hp ≠ 2 → d.hw = none
theorem tak_in {t : List TV} {tk : Bool} {x : Src} {v : TV} {is : List Nat} (h : tak t tk x = some (v, is)) : ∀ i ∈ is, i ∈ tkS tk x := by
  cases x with
  | c v' => cases tk <;> simp [tak] at h <;> (obtain ⟨_, rfl⟩ := h; simp)
  | s i =>
    obtain ⟨_, ⟨_, rfl, rfl⟩ | ⟨_, rfl, rfl⟩⟩ := tak_s h
    · simp [tkS, Src.ss]
    · simp
theorem taks_in {t : List TV} : ∀ {xs : List (Bool × Src)} {vs : List TV} {is : List Nat}, taks t xs = some (vs, is) → ∀ i ∈ is, i ∈ xs.flatMap (fun p => tkS p.1 p.2) := by
  intro xs
  induction xs with
  | nil => intro vs is h; simp [taks] at h; obtain ⟨_, rfl⟩ := h; simp
  | cons p xs ih =>
    intro vs is h
    obtain ⟨b, x⟩ := p
    simp only [taks] at h
    split at h
    · rename_i v i vs' is' h1 h2
      split at h
      · cases h
      · simp at h
        obtain ⟨_, rfl⟩ := h
        intro j hj
        simp only [List.flatMap_cons, List.mem_append] at hj ⊢
        rcases hj with hj | hj
        · exact .inl (tak_in h1 j hj)
        · exact .inr (ih h2 j hj)
    · cases h
theorem Foot.none {x : TOp} {st : St} {d : Dl} (h1 : d.tk = []) (h2 : d.bw = none) (h3 : d.jl = false) (h4 : d.hw = none) : Foot x st d := ⟨by simp [h1], by simp [h2], fun _ => h3, fun _ => h4⟩
theorem Foot.take {x : TOp} {st : St} {d : Dl} (h1 : ∀ i ∈ d.tk, i ∈ x.tk) (h2 : d.bw = Option.none) (h3 : d.jl = false ∨ x.jl = true) (h4 : d.hw = Option.none ∨ x.hp = 2) : Foot x st d := ⟨h1, by simp [h2], fun h => h3.resolve_right (by simp [h]), fun h => h4.resolve_right h⟩
theorem callD_foot {call : CallF} {pu f : Nat} {st : St} {tk : List Nat} {vs : List TV} {d : Dl} (hd : callD call pu st tk f vs = some d) : d.tk = tk ∧ d.bw = none ∧ d.jl = false ∧ (d.hw = none ∨ pu = 0 ∨ pu = 3) := by
  unfold callD at hd
  split at hd
  · split at hd
    · split at hd
      · obtain rfl := Option.some.inj hd; exact ⟨rfl, rfl, rfl, .inr (.inl rfl)⟩
      · cases hd
    · split at hd
      · split at hd
        · obtain rfl := Option.some.inj hd; exact ⟨rfl, rfl, rfl, .inl rfl⟩
        · cases hd
      · cases hd
    · split at hd
      · obtain rfl := Option.some.inj hd; exact ⟨rfl, rfl, rfl, .inr (.inr rfl)⟩
      · cases hd
    · split at hd
      · split at hd
        · obtain rfl := Option.some.inj hd; exact ⟨rfl, rfl, rfl, .inl rfl⟩
        · cases hd
      · cases hd
    · split at hd
      · split at hd
        · split at hd
          · obtain rfl := Option.some.inj hd; exact ⟨rfl, rfl, rfl, .inl rfl⟩
          · cases hd
        · cases hd
      · cases hd
    · split at hd
      · split at hd
        · obtain rfl := Option.some.inj hd; exact ⟨rfl, rfl, rfl, .inl rfl⟩
        · cases hd
      · cases hd
  · cases hd
theorem vw_splice {cs us : List TV} {o n : Nat} (h : cut cs o n = some us) : (TV.lbox (splice cs o (us.map TV.shr0))).vw = (TV.lbox cs).vw := by
  obtain ⟨h1, h2, h3⟩ := cut_some h
  simp only [TV.vw, TV.lbox.injEq]
  apply List.ext_getElem?
  intro j
  rw [List.getElem?_map, List.getElem?_map, splice_get (by simp; omega)]
  simp only [List.length_map, h2]
  split
  · rename_i hj
    rw [List.getElem?_map, h3, if_pos (by omega), show o + (j - o) = j by omega]
    cases cs[j]? with
    | none => rfl
    | some x => simp [shr0_shr0]
  · rfl
theorem delta_foot {call : CallF} {st : St} {x : TOp} {d : Dl} (hd : delta call st x = some d) : Foot x st d := by
  cases x with
  | mv tk x =>
    simp only [delta] at hd
    split at hd
    · rename_i h; obtain rfl := Option.some.inj hd; exact .take (fun i hi => tak_in h i hi) rfl (.inl rfl) (.inl rfl)
    · cases hd
  | lbx tk x =>
    simp only [delta] at hd
    split at hd
    · rename_i h
      split at hd
      · obtain rfl := Option.some.inj hd; exact .take (fun i hi => tak_in h i hi) rfl (.inr rfl) (.inl rfl)
      · cases hd
    · cases hd
  | lal z => simp only [delta] at hd; obtain rfl := Option.some.inj hd; exact .take (by simp) rfl (.inr rfl) (.inl rfl)
  | hbx tk x =>
    simp only [delta] at hd
    split at hd
    · rename_i h
      split at hd
      · obtain rfl := Option.some.inj hd; exact .take (fun i hi => tak_in h i hi) rfl (.inl rfl) (.inr rfl)
      · cases hd
    · cases hd
  | hal z => simp only [delta] at hd; obtain rfl := Option.some.inj hd; exact .take (by simp) rfl (.inl rfl) (.inr rfl)
  | mks ag sz bytes z l c =>
    simp only [delta] at hd
    repeat' split at hd
    all_goals first | (cases hd; done) | skip
    all_goals (obtain rfl := Option.some.inj hd; exact .take (by simp) rfl (.inl rfl) (.inr rfl))
  | cpy sz x y =>
    simp only [delta] at hd
    repeat' split at hd
    all_goals first | (cases hd; done) | skip
    all_goals (obtain rfl := Option.some.inj hd; exact .take (by simp) rfl (.inl rfl) (.inr rfl))
  | ldl tk ag n b p =>
    simp only [delta] at hd
    split at hd
    · split at hd
      · split at hd
        · rename_i cs hcs
          split at hd
          · rename_i vs hvs
            split at hd
            · rename_i htk
              obtain rfl := Option.some.inj hd
              subst htk
              refine ⟨by simp, ?_, fun _ => rfl, fun _ => rfl⟩
              intro b' u hu
              simp at hu
              obtain ⟨rfl, rfl⟩ := hu
              rw [hcs]
              exact ⟨rfl, .inl ⟨by simp [TOp.tk], vw_splice hvs⟩⟩
            · obtain rfl := Option.some.inj hd; exact .none rfl rfl rfl rfl
          · cases hd
        · cases hd
      · cases hd
    · cases hd
  | ldh tk ag n p =>
    simp only [delta] at hd
    split at hd
    · split at hd
      · split at hd
        · rename_i htk _ _ _ _
          obtain rfl := Option.some.inj hd
          subst htk
          exact .take (by simp) rfl (.inl rfl) (.inr rfl)
        · cases hd
      · obtain rfl := Option.some.inj hd; exact .none rfl rfl rfl rfl
    · cases hd
  | stl tk n b p x =>
    simp only [delta] at hd
    split at hd
    · rename_i h
      split at hd
      · split at hd
        · rename_i cs hcs
          split at hd
          · obtain rfl := Option.some.inj hd
            refine ⟨fun i hi => tak_in h i hi, ?_, fun _ => rfl, fun _ => rfl⟩
            intro b' u hu
            simp at hu
            obtain ⟨rfl, rfl⟩ := hu
            rw [hcs]
            exact ⟨rfl, .inr (by simp [TOp.bx])⟩
          · cases hd
        · cases hd
      · cases hd
    · cases hd
  | sth tk n p x =>
    simp only [delta] at hd
    split at hd
    · rename_i h
      split at hd
      · split at hd
        · split at hd
          · obtain rfl := Option.some.inj hd
            exact .take (fun i hi => tak_in h i hi) rfl (.inl rfl) (.inr rfl)
          · cases hd
        · cases hd
      · cases hd
    · cases hd
  | ext tk i x =>
    cases x with
    | c v => simp [delta] at hd
    | s j =>
      simp only [delta] at hd
      split at hd
      · rename_i vs hvs
        split at hd
        · rename_i v hv
          split at hd
          · rename_i htk
            obtain rfl := Option.some.inj hd
            subst htk
            refine ⟨by simp, ?_, fun _ => rfl, fun _ => rfl⟩
            intro b' u hu
            simp at hu
            obtain ⟨rfl, rfl⟩ := hu
            rw [hvs]
            refine ⟨rfl, .inl ⟨by simp [TOp.tk, tkS, Src.ss], ?_⟩⟩
            simp only [TV.vw, TV.shrT, TV.tup.injEq]
            apply List.ext_getElem?
            intro k
            rw [List.getElem?_map, List.getElem?_map, List.getElem?_set]
            by_cases hk : i = k
            · subst hk
              have hlt := (List.getElem?_eq_some_iff.1 hv).1
              simp [hlt, hv, shrA_shrA]
              have := (List.getElem?_eq_some_iff.1 hv).2
              rw [this]
            · simp [hk]
          · obtain rfl := Option.some.inj hd; exact .none rfl rfl rfl rfl
        · cases hd
      · cases hd
  | call pu f as =>
    simp only [delta] at hd
    split at hd
    · rename_i h
      obtain ⟨h1, h2, h3, h4⟩ := callD_foot hd
      exact .take (fun i hi => taks_in h i (h1 ▸ hi)) h2 (.inl h3) (h4.imp id (fun e => by rcases e with e | e <;> (subst e; rfl)))
    · cases hd
  | callv pu x as =>
    simp only [delta] at hd
    split at hd
    · rename_i h
      obtain ⟨h1, h2, h3, h4⟩ := callD_foot hd
      exact .take (fun i hi => taks_in h i (h1 ▸ hi)) h2 (.inl h3) (h4.imp id (fun e => by rcases e with e | e <;> (subst e; rfl)))
    · cases hd
  | app tk sz bytes x y =>
    simp only [delta] at hd
    split at hd
    · rename_i h _
      split at hd
      · obtain rfl := Option.some.inj hd; exact .take (fun i hi => tak_in h i hi) rfl (.inl rfl) (.inl rfl)
      · cases hd
    · rename_i h _
      split at hd
      · obtain rfl := Option.some.inj hd; exact .take (fun i hi => tak_in h i hi) rfl (.inl rfl) (.inl rfl)
      · cases hd
    · cases hd
  | bsr ag sz n z ps =>
    simp only [delta] at hd
    split at hd
    · obtain rfl := Option.some.inj hd; exact .take (by simp) rfl (.inl rfl) (.inr rfl)
    · cases hd
  | clr z x =>
    simp only [delta] at hd
    repeat' split at hd
    all_goals first | (cases hd; done) | skip
    all_goals (obtain rfl := Option.some.inj hd; exact .take (by simp) rfl (.inl rfl) (.inr rfl))
  | apr ag sz bytes x y =>
    simp only [delta] at hd
    split at hd
    · rename_i h _
      split at hd
      · split at hd <;> (obtain rfl := Option.some.inj hd; exact .take (fun i hi => by have := tak_in h i hi; simpa [TOp.tk, tkS] using this) rfl (.inl rfl) (.inr rfl))
      · cases hd
    · rename_i h _
      split at hd
      · split at hd
        · split at hd
          · obtain rfl := Option.some.inj hd; exact .take (fun i hi => by have := tak_in h i hi; simpa [TOp.tk, tkS] using this) rfl (.inl rfl) (.inr rfl)
          · split at hd <;> (obtain rfl := Option.some.inj hd; exact .take (fun i hi => by have := tak_in h i hi; simpa [TOp.tk, tkS] using this) rfl (.inl rfl) (.inr rfl))
        · cases hd
      · cases hd
    · cases hd
  | calk ks x as =>
    simp only [delta] at hd
    split at hd
    · rename_i h
      split at hd
      · rename_i d' hd'
        have hdd : d' = d := by (split at hd) <;> (split at hd) <;> first | exact Option.some.inj hd | cases hd
        subst hdd
        obtain ⟨h1, h2, h3, h4⟩ := callD_foot hd'
        exact .take (fun i hi => taks_in h i (h1 ▸ hi)) h2 (.inl h3) (.inr rfl)
      · cases hd
    · cases hd
  | cvx x =>
    simp only [delta] at hd
    split at hd
    · rename_i h; obtain rfl := Option.some.inj hd; exact .take (fun i hi => by have := tak_in h i hi; simpa [TOp.tk, tkS] using this) rfl (.inl rfl) (.inl rfl)
    · cases hd
  | _ =>
    simp only [delta] at hd
    repeat' split at hd
    all_goals first | (cases hd; done) | skip
    all_goals (obtain rfl := Option.some.inj hd; exact .none rfl rfl rfl rfl)
theorem dlt_foot {call : CallF} {st : St} {x : TOper} {d : Dl} (hd : dlt call x st = some d) : Foot x.op st d := by
  unfold dlt at hd
  split at hd
  · exact delta_foot hd
  · obtain rfl := Option.some.inj hd; exact .none rfl rfl rfl rfl
  · cases hd
theorem wanted_agr {t t' : List TV} {g : Option (Nat × Bool)} (h : ∀ i ∈ (match g with | some (g, _) => [g] | none => []), (sl t i).vw = (sl t' i).vw) : wanted t g = wanted t' g := by
  cases g with
  | none => rfl
  | some p =>
    obtain ⟨i, b⟩ := p
    have := h i (by simp)
    simp only [wanted]
    cases h1 : sl t i <;> cases h2 : sl t' i <;> rw [h1, h2] at this <;> simp [TV.vw, TV.shrT, TV.shrA, TV.shr0] at this ⊢ <;> first | (rw [this]; done) | skip
    rename_i c1 c2
    cases c1 <;> cases c2 <;> simp at this ⊢
theorem dlt_agr {call : CallF} {st st' : St} {x : TOper} (h : ∀ i ∈ x.rd, (sl st.t i).vw = (sl st'.t i).vw) (h2 : ∀ i ∈ x.op.tk ++ x.op.bx, sl st.t i = sl st'.t i) (h3 : x.op.hp ≠ 0 → st.h = st'.h ∧ st.keep = st'.keep) (h4 : ∀ i, isLb (sl st.t i) = isLb (sl st'.t i)) :
    dlt call x st = dlt call x st' := by
  unfold dlt
  rw [wanted_agr (t' := st'.t) (fun i hi => h i (List.mem_append_left _ hi)), delta_agr (st' := st') ⟨fun i hi => h i (List.mem_append_right _ hi), h2, h3, h4⟩]
/-- What becomes of a slot. -/
def upd (d : Dl) (dst : Option Nat) (j : Nat) (v : TV) : TV :=
  if dst = some j then d.v else match d.bw with
    | some (b, u) => if b = j then u else if j ∈ d.tk then v.shrT else v
    | none => if j ∈ d.tk then v.shrT else v
theorem downs_get (tk : List Nat) : ∀ (t : List TV) (j : Nat), (downs tk t)[j]? = (t[j]?).map (fun v => if j ∈ tk then v.shrT else v) := by
  induction tk with
  | nil => intro t j; simp [downs]
  | cons i tk ih =>
    intro t j
    show (downs tk (t.set i (sl t i).shrT))[j]? = _
    rw [ih, List.getElem?_set]
    by_cases hij : i = j
    · subst hij
      by_cases hl : i < t.length
      · simp only [hl, if_true, List.mem_cons, true_or, Option.map_some]
        have : t[i]? = some t[i] := by simp
        rw [this]
        have e : sl t i = t[i] := by simp [sl, hl]
        rw [e]
        simp only [Option.map_some, Option.some.injEq]
        split
        · exact shrT_shrT _
        · rfl
      · simp [hl, List.getElem?_eq_none (Nat.le_of_not_lt hl)]
    · have : j ≠ i := fun e => hij e.symm
      simp [hij, this]
theorem slots_get {d : Dl} {dst : Option Nat} {t : List TV} (hj : d.jl = false) (j : Nat) : (d.slots dst t)[j]? = (t[j]?).map (upd d dst j) := by
  have h1 : ∀ t : List TV, (match d.bw with | some (b, u) => t.set b u | none => t)[j]? = (t[j]?).map (fun v => match d.bw with | some (b, u) => if b = j then u else v | none => v) := by
    intro t
    cases d.bw with
    | none => simp
    | some p =>
      obtain ⟨b, u⟩ := p
      simp only [List.getElem?_set]
      by_cases hb : b = j
      · subst hb
        by_cases hl : b < t.length
        · simp [hl]
        · simp [hl, List.getElem?_eq_none (Nat.le_of_not_lt hl)]
      · simp [hb]
  have h2 : (match d.bw with | some (b, u) => (downs d.tk t).set b u | none => downs d.tk t)[j]? = (t[j]?).map (upd d none j) := by
    rw [h1, downs_get, Option.map_map]
    congr 1
  cases dst with
  | none => exact h2
  | some i =>
    show ((if d.jl then _ else (match d.bw with | some (b, u) => (downs d.tk t).set b u | none => downs d.tk t)).set i d.v)[j]? = _
    rw [hj]
    simp only [Bool.false_eq_true, if_false]
    rw [List.getElem?_set]
    by_cases hij : i = j
    · subst hij
      have hlen : (match d.bw with | some (b, u) => (downs d.tk t).set b u | none => downs d.tk t).length = t.length := by
        cases d.bw with
        | none => exact downs_len _ _
        | some p => simp [downs_len]
      rw [hlen]
      by_cases hl : i < t.length
      · simp [hl, upd]
      · simp [hl, List.getElem?_eq_none (Nat.le_of_not_lt hl)]
    · rw [if_neg hij, h2]
      congr 1
      funext v
      unfold upd
      simp [hij]
end Go.T
