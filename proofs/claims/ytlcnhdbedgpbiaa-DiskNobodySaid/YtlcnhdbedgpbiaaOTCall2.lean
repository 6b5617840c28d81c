/- Calls as operations of the small machine. -/
import Derived.Test.YtlcnhdbedgpbiaaOTCall
set_option linter.unusedVariables false
set_option linter.unusedSimpArgs false
set_option maxRecDepth 10000
namespace Go.T
section
variable {P : Program} {w : World} {g : Gh} {ow : Ow} {st : St} {a : Act} {o : Oper}
/-- Which argument a slot gives. -/
def posOf (k0 : Nat) : List (Bool × Src) → Nat → Option Nat
  | [], _ => none
  | (true, .s i) :: xs, j => if i = j then some k0 else posOf (k0 + 1) xs j
  | _ :: xs, j => posOf (k0 + 1) xs j
theorem posOf_t (k0 i : Nat) (xs : List (Bool × Src)) (j : Nat) : posOf k0 ((true, .s i) :: xs) j = if i = j then some k0 else posOf (k0 + 1) xs j := rfl
theorem posOf_o (k0 : Nat) (b : Bool) (x : Src) (xs : List (Bool × Src)) (j : Nat) (h : ∀ i, ¬ (b = true ∧ x = .s i)) : posOf k0 ((b, x) :: xs) j = posOf (k0 + 1) xs j := by
  cases b with
  | false => cases x <;> rfl
  | true => cases x with
    | c v => rfl
    | s i => exact absurd ⟨rfl, rfl⟩ (h i)
theorem taks_spec (hI : Inv w g ow st a) : ∀ (bs : List (Bool × Src)) (os : List Operand) (k0 : Nat) (vs : List TV) (tk : List Nat), chkSs os (bs.map (·.2)) = true → taks st.t bs = some (vs, tk) →
    vs.length = os.length ∧ (∀ i k, posOf k0 bs i = some k → i ∈ tk) ∧ (∀ i ∈ tk, plainV (sl st.t i) = true) ∧
    ∀ (k : Nat) (x : TV) (v : Value), vs[k]? = some x → (os.map a.eval)[k]? = some v → VR w g st.h.length x v ∧ ((∀ w' g' ow' q, Owns w' g' ow' q x v) ∨ ∃ i, i ∈ tk ∧ posOf k0 bs i = some (k0 + k) ∧ Owns w g ow [0, i] x v) := by
  intro bs
  induction bs with
  | nil =>
    intro os k0 vs tk hc h
    cases os <;> simp [chkSs] at hc
    simp [taks] at h
    obtain ⟨rfl, rfl⟩ := h
    exact ⟨rfl, by simp [posOf], by simp, by simp⟩
  | cons p bs ih =>
    intro os k0 vs tk hc h
    obtain ⟨b, x⟩ := p
    cases os with
    | nil => simp [chkSs] at hc
    | cons o os =>
      simp [chkSs] at hc
      simp only [taks] at h
      split at h
      · rename_i v i vs' is hv hvs
        split at h
        · cases h
        · rename_i hno
          simp at h
          obtain ⟨rfl, rfl⟩ := h
          obtain ⟨h1, h2, h3, h4⟩ := ih os (k0 + 1) vs' is (by simpa using hc.2) hvs
          obtain ⟨t1, t2, t3⟩ := tak_spec hI hc.1 hv
          refine ⟨by simp [h1], ?_, ?_, ?_⟩
          · intro j k hj
            by_cases hbx : ∃ i', b = true ∧ x = .s i'
            · obtain ⟨i', rfl, rfl⟩ := hbx
              rw [posOf_t] at hj
              split at hj
              · rename_i hij
                subst hij
                obtain ⟨_, ⟨_, e2, _⟩ | ⟨_, _, e3⟩⟩ := tak_s hv
                · subst e2; simp
                · cases e3
              · exact List.mem_append_right _ (h2 j k hj)
            · rw [posOf_o _ _ _ _ _ (fun i' hh => hbx ⟨i', hh⟩)] at hj
              exact List.mem_append_right _ (h2 j k hj)
          · intro j hj
            rcases List.mem_append.1 hj with hj | hj
            · exact tak_slots hv j hj
            · exact h3 j hj
          · intro k y u hy hu
            cases k with
            | zero =>
              simp at hy hu
              subst hy; subst hu
              refine ⟨t1, ?_⟩
              rcases t3 with ⟨_, t3⟩ | ⟨j, rfl, e1, t3⟩
              · exact .inl t3
              · refine .inr ⟨j, by simp, ?_, t3⟩
                cases x with
                | c v => cases b <;> simp [tak] at hv
                | s i' =>
                  obtain ⟨_, ⟨_, e2, e3⟩ | ⟨_, e2, _⟩⟩ := tak_s hv
                  · simp at e2
                    subst e2; subst e3
                    simp [posOf]
                  · simp at e2
            | succ k =>
              simp at hy hu
              obtain ⟨k1, k2⟩ := h4 k y u hy (by simpa using hu)
              refine ⟨k1, ?_⟩
              rcases k2 with k2 | ⟨j, m1, m2, m3⟩
              · exact .inl k2
              · refine .inr ⟨j, List.mem_append_right _ m1, ?_, m3⟩
                have hne : ∀ i', (b = true ∧ x = .s i') → i' ≠ j := by
                  rintro i' ⟨rfl, rfl⟩ rfl
                  obtain ⟨_, ⟨_, e2, _⟩ | ⟨_, _, e3⟩⟩ := tak_s hv
                  · subst e2
                    simp at hno
                    exact hno m1
                  · cases e3
                by_cases hbx : ∃ i', b = true ∧ x = .s i'
                · obtain ⟨i', rfl, rfl⟩ := hbx
                  rw [posOf_t, if_neg (hne _ ⟨rfl, rfl⟩), m2]
                  congr 1; omega
                · rw [posOf_o _ _ _ _ _ (fun i' hh => hbx ⟨i', hh⟩), m2]
                  congr 1; omega
      · cases h
theorem call_wp {call : CallF} (hcs : CallSound P call) (hord : OrdC call) (hI : Inv w g ow st a) {pu f : Nat} {vs : List TV} {args : Array Value} {tk : List Nat} {pos : Nat → Option Nat} {d : Dl} (hd : callD call pu st tk f vs = some d)
    (hrun : (∃ fn, P.funcs[f]? = some fn ∧ fn.body.isSome = true ∧ (fn.name == "runtime.NumGoroutine") = false) → (execOp a.eval o).run P w = .ok (.enter f args) w) (hlen : vs.length = args.size)
    (hargs : ∀ (k : Nat) (x : TV) (v : Value), vs[k]? = some x → args[k]? = some v → VR w g st.h.length x v ∧ ((∀ w' g' ow' q, Owns w' g' ow' q x v) ∨ ∃ i, pos i = some k ∧ Owns w g ow [0, i] x v))
    (hpos : ∀ i k, pos i = some k → i ∈ tk) (htk : ∀ i ∈ tk, plainV (sl st.t i) = true) {Q : Exit → Act → World → Prop} :
    o.wp P a w (Nxt w g ow st.h.length (d.ap o.dst st)) Q := by
  unfold callD at hd
  split at hd
  · rename_i hok
    have main : ∀ (call : CallF), CallSound P call → ∀ (hand : Bool) (r : Ret) (kk : Bool), call f vs (if hand then st.h else []) = some r → (hand = false → r.h = [] ∧ TV.lts 0 vs = true) →
        (∀ (dst : Option Nat), d.ap dst st = ({ v := r.r, tk := tk, hw := some (if hand then r.h else st.h, kk) } : Dl).ap dst st) → o.wp P a w (Nxt w g ow st.h.length (d.ap o.dst st)) Q := by
      intro call hcs hand r kk hcall hhid hap
      obtain ⟨_, he, _⟩ := hcs f vs _ r hcall
      unfold Oper.wp
      rw [hrun he, Oper.upon_enter]
      refine Calls.mono (call_core hcs hI hand hcall hhid hlen hok hargs hpos htk (o.dst.getD 0) kk) ?_
      rintro e w' ⟨v, rfl, g', ow', hs, hv, ho, hi⟩
      show Nxt w g ow st.h.length (d.ap o.dst st) (a.put o.dst v) w'
      rw [hap]
      refine ⟨g', ow', hs, ?_⟩
      cases hdst : o.dst with
      | none => exact ⟨hi.defers, hi.len, hi.slot, hi.box, hi.bd, hi.base⟩
      | some i =>
        rw [hdst] at ho
        have := hi.put i hv.plain hv ho
        exact ⟨this.defers, this.len, this.slot, this.box, this.bd, this.base⟩
    split at hd
    · split at hd
      · rename_i r hr
        obtain rfl := Option.some.inj hd
        exact main call hcs true r _ hr (by simp) (fun dst => rfl)
      · cases hd
    · split at hd
      · rename_i r hr
        split at hd
        · rename_i hb
          obtain rfl := Option.some.inj hd
          have hb' := Heap.beq_eq _ _ hb
          exact main call hcs true r st.keep hr (by simp) (fun dst => by rw [if_pos rfl, hb']; rfl)
        · cases hd
      · cases hd
    · split at hd
      · rename_i r hr
        obtain rfl := Option.some.inj hd
        exact main (trimC call) (trim_sound hcs hord) true (trim true st.h.length r) _ (by simp [trimC, hr]) (by simp) (fun dst => rfl)
      · cases hd
    · split at hd
      · rename_i r hr
        split at hd
        · rename_i hb
          obtain rfl := Option.some.inj hd
          have hb' := Heap.beq_eq _ _ hb
          exact main (trimC call) (trim_sound hcs hord) true (trim true st.h.length r) st.keep (by simp [trimC, hr]) (by simp) (fun dst => by rw [if_pos rfl, hb']; rfl)
        · cases hd
      · cases hd
    · split at hd
      · rename_i hl
        split at hd
        · rename_i r hr
          split at hd
          · rename_i hz
            obtain rfl := Option.some.inj hd
            exact main (trimC call) (trim_sound hcs hord) false (trim true 0 r) st.keep (by simp [trimC, hr]) (fun _ => ⟨List.length_eq_zero_iff.1 hz, hl⟩) (fun dst => rfl)
          · cases hd
        · cases hd
      · cases hd
    · split at hd
      · rename_i hl
        split at hd
        · rename_i v kp hr
          obtain rfl := Option.some.inj hd
          exact main call hcs false ⟨v, [], kp⟩ st.keep hr (fun _ => ⟨rfl, hl⟩) (fun dst => rfl)
        · cases hd
      · cases hd
  · cases hd
theorem snd_call {pu f : Nat} {as : List (Bool × Src)} {d : Dl} (hc : chkOp P o.op (.call pu f as) = true) (hI : Inv w g ow st a) {call : CallF} (hcs : CallSound P call) (hord : OrdC call) (hd : delta call st (.call pu f as) = some d) {Q : Exit → Act → World → Prop} :
    o.wp P a w (Nxt w g ow st.h.length (d.ap o.dst st)) Q := by
  cases hop : o.op <;> rw [hop] at hc <;> try (simp [chkOp] at hc; done)
  rename_i c
  obtain ⟨callee, args, types⟩ := c
  cases callee with
  | builtin b => simp [chkOp] at hc
  | invoke r n => simp [chkOp] at hc
  | value y =>
    cases y with
    | tmp t => simp [chkOp] at hc
    | const v => simp [chkOp] at hc
    | global gl => simp [chkOp] at hc
    | func fr =>
      simp [chkOp] at hc
      obtain ⟨rfl, hc⟩ := hc
      simp only [delta] at hd
      split at hd
      · rename_i vs tk hvs
        obtain ⟨h1, h2, h3, h4⟩ := taks_spec hI as args.toList 0 vs tk hc hvs
        refine call_wp (args := args.map a.eval) hcs hord hI hd ?_ (by simp [h1]) (fun k x v hx hv => ?_) h2 h3
        · rintro ⟨fn, e1, e2, e3⟩
          unfold execOp; rw [hop]
          have := run_enter e1 e3 e2 (args.map a.eval) w
          simpa [resolve, invoke, Deferred.ofValue, Act.eval] using this
        · obtain ⟨k1, k2⟩ := h4 k x v hx (by simpa using hv)
          refine ⟨k1, ?_⟩
          rcases k2 with k2 | ⟨i, _, m2, m3⟩
          · exact .inl k2
          · exact .inr ⟨i, by simpa using m2, m3⟩
      · cases hd
theorem snd_callv {pu : Nat} {x : Src} {as : List (Bool × Src)} {d : Dl} (hc : chkOp P o.op (.callv pu x as) = true) (hI : Inv w g ow st a) {call : CallF} (hcs : CallSound P call) (hord : OrdC call) (hd : delta call st (.callv pu x as) = some d) {Q : Exit → Act → World → Prop} :
    o.wp P a w (Nxt w g ow st.h.length (d.ap o.dst st)) Q := by
  cases hop : o.op <;> rw [hop] at hc <;> try (simp [chkOp] at hc; done)
  rename_i c
  obtain ⟨callee, args, types⟩ := c
  cases callee with
  | builtin b => simp [chkOp] at hc
  | invoke r n => simp [chkOp] at hc
  | value y =>
    cases y with
    | func fr => simp [chkOp] at hc
    | global gl => simp [chkOp] at hc
    | const v => simp [chkOp] at hc
    | tmp t =>
      simp [chkOp] at hc
      obtain ⟨hcx, hc⟩ := hc
      simp only [delta] at hd
      split at hd
      · rename_i f cs vs tk hx hvs
        obtain ⟨e1, e2, e3⟩ := ev_spec hI hcx hx
        obtain ⟨h1, h2, h3, h4⟩ := taks_spec hI as args.toList 0 vs tk hc hvs
        generalize hq : a.eval (.tmp t) = q at e1 e3
        cases e1 with
        | fn _ _ us hl hcell hr =>
          refine call_wp (args := args.map a.eval ++ us) hcs hord hI hd ?_ (by simp [h1, hl]) (fun k x v hx hv => ?_) h2 h3
          · rintro ⟨fn, e1, e2, e3⟩
            unfold execOp; rw [hop]
            have := run_enter e1 e3 e2 (args.map a.eval ++ us) w
            simpa [resolve, invoke, Deferred.ofValue, hq] using this
          · have hsz : args.toList.length = args.size := Array.length_toList
            by_cases hk : k < vs.length
            · rw [List.getElem?_append_left hk] at hx
              rw [Array.getElem?_append_left (by simp; omega)] at hv
              obtain ⟨k1, k2⟩ := h4 k x v hx (by simpa using hv)
              refine ⟨k1, ?_⟩
              rcases k2 with k2 | ⟨i, _, m2, m3⟩
              · exact .inl k2
              · exact .inr ⟨i, by simpa using m2, m3⟩
            · rw [List.getElem?_append_right (by omega)] at hx
              rw [Array.getElem?_append_right (by simp; omega)] at hv
              simp at hv
              rw [h1] at hx
              obtain ⟨c1, c2⟩ := hcell _ x v hx (by simpa using hv)
              exact ⟨hr _ x v hx (by simpa using hv), .inl (fun _ _ _ _ => owns_cell c1 c2)⟩
      · cases hd
theorem snd_calk {ks : List Src} {x : Src} {as : List (Bool × Src)} {d : Dl} (hc : chkOp P o.op (.calk ks x as) = true) (hI : Inv w g ow st a) {call : CallF} (hcs : CallSound P call) (hord : OrdC call) (hd : delta call st (.calk ks x as) = some d) {Q : Exit → Act → World → Prop} :
    o.wp P a w (Nxt w g ow st.h.length (d.ap o.dst st)) Q := by
  cases hop : o.op <;> rw [hop] at hc <;> try (simp [chkOp] at hc; done)
  rename_i c
  obtain ⟨callee, args, types⟩ := c
  cases callee with
  | builtin b => simp [chkOp] at hc
  | invoke r n => simp [chkOp] at hc
  | value y =>
    cases y with
    | global gl => simp [chkOp, chkS] at hc
    | const v => simp [chkOp] at hc
    | func fr =>
      simp [chkOp] at hc
      obtain ⟨hcx, hc⟩ := hc
      simp only [delta] at hd
      split at hd
      · rename_i f cs vs tk hx hvs
        split at hd
        · rename_i d' hd'
          have hdd : d' = d := by (split at hd) <;> (split at hd) <;> first | exact Option.some.inj hd | cases hd
          · subst hdd
            unfold chkS at hcx
            split at hcx
            · rename_i hyy; cases hyy
            · rename_i hyy; cases hyy
            · rename_i f1 f2 hyy
              cases hyy
              obtain rfl := eq_of_beq hcx
              simp only [ev, TV.shrT, TV.shrA, TV.shr0, Option.some.injEq, TV.fn.injEq] at hx
              obtain ⟨rfl, rfl⟩ := hx
              obtain ⟨h1, h2, h3, h4⟩ := taks_spec hI as args.toList 0 vs tk hc hvs
              refine call_wp (args := args.map a.eval) hcs hord hI hd' ?_ (by simp [h1]) (fun k x v hx hv => ?_) h2 h3
              · rintro ⟨fn, e1, e2, e3⟩
                unfold execOp; rw [hop]
                have := run_enter e1 e3 e2 (args.map a.eval) w
                simpa [resolve, invoke, Deferred.ofValue, Act.eval] using this
              · obtain ⟨k1, k2⟩ := h4 k x v (by simpa using hx) (by simpa using hv)
                refine ⟨k1, ?_⟩
                rcases k2 with k2 | ⟨i, _, m2, m3⟩
                · exact .inl k2
                · exact .inr ⟨i, by simpa using m2, m3⟩
            · cases hcx
        · cases hd
      · cases hd
    | tmp t =>
      simp [chkOp] at hc
      obtain ⟨hcx, hc⟩ := hc
      simp only [delta] at hd
      split at hd
      · rename_i f cs vs tk hx hvs
        split at hd
        rotate_left
        · cases hd
        rename_i d' hd'
        have hdd : d' = d := by (split at hd) <;> (split at hd) <;> first | exact Option.some.inj hd | cases hd
        subst hdd
        obtain ⟨e1, e2, e3⟩ := ev_spec hI hcx hx
        obtain ⟨h1, h2, h3, h4⟩ := taks_spec hI as args.toList 0 vs tk hc hvs
        generalize hq : a.eval (.tmp t) = q at e1 e3
        cases e1 with
        | fn _ _ us hl hcell hr =>
          refine call_wp (args := args.map a.eval ++ us) hcs hord hI hd' ?_ (by simp [h1, hl]) (fun k x v hx hv => ?_) h2 h3
          · rintro ⟨fn, e1, e2, e3⟩
            unfold execOp; rw [hop]
            have := run_enter e1 e3 e2 (args.map a.eval ++ us) w
            simpa [resolve, invoke, Deferred.ofValue, hq] using this
          · have hsz : args.toList.length = args.size := Array.length_toList
            by_cases hk : k < vs.length
            · rw [List.getElem?_append_left hk] at hx
              rw [Array.getElem?_append_left (by simp; omega)] at hv
              obtain ⟨k1, k2⟩ := h4 k x v hx (by simpa using hv)
              refine ⟨k1, ?_⟩
              rcases k2 with k2 | ⟨i, _, m2, m3⟩
              · exact .inl k2
              · exact .inr ⟨i, by simpa using m2, m3⟩
            · rw [List.getElem?_append_right (by omega)] at hx
              rw [Array.getElem?_append_right (by simp; omega)] at hv
              simp at hv
              rw [h1] at hx
              obtain ⟨c1, c2⟩ := hcell _ x v hx (by simpa using hv)
              exact ⟨hr _ x v hx (by simpa using hv), .inl (fun _ _ _ _ => owns_cell c1 c2)⟩
      · cases hd
end
end Go.T
