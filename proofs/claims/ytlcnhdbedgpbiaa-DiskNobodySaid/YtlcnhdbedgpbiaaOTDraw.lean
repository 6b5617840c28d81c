/- A region of which the order is drawn. -/
import Derived.Test.YtlcnhdbedgpbiaaOTComm3
set_option linter.unusedVariables false
set_option linter.unusedSimpArgs false
set_option maxRecDepth 10000
namespace Go.T
section
variable {P : Program} {ops : Array Oper} {call : CallF}
/-- What waits for nothing outside. -/
def Shut (ops : Array Oper) (S : Nat → Prop) : Prop := ∀ i o, ops[i]? = some o → S i → ∀ e ∈ o.after, Region.binds .any e = true → S e.on
def Reach (ops : Array Oper) (i j : Nat) : Prop := ∀ S, Shut ops S → (∀ o, ops[i]? = some o → ∀ e ∈ o.after, Region.binds .any e = true → S e.on) → S j
def beforeOne (acc : Array Nat) (o : Oper) : Nat := o.after.foldl (fun s e => if Region.binds .any e then s ||| 2 ^ e.on ||| acc.getD e.on 0 else s) 0
theorem one_bits (acc : Array Nat) (j : Nat) : ∀ (l : List Edge) (s : Nat), (l.foldl (fun s e => if Region.binds .any e then s ||| 2 ^ e.on ||| acc.getD e.on 0 else s) s).testBit j = true →
    s.testBit j = true ∨ ∃ e ∈ l, Region.binds .any e = true ∧ (j = e.on ∨ (acc.getD e.on 0).testBit j = true) := by
  intro l
  induction l with
  | nil => intro s h; exact .inl h
  | cons e l ih =>
    intro s h
    simp only [List.foldl_cons] at h
    rcases ih _ h with h | ⟨e', he', h1, h2⟩
    · split at h
      · rename_i hb
        simp only [Nat.testBit_or, Bool.or_eq_true] at h
        rcases h with (h | h) | h
        · exact .inl h
        · refine .inr ⟨e, by simp, hb, .inl ?_⟩
          rw [Nat.testBit_two_pow] at h
          simpa using (of_decide_eq_true h).symm
        · exact .inr ⟨e, by simp, hb, .inr h⟩
      · exact .inl h
    · exact .inr ⟨e', by simp [he'], h1, h2⟩
theorem before_good : ∀ (rest pre : List Oper) (acc : Array Nat), pre ++ rest = ops.toList → acc.size = pre.length → (∀ i j, (acc.getD i 0).testBit j = true → Reach ops i j) →
    ∀ i j, ((rest.foldl (fun acc o => acc.push (beforeOne acc o)) acc).getD i 0).testBit j = true → Reach ops i j := by
  intro rest
  induction rest with
  | nil => intro pre acc _ _ h; exact h
  | cons o rest ih =>
    intro pre acc hp hs h
    simp only [List.foldl_cons]
    refine ih (pre ++ [o]) (acc.push (beforeOne acc o)) (by simp [hp]) (by simp [hs]) ?_
    intro i j hb
    by_cases hi : i = acc.size
    · subst hi
      have hb' : (beforeOne acc o).testBit j = true := by
        simpa [Array.getD_eq_getD_getElem?] using hb
      have ho : ops[acc.size]? = some o := by
        rw [hs]
        have : ops.toList[pre.length]? = some o := by rw [← hp]; simp
        simpa using this
      intro S hS hpre
      unfold beforeOne at hb'
      rw [← Array.foldl_toList] at hb'
      rcases one_bits acc j o.after.toList 0 hb' with h0 | ⟨e, he, h1, h2⟩
      · simp at h0
      · have hSe := hpre o ho e (by simpa using he) h1
        rcases h2 with rfl | h2
        · exact hSe
        · exact h e.on j h2 S hS (fun o' ho' e' he' hb2 => hS e.on o' ho' hSe e' he' hb2)
    · refine h i j ?_
      simp only [Array.getD_eq_getD_getElem?, Array.getElem?_push, if_neg hi] at hb ⊢
      exact hb
theorem before_reach {i j : Nat} (h : ((Region.before ops).getD i 0).testBit j = true) : Reach ops i j := by
  have := before_good (ops := ops) ops.toList [] #[] rfl rfl (fun i j h => by simp at h) i j
  apply this
  rw [Array.foldl_toList]
  exact h
/-- Those that are not listed yet. -/
def left (n : Nat) (listed : Array Bool) : List Nat := (List.range n).filter (fun i => !listed.getD i true)
theorem mem_left {n : Nat} {listed : Array Bool} {i : Nat} : i ∈ left n listed ↔ i < n ∧ listed.getD i true = false := by simp [left]
theorem left_set {n : Nat} {listed : Array Bool} (hs : listed.size = n) {A B : List Nat} {i : Nat} (h : left n listed = A ++ i :: B) : left n (listed.setIfInBounds i true) = A ++ B ∧ (∀ j ∈ A, j < i) := by
  have hpw : (left n listed).Pairwise (· < ·) := List.Pairwise.filter _ List.pairwise_lt_range
  rw [h, List.pairwise_append] at hpw
  obtain ⟨p1, p2, p3⟩ := hpw
  have hA : ∀ j ∈ A, j < i := fun j hj => p3 j hj i (by simp)
  have hB : ∀ j ∈ B, i < j := (List.pairwise_cons.1 p2).1
  refine ⟨?_, hA⟩
  have hi : i < n := (mem_left.1 (by rw [h]; simp : i ∈ left n listed)).1
  have e : left n (listed.setIfInBounds i true) = (left n listed).filter (fun j => decide (j ≠ i)) := by
    unfold left
    rw [List.filter_filter]
    apply List.filter_congr
    intro j hj
    by_cases hji : j = i
    · subst hji
      have : listed.size = n := hs
      simp [Array.getD_eq_getD_getElem?, hs, hi]
    · rw [getD_set_ne true (fun e => hji e.symm)]
      simp [hji]
  rw [e, h, List.filter_append, List.filter_cons]
  simp only [ne_eq, not_true_eq_false, decide_false, Bool.false_eq_true, if_false]
  rw [List.filter_eq_self.2 (fun j hj => by have := hA j hj; simp; omega), List.filter_eq_self.2 (fun j hj => by have := hB j hj; simp; omega)]
theorem chkOpers_get : ∀ (os : List Oper) (xs : List TOper), chkOpers P ops os xs = true → xs.length = os.length ∧ ∀ (i : Nat) (o : Oper), os[i]? = some o → ∃ x, xs[i]? = some x ∧ chkOper P ops o x = true := by
  intro os
  induction os with
  | nil => intro xs h; cases xs <;> simp [chkOpers] at h ⊢
  | cons o os ih =>
    intro xs h
    cases xs with
    | nil => simp [chkOpers] at h
    | cons x xs =>
      simp [chkOpers] at h
      obtain ⟨h1, h2⟩ := ih xs h.2
      refine ⟨by simp [h1], fun i o' hi => ?_⟩
      cases i with
      | zero => simp at hi; subst hi; exact ⟨x, rfl, h.1⟩
      | succ i => simp at hi; exact h2 i o' hi
theorem any_wp (hcs : CallSound P call) (hord : OrdC call) {xs : List TOper} (hx : chkOpers P ops ops.toList xs = true) (hback : ∀ j o, ops[j]? = some o → ∀ e ∈ o.after, Region.binds .any e = true → e.on < j)
    (hcomm : commAll (Region.before ops) xs.toArray = true) {Q : Exit → Act → World → Prop} : ∀ (fuel : Nat) (listed : Array Bool) (w : World) (g : Gh) (ow : Ow) (st : St) (a : Act) (st' : St), listed.size = ops.size → Shut ops (fun i => listed.getD i false = true) →
      (left ops.size listed).length ≤ fuel → Inv w g ow st a → steps call ((left ops.size listed).map (fun i => xs.getD i default)) st = some st' → (∀ a' w', Nxt w g ow st.h.length st' a' w' → Q .normal a' w') → wpAny P .any ops Q fuel listed a w := by
  have hlenx : xs.length = ops.size := by have := (chkOpers_get _ _ hx).1; simpa using this
  have flip : ∀ (listed : Array Bool) (j : Nat), listed.size = ops.size → j < ops.size → (listed.getD j true = false ↔ ¬ listed.getD j false = true) := by
    intro listed j hs hj
    have : j < listed.size := by omega
    simp [Array.getD, this]
  have done : ∀ (listed : Array Bool), listed.size = ops.size → left ops.size listed ≠ [] → Region.ready .any ops listed ≠ [] := by
    intro listed hs hne hr
    have key : ∀ j, j < ops.size → listed.getD j false = true := by
      intro j
      induction j using Nat.strongRecOn with
      | _ j ih =>
        intro hj
        by_cases hl : listed.getD j false = true
        · exact hl
        · exfalso
          have : j ∈ Region.ready .any ops listed := by
            rw [mem_ready]
            refine ⟨(flip listed j hs hj).2 hl, ops[j], by simp, fun e he hb => ?_⟩
            have := hback j ops[j] (by simp) e he hb
            exact ih e.on this (by omega)
          rw [hr] at this
          cases this
    cases hL : left ops.size listed with
    | nil => exact hne hL
    | cons i L =>
      have hi : i ∈ left ops.size listed := by rw [hL]; simp
      obtain ⟨h1, h2⟩ := mem_left.1 hi
      exact ((flip listed i hs h1).1 h2) (key i h1)
  intro fuel
  induction fuel with
  | zero =>
    intro listed w g ow st a st' hs hshut hf hI hst hk
    have hL : left ops.size listed = [] := List.length_eq_zero_iff.1 (by omega)
    rw [hL] at hst
    simp [steps] at hst
    subst hst
    refine ⟨?_, hk a w ⟨g, ow, hI.refl, hI⟩⟩
    cases hr : Region.ready .any ops listed with
    | nil => rfl
    | cons i L =>
      have hi : i ∈ Region.ready .any ops listed := by rw [hr]; simp
      obtain ⟨h1, o, h2, _⟩ := mem_ready.1 hi
      have : i ∈ left ops.size listed := mem_left.2 ⟨(Array.getElem?_eq_some_iff.1 h2).1, h1⟩
      rw [hL] at this; cases this
  | succ fuel ih =>
    intro listed w g ow st a st' hs hshut hf hI hst hk
    refine ⟨fun hr => ?_, fun i hi => ?_⟩
    · have hL : left ops.size listed = [] := by
        by_cases h : left ops.size listed = []
        · exact h
        · exact absurd hr (done listed hs h)
      rw [hL] at hst
      simp [steps] at hst
      subst hst
      exact hk a w ⟨g, ow, hI.refl, hI⟩
    · obtain ⟨h1, o, ho, hpre⟩ := mem_ready.1 hi
      have hio : i < ops.size := (Array.getElem?_eq_some_iff.1 ho).1
      have hmem : i ∈ left ops.size listed := mem_left.2 ⟨hio, h1⟩
      obtain ⟨A, B, hAB⟩ := List.append_of_mem hmem
      obtain ⟨hset, hlt⟩ := left_set hs hAB
      obtain ⟨x, hxi, hchk⟩ := (chkOpers_get _ _ hx).2 i o (by simpa using ho)
      have hgd : xs.getD i default = x := by simp [hxi]
      rw [hAB, List.map_append, List.map_cons, hgd] at hst
      obtain ⟨s1, k1, k2⟩ := steps_first (x := x) (A.map fun i => xs.getD i default) (B.map fun i => xs.getD i default) st st' (fun y hy => by
        obtain ⟨j, hj, rfl⟩ := List.mem_map.1 hy
        have hji := hlt j hj
        have hjl : j ∈ left ops.size listed := by rw [hAB]; simp [hj]
        have hun := mem_left.1 hjl
        unfold commAll at hcomm
        have h5 := List.all_eq_true.1 (List.all_eq_true.1 hcomm i (by simp; omega)) j (by simpa using hji)
        rw [Bool.or_eq_true] at h5
        rcases h5 with h6 | h6
        · exfalso
          have := before_reach h6 (fun i => listed.getD i false = true) hshut (fun o' ho' e he hb => by
            rw [ho] at ho'
            obtain rfl := Option.some.inj ho'
            exact hpre e he hb)
          exact ((flip listed j hs hun.1).1 hun.2) this
        · have e1 : xs.toArray.getD j default = xs.getD j default := by simp [Array.getD_eq_getD_getElem?]
          have e2 : xs.toArray.getD i default = x := by simp [Array.getD_eq_getD_getElem?, hxi]
          rw [e1, e2] at h6
          exact comm_spec h6) hst
      have hlen := (step_ord hord k1).len
      refine wpOp_mono (fun a1 w1 hn => ?_) (step_wpOp hcs hord ho hchk hI k1)
      obtain ⟨g1, ow1, n1, n2⟩ := hn
      refine ih (listed.setIfInBounds i true) w1 g1 ow1 s1 a1 st' (by simp [hs]) ?_ ?_ n2 ?_ (fun a' w' hn' => hk a' w' (hn'.trans n1 hlen))
      · intro j o' ho' hj e he hb
        by_cases hji : j = i
        · subst hji
          rw [ho] at ho'
          obtain rfl := Option.some.inj ho'
          exact getD_set_true (hpre e he hb)
        · simp only [getD_set_ne false (fun e => hji e.symm : i ≠ j)] at hj
          exact getD_set_true (hshut j o' ho' hj e he hb)
      · rw [hset]
        rw [hAB] at hf
        simp at hf ⊢
        omega
      · rw [hset, List.map_append]
        exact k2
theorem draw_sound (hcs : CallSound P call) (hord : OrdC call) : DrawSound P call := by
  intro id ops xs ks w g ow st a st' hc hI hs
  simp only [chkC, Bool.and_eq_true, Bool.or_eq_true, Bool.not_eq_true', Bool.not_true, Bool.false_eq_true, false_or] at hc
  obtain ⟨hx, ⟨hm, hback⟩, hcomm⟩ := hc
  refine wp_region_any hm ?_
  have hlenx : xs.length = ops.size := by have := (chkOpers_get _ _ hx).1; simpa using this
  have hw : Stp w g ow st.h.length { w with drawn := w.drawn + 1 } g ow := ⟨rfl, rfl, rfl, Nat.le_refl _, fun _ _ _ _ => rfl, fun _ _ => Nat.le_refl _, fun _ _ => rfl, fun b vs ty fr hh => ⟨vs, fr, hh, rfl⟩, fun _ _ _ => ⟨rfl, rfl, rfl⟩, fun b q hq => ⟨hI.bd b _ hq, hq⟩⟩
  have hI' : Inv { w with drawn := w.drawn + 1 } g ow st a := hI.mono hw (fun _ _ _ _ => ⟨rfl, rfl, rfl⟩) hI.bd
  have hleft : left ops.size (Array.replicate ops.size false) = List.range ops.size := by
    unfold left
    rw [List.filter_eq_self]
    intro i hi
    have : i < ops.size := by simpa using hi
    simp [Array.getD, this]
  refine any_wp hcs hord hx ?_ hcomm ops.size (Array.replicate ops.size false) _ g ow st a st' (by simp) ?_ (by rw [hleft]; simp) hI' ?_ ?_
  · intro j o ho e he hb
    have hj : j < ops.size := (Array.getElem?_eq_some_iff.1 ho).1
    have h5 := List.all_eq_true.1 hback j (by simpa using hj)
    rw [ho] at h5
    have h6 := Array.all_eq_true_iff_forall_mem.1 h5 e he
    simp [hb] at h6
    exact h6
  · intro i o ho hi
    simp [Array.getD] at hi
  · rw [hleft]
    have : (List.range ops.size).map (fun i => xs.getD i default) = xs := by
      apply List.ext_getElem?
      intro i
      rw [List.getElem?_map]
      by_cases h : i < ops.size
      · have : i < xs.length := by omega
        simp [h, this]
      · simp [h, List.getElem?_eq_none (show xs.length ≤ i by omega)]
    rw [this]
    exact hs
  · rintro a' w' hn
    exact ⟨rfl, hn.trans hw (Nat.le_refl _)⟩
end
/-- The functions of the small machine are the program's. -/
theorem sound {P : Program} {tab : Nat → Option TF} {ext : Nat → Option CallF} (ht : TabSound P tab) (he : ExtOrd ext) (hx : ExtSound P ext) (n : Nat) : CallSound P (callN tab ext n) :=
  callN_sound ht he hx (fun _ hc ho => draw_sound hc ho) n
end Go.T
