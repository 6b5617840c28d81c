/- A part of the proofs: the small machine. -/
import Derived.Test.YtijmmpeadikkbaaOM7
import Derived.Lib.LazyBuf
import Derived.IntWalk
/- A region of which the order is drawn. -/
set_option linter.unusedVariables false
set_option linter.unusedSimpArgs false
set_option maxRecDepth 10000
namespace Go.T
section
variable {P : Program} {ops : Array Oper} {call : CallF}
/-- What waits for nothing outside. -/
def Shut (ops : Array Oper) (S : Nat → Prop) : Prop := ∀ i o, ops[i]? = some o → S i → ∀ e ∈ o.after, Region.binds .any e = true → S e.on
def Reach (ops : Array Oper) (i j : Nat) : Prop := ∀ S, Shut ops S → (∀ o, ops[i]? = some o → ∀ e ∈ o.after, Region.binds .any e = true → S e.on) → S j
def beforeOne (acc : Array Nat) (o : Oper) : Nat := o.after.foldl (fun s e => if Region.binds .any e then s ||| 2 ^ e.on ||| acc.getD e.on 0 else s) 0
theorem one_bits (acc : Array Nat) (j : Nat) : ∀ (l : List Edge) (s : Nat), (l.foldl (fun s e => if Region.binds .any e then s ||| 2 ^ e.on ||| acc.getD e.on 0 else s) s).testBit j = true →
    s.testBit j = true ∨ ∃ e ∈ l, Region.binds .any e = true ∧ (j = e.on ∨ (acc.getD e.on 0).testBit j = true) := by
  intro l
  induction l with
  | nil => intro s h; exact .inl h
  | cons e l ih =>
    intro s h
    simp only [List.foldl_cons] at h
    rcases ih _ h with h | ⟨e', he', h1, h2⟩
    · split at h
      · rename_i hb
        simp only [Nat.testBit_or, Bool.or_eq_true] at h
        rcases h with (h | h) | h
        · exact .inl h
        · refine .inr ⟨e, by simp, hb, .inl ?_⟩
          rw [Nat.testBit_two_pow] at h
          simpa using (of_decide_eq_true h).symm
        · exact .inr ⟨e, by simp, hb, .inr h⟩
      · exact .inl h
    · exact .inr ⟨e', by simp [he'], h1, h2⟩
theorem before_good : ∀ (rest pre : List Oper) (acc : Array Nat), pre ++ rest = ops.toList → acc.size = pre.length → (∀ i j, (acc.getD i 0).testBit j = true → Reach ops i j) →
    ∀ i j, ((rest.foldl (fun acc o => acc.push (beforeOne acc o)) acc).getD i 0).testBit j = true → Reach ops i j := by
  intro rest
  induction rest with
  | nil => intro pre acc _ _ h; exact h
  | cons o rest ih =>
    intro pre acc hp hs h
    simp only [List.foldl_cons]
    refine ih (pre ++ [o]) (acc.push (beforeOne acc o)) (by simp [hp]) (by simp [hs]) ?_
    intro i j hb
    by_cases hi : i = acc.size
    · subst hi
      have hb' : (beforeOne acc o).testBit j = true := by
        simpa [Array.getD_eq_getD_getElem?] using hb
      have ho : ops[acc.size]? = some o := by
        rw [hs]
        have : ops.toList[pre.length]? = some o := by rw [← hp]; simp
        simpa using this
      intro S hS hpre
      unfold beforeOne at hb'
      rw [← Array.foldl_toList] at hb'
      rcases one_bits acc j o.after.toList 0 hb' with h0 | ⟨e, he, h1, h2⟩
      · simp at h0
      · have hSe := hpre o ho e (by simpa using he) h1
        rcases h2 with rfl | h2
        · exact hSe
        · exact h e.on j h2 S hS (fun o' ho' e' he' hb2 => hS e.on o' ho' hSe e' he' hb2)
    · refine h i j ?_
      simp only [Array.getD_eq_getD_getElem?, Array.getElem?_push, if_neg hi] at hb ⊢
      exact hb
theorem before_reach {i j : Nat} (h : ((Region.before ops).getD i 0).testBit j = true) : Reach ops i j := by
  have := before_good (ops := ops) ops.toList [] #[] rfl rfl (fun i j h => by simp at h) i j
  apply this
  rw [Array.foldl_toList]
  exact h
/-- Those that are not listed yet. -/
def left (n : Nat) (listed : Array Bool) : List Nat := (List.range n).filter (fun i => !listed.getD i true)
theorem mem_left {n : Nat} {listed : Array Bool} {i : Nat} : i ∈ left n listed ↔ i < n ∧ listed.getD i true = false := by simp [left]
theorem left_set {n : Nat} {listed : Array Bool} (hs : listed.size = n) {A B : List Nat} {i : Nat} (h : left n listed = A ++ i :: B) : left n (listed.setIfInBounds i true) = A ++ B ∧ (∀ j ∈ A, j < i) := by
  have hpw : (left n listed).Pairwise (· < ·) := List.Pairwise.filter _ List.pairwise_lt_range
  rw [h, List.pairwise_append] at hpw
  obtain ⟨p1, p2, p3⟩ := hpw
  have hA : ∀ j ∈ A, j < i := fun j hj => p3 j hj i (by simp)
  have hB : ∀ j ∈ B, i < j := (List.pairwise_cons.1 p2).1
  refine ⟨?_, hA⟩
  have hi : i < n := (mem_left.1 (by rw [h]; simp : i ∈ left n listed)).1
  have e : left n (listed.setIfInBounds i true) = (left n listed).filter (fun j => decide (j ≠ i)) := by
    unfold left
    rw [List.filter_filter]
    apply List.filter_congr
    intro j hj
    by_cases hji : j = i
    · subst hji
      have : listed.size = n := hs
      simp [Array.getD_eq_getD_getElem?, hs, hi]
    · rw [getD_set_ne true (fun e => hji e.symm)]
      simp [hji]
  rw [e, h, List.filter_append, List.filter_cons]
  simp only [ne_eq, not_true_eq_false, decide_false, Bool.false_eq_true, if_false]
  rw [List.filter_eq_self.2 (fun j hj => by have := hA j hj; simp; omega), List.filter_eq_self.2 (fun j hj => by have := hB j hj; simp; omega)]
theorem chkOpers_get : ∀ (os : List Oper) (xs : List TOper), chkOpers P ops os xs = true → xs.length = os.length ∧ ∀ (i : Nat) (o : Oper), os[i]? = some o → ∃ x, xs[i]? = some x ∧ chkOper P ops o x = true := by
  intro os
  induction os with
  | nil => intro xs h; cases xs <;> simp [chkOpers] at h ⊢
  | cons o os ih =>
    intro xs h
    cases xs with
    | nil => simp [chkOpers] at h
    | cons x xs =>
      simp [chkOpers] at h
      obtain ⟨h1, h2⟩ := ih xs h.2
      refine ⟨by simp [h1], fun i o' hi => ?_⟩
      cases i with
      | zero => simp at hi; subst hi; exact ⟨x, rfl, h.1⟩
      | succ i => simp at hi; exact h2 i o' hi
theorem any_wp (hcs : CallSound P call) (hord : OrdC call) {xs : List TOper} (hx : chkOpers P ops ops.toList xs = true) (hback : ∀ j o, ops[j]? = some o → ∀ e ∈ o.after, Region.binds .any e = true → e.on < j)
    (hcomm : commAll (Region.before ops) xs.toArray = true) {Q : Exit → Act → World → Prop} : ∀ (fuel : Nat) (listed : Array Bool) (w : World) (g : Gh) (ow : Ow) (st : St) (a : Act) (st' : St), listed.size = ops.size → Shut ops (fun i => listed.getD i false = true) →
      (left ops.size listed).length ≤ fuel → Inv w g ow st a → steps call ((left ops.size listed).map (fun i => xs.getD i default)) st = some st' → (∀ a' w', Nxt w g ow st.h.length st' a' w' → Q .normal a' w') → wpAny P .any ops Q fuel listed a w := by
  have hlenx : xs.length = ops.size := by have := (chkOpers_get _ _ hx).1; simpa using this
  have flip : ∀ (listed : Array Bool) (j : Nat), listed.size = ops.size → j < ops.size → (listed.getD j true = false ↔ ¬ listed.getD j false = true) := by
    intro listed j hs hj
    have : j < listed.size := by omega
    simp [Array.getD, this]
  have done : ∀ (listed : Array Bool), listed.size = ops.size → left ops.size listed ≠ [] → Region.ready .any ops listed ≠ [] := by
    intro listed hs hne hr
    have key : ∀ j, j < ops.size → listed.getD j false = true := by
      intro j
      induction j using Nat.strongRecOn with
      | _ j ih =>
        intro hj
        by_cases hl : listed.getD j false = true
        · exact hl
        · exfalso
          have : j ∈ Region.ready .any ops listed := by
            rw [mem_ready]
            refine ⟨(flip listed j hs hj).2 hl, ops[j], by simp, fun e he hb => ?_⟩
            have := hback j ops[j] (by simp) e he hb
            exact ih e.on this (by omega)
          rw [hr] at this
          cases this
    cases hL : left ops.size listed with
    | nil => exact hne hL
    | cons i L =>
      have hi : i ∈ left ops.size listed := by rw [hL]; simp
      obtain ⟨h1, h2⟩ := mem_left.1 hi
      exact ((flip listed i hs h1).1 h2) (key i h1)
  intro fuel
  induction fuel with
  | zero =>
    intro listed w g ow st a st' hs hshut hf hI hst hk
    have hL : left ops.size listed = [] := List.length_eq_zero_iff.1 (by omega)
    rw [hL] at hst
    simp [steps] at hst
    subst hst
    refine ⟨?_, hk a w ⟨g, ow, hI.refl, hI⟩⟩
    cases hr : Region.ready .any ops listed with
    | nil => rfl
    | cons i L =>
      have hi : i ∈ Region.ready .any ops listed := by rw [hr]; simp
      obtain ⟨h1, o, h2, _⟩ := mem_ready.1 hi
      have : i ∈ left ops.size listed := mem_left.2 ⟨(Array.getElem?_eq_some_iff.1 h2).1, h1⟩
      rw [hL] at this; cases this
  | succ fuel ih =>
    intro listed w g ow st a st' hs hshut hf hI hst hk
    refine ⟨fun hr => ?_, fun i hi => ?_⟩
    · have hL : left ops.size listed = [] := by
        by_cases h : left ops.size listed = []
        · exact h
        · exact absurd hr (done listed hs h)
      rw [hL] at hst
      simp [steps] at hst
      subst hst
      exact hk a w ⟨g, ow, hI.refl, hI⟩
    · obtain ⟨h1, o, ho, hpre⟩ := mem_ready.1 hi
      have hio : i < ops.size := (Array.getElem?_eq_some_iff.1 ho).1
      have hmem : i ∈ left ops.size listed := mem_left.2 ⟨hio, h1⟩
      obtain ⟨A, B, hAB⟩ := List.append_of_mem hmem
      obtain ⟨hset, hlt⟩ := left_set hs hAB
      obtain ⟨x, hxi, hchk⟩ := (chkOpers_get _ _ hx).2 i o (by simpa using ho)
      have hgd : xs.getD i default = x := by simp [hxi]
      rw [hAB, List.map_append, List.map_cons, hgd] at hst
      obtain ⟨s1, k1, k2⟩ := steps_first (x := x) (A.map fun i => xs.getD i default) (B.map fun i => xs.getD i default) st st' (fun y hy => by
        obtain ⟨j, hj, rfl⟩ := List.mem_map.1 hy
        have hji := hlt j hj
        have hjl : j ∈ left ops.size listed := by rw [hAB]; simp [hj]
        have hun := mem_left.1 hjl
        unfold commAll at hcomm
        have h5 := List.all_eq_true.1 (List.all_eq_true.1 hcomm i (by simp; omega)) j (by simpa using hji)
        rw [Bool.or_eq_true] at h5
        rcases h5 with h6 | h6
        · exfalso
          have := before_reach h6 (fun i => listed.getD i false = true) hshut (fun o' ho' e he hb => by
            rw [ho] at ho'
            obtain rfl := Option.some.inj ho'
            exact hpre e he hb)
          exact ((flip listed j hs hun.1).1 hun.2) this
        · have e1 : xs.toArray.getD j default = xs.getD j default := by simp [Array.getD_eq_getD_getElem?]
          have e2 : xs.toArray.getD i default = x := by simp [Array.getD_eq_getD_getElem?, hxi]
          rw [e1, e2] at h6
          exact comm_spec h6) hst
      have hlen := (step_ord hord k1).len
      refine wpOp_mono (fun a1 w1 hn => ?_) (step_wpOp hcs hord ho hchk hI k1)
      obtain ⟨g1, ow1, n1, n2⟩ := hn
      refine ih (listed.setIfInBounds i true) w1 g1 ow1 s1 a1 st' (by simp [hs]) ?_ ?_ n2 ?_ (fun a' w' hn' => hk a' w' (hn'.trans n1 hlen))
      · intro j o' ho' hj e he hb
        by_cases hji : j = i
        · subst hji
          rw [ho] at ho'
          obtain rfl := Option.some.inj ho'
          exact getD_set_true (hpre e he hb)
        · simp only [getD_set_ne false (fun e => hji e.symm : i ≠ j)] at hj
          exact getD_set_true (hshut j o' ho' hj e he hb)
      · rw [hset]
        rw [hAB] at hf
        simp at hf ⊢
        omega
      · rw [hset, List.map_append]
        exact k2
theorem draw_sound (hcs : CallSound P call) (hord : OrdC call) : DrawSound P call := by
  intro id ops xs ks w g ow st a st' hc hI hs
  simp only [chkC, Bool.and_eq_true, Bool.or_eq_true, Bool.not_eq_true', Bool.not_true, Bool.false_eq_true, false_or] at hc
  obtain ⟨hx, ⟨hm, hback⟩, hcomm⟩ := hc
  refine wp_region_any hm ?_
  have hlenx : xs.length = ops.size := by have := (chkOpers_get _ _ hx).1; simpa using this
  have hw : Stp w g ow st.h.length { w with drawn := w.drawn + 1 } g ow := ⟨rfl, rfl, rfl, Nat.le_refl _, fun _ _ _ _ => rfl, fun _ _ => Nat.le_refl _, fun _ _ => rfl, fun b vs ty fr hh => ⟨vs, fr, hh, rfl⟩, fun _ _ _ => ⟨rfl, rfl, rfl⟩, fun b q hq => ⟨hI.bd b _ hq, hq⟩⟩
  have hI' : Inv { w with drawn := w.drawn + 1 } g ow st a := hI.mono hw (fun _ _ _ _ => ⟨rfl, rfl, rfl⟩) hI.bd
  have hleft : left ops.size (Array.replicate ops.size false) = List.range ops.size := by
    unfold left
    rw [List.filter_eq_self]
    intro i hi
    have : i < ops.size := by simpa using hi
    simp [Array.getD, this]
  refine any_wp hcs hord hx ?_ hcomm ops.size (Array.replicate ops.size false) _ g ow st a st' (by simp) ?_ (by rw [hleft]; simp) hI' ?_ ?_
  · intro j o ho e he hb
    have hj : j < ops.size := (Array.getElem?_eq_some_iff.1 ho).1
    have h5 := List.all_eq_true.1 hback j (by simpa using hj)
    rw [ho] at h5
    have h6 := Array.all_eq_true_iff_forall_mem.1 h5 e he
    simp [hb] at h6
    exact h6
  · intro i o ho hi
    simp [Array.getD] at hi
  · rw [hleft]
    have : (List.range ops.size).map (fun i => xs.getD i default) = xs := by
      apply List.ext_getElem?
      intro i
      rw [List.getElem?_map]
      by_cases h : i < ops.size
      · have : i < xs.length := by omega
        simp [h, this]
      · simp [h, List.getElem?_eq_none (show xs.length ≤ i by omega)]
    rw [this]
    exact hs
  · rintro a' w' hn
    exact ⟨rfl, hn.trans hw (Nat.le_refl _)⟩
end
/-- The functions of the small machine are the program's. -/
theorem sound {P : Program} {tab : Nat → Option TF} {ext : Nat → Option CallF} (ht : TabSound P tab) (he : ExtOrd ext) (hx : ExtSound P ext) (n : Nat) : CallSound P (callN tab ext n) :=
  callN_sound ht he hx (fun _ hc ho => draw_sound hc ho) n
end Go.T
/- From a row's arguments to the small machine. -/
set_option linter.unusedVariables false
set_option linter.unusedSimpArgs false
set_option maxRecDepth 10000
namespace Go.T
open Go.RowKit
/-- The world that a row is called in: nothing of it is ours. -/
def gOf (W : World) : Gh := ⟨fun b => match W.heap[b]? with | some (.cells vs _ _) => vs.size | _ => 0, fun _ => 0⟩
theorem gOf_lt {W : World} {b o : Nat} {v : Value} (h : W.cell? (at_ b o) = some v) : o < (gOf W).imm b := by
  unfold World.cell? at h
  unfold gOf
  simp only at h ⊢
  split at h
  · rename_i vs ty fr hb
    rw [hb]
    simp at h
    simp only
    exact (Array.getElem?_eq_some_iff.1 h).1
  · cases h
/-- An argument. -/
def ArgR (W : World) (x : TV) (v : Value) : Prop := argOk x = true ∧ VR W (gOf W) 0 x v ∧ ∀ ow q, Owns W (gOf W) ow q x v
theorem ArgR.int (W : World) (k : IntKind) (n : Int) : ArgR W (.int k n) (.int k n) := ⟨rfl, .int _ _, fun _ _ => owns_cell rfl rfl⟩
theorem ArgR.bool (W : World) (b : Bool) : ArgR W (.bool b) (.bool b) := ⟨rfl, .bool _, fun _ _ => owns_cell rfl rfl⟩
theorem ArgR.str (W : World) (s : ByteArray) : ArgR W (.str s) (.string s) := ⟨rfl, .str _, fun _ _ => owns_cell rfl rfl⟩
/-- A row of numbers. -/
theorem ArgR.ints {W : World} {k : IntKind} {a : Option Addr} {len cap : Nat} {zs : List Int}
    (h : (a = none ∧ len = 0 ∧ cap = 0 ∧ zs = []) ∨ ∃ x, a = some x ∧ x.spot = none ∧ len ≤ cap ∧ cap ≤ 9223372036854775807 ∧ zs.length = cap ∧ ∀ i, i < zs.length → W.cell? (x.add i) = some (.int k (zs.getD i 0))) :
    ArgR W (.sl .shr ((zs.take len).map (.int k))) (.slice a len cap) := by
  refine ⟨rfl, ?_, fun _ _ => owns_cell rfl rfl⟩
  rcases h with ⟨rfl, rfl, rfl, rfl⟩ | ⟨x, rfl, hs, h1, h2, h3, h4⟩
  · exact .sl .shr [] none 0 1 (fun _ _ => undef) (by decide) (by simp) (by simp) (by simp) (fun _ => rfl) (by simp) (by simp) (by simp)
  · have hlen : ((zs.take len).map (TV.int k)).length = len := by simp; omega
    have hel : ∀ (i : Nat) (e : TV), ((zs.take len).map (TV.int k))[i]? = some e → i < zs.length ∧ e = .int k (zs.getD i 0) := by
      intro i e he
      have hi : i < len := by have := (List.getElem?_eq_some_iff.1 he).1; omega
      obtain ⟨n, hn, rfl⟩ := getElem?_map_some he
      rw [List.getElem?_take, if_pos hi] at hn
      exact ⟨by omega, by simp [hn]⟩
    have := VR.sl (w := W) (g := gOf W) (m := 0) .shr ((zs.take len).map (.int k)) (some x) cap 1 (fun i _ => .int k (zs.getD i 0)) (by decide) (by omega) (by omega) (fun ad had _ => by cases had; exact hs) (by simp) (fun e he => by
      obtain ⟨n, _, rfl⟩ := List.mem_map.1 he
      rfl) (fun ad i e j y had hi hj => by
      cases had
      obtain ⟨z1, rfl⟩ := hel i e hi
      have hj0 : j = 0 ∧ y = .int k (zs.getD i 0) := by
        cases j with
        | zero => simp [TV.cells] at hj; exact ⟨rfl, hj.symm⟩
        | succ j => simp [TV.cells] at hj
      obtain ⟨rfl, rfl⟩ := hj0
      have hc := h4 i z1
      have hx : x.add i = at_ x.block (x.off + (i * 1 + 0)) := by
        obtain ⟨b, o, sp⟩ := x
        simp only at hs
        subst hs
        simpa using at_add b o i
      rw [hx] at hc
      exact ⟨rfl, gOf_lt hc, hc⟩) (fun i e j y hi hj => by
      obtain ⟨z1, rfl⟩ := hel i e hi
      cases j with
      | zero => simp [TV.cells] at hj; subst hj; exact .int _ _
      | succ j => simp [TV.cells] at hj)
    rw [hlen] at this
    exact this
theorem glue {P : Program} {call : CallF} (hcs : CallSound P call) {f : Nat} {as : List TV} {vs : Array Value} {W : World} {b kp : Bool} (h : call f as [] = some ⟨.bool b, [], kp⟩) (hl : as.length = vs.size)
    (hargs : ∀ (k : Nat) (x : TV) (v : Value), as[k]? = some x → vs[k]? = some v → ArgR W x v) : Calls P f vs W (fun e W' => e = .returned (.bool b) ∧ Below W.heap.size W W') := by
  obtain ⟨_, _, hc⟩ := hcs f as [] _ h
  refine Calls.mono (hc W (gOf W) (fun _ => none) vs hl (fun k x v hx hv => ⟨(hargs k x v hx hv).1, (hargs k x v hx hv).2.1, (hargs k x v hx hv).2.2 _ _⟩) (by simp) (by simp)) ?_
  rintro e W' ⟨v, rfl, g', ow', hs, hv, _⟩
  refine ⟨by rw [hv.bool_inv], ?_⟩
  exact ⟨hs.os, hs.tape, hs.output, hs.size, fun k hk => (hs.far k hk (.inl rfl)).1⟩
end Go.T
/- The small machine without fuel: what it answers in the end. -/
set_option linter.unusedVariables false
set_option linter.unusedSimpArgs false
set_option maxRecDepth 10000
namespace Go.T
/-- Whatever the one answers, the other one answers. -/
def CLe (c c' : CallF) : Prop := ∀ f as h r, c f as h = some r → c' f as h = some r
theorem callD_mono {c c' : CallF} (hc : CLe c c') {pu : Nat} {st : St} {tk : List Nat} {f : Nat} {vs : List TV} {d : Dl} (h : callD c pu st tk f vs = some d) : callD c' pu st tk f vs = some d := by
  unfold callD at h ⊢
  split at h
  · rename_i hv
    rw [if_pos hv]
    split at h
    · split at h
      · rename_i r hr
        rw [hc _ _ _ _ hr]; exact h
      · cases h
    · split at h
      · rename_i r hr
        rw [hc _ _ _ _ hr]; exact h
      · cases h
    · split at h
      · rename_i r hr
        rw [hc _ _ _ _ hr]; exact h
      · cases h
    · split at h
      · rename_i r hr
        rw [hc _ _ _ _ hr]; exact h
      · cases h
    · split at h
      · rename_i hl
        split at h
        · rename_i r hr
          rw [if_pos hl, hc _ _ _ _ hr]; exact h
        · cases h
      · cases h
    · rename_i h0 h1 h3 h4 h5
      split at h
      · rename_i hl
        split at h
        · rename_i v kp hr
          rw [if_pos hl, hc _ _ _ _ hr]; exact h
        · cases h
      · cases h
  · cases h
theorem delta_mono {c c' : CallF} (hc : CLe c c') {st : St} {op : TOp} {d : Dl} (h : delta c st op = some d) : delta c' st op = some d := by
  cases op <;> try exact h
  case call pu f as =>
    simp only [delta] at h ⊢
    split at h
    · exact callD_mono hc h
    · cases h
  case callv pu x as =>
    simp only [delta] at h ⊢
    split at h
    · exact callD_mono hc h
    · cases h
  case calk ks x as =>
    simp only [delta] at h ⊢
    split at h
    · split at h
      · rename_i d' hd'
        rw [callD_mono hc hd']; exact h
      · cases h
    · cases h
theorem dlt_mono {c c' : CallF} (hc : CLe c c') {o : TOper} {st : St} {d : Dl} (h : dlt c o st = some d) : dlt c' o st = some d := by
  unfold dlt at h ⊢
  split at h
  · exact delta_mono hc h
  · exact h
  · cases h
theorem step_mono {c c' : CallF} (hc : CLe c c') {o : TOper} {st st' : St} (h : step c o st = some st') : step c' o st = some st' := by
  unfold step at h ⊢
  split at h
  · rename_i d hd
    rw [dlt_mono hc hd]; exact h
  · cases h
theorem steps_mono {c c' : CallF} (hc : CLe c c') : ∀ (os : List TOper) {st st' : St}, steps c os st = some st' → steps c' os st = some st'
  | [], st, st', h => h
  | o :: os, st, st', h => by
    simp only [steps] at h ⊢
    split at h
    · rename_i s hs
      rw [step_mono hc hs]; exact steps_mono hc os h
    · cases h
theorem loopN_mono {f g : St → Option (Ex × St)} (hf : ∀ s r, f s = some r → g s = some r) : ∀ {k k' : Nat} {st : St} {r : Ex × St}, k ≤ k' → loopN f k st = some r → loopN g k' st = some r
  | 0, _, st, r, _, h => by simp [loopN] at h
  | k + 1, 0, st, r, hk, h => by omega
  | k + 1, k' + 1, st, r, hk, h => by
    simp only [loopN] at h ⊢
    cases hs : f st with
    | none => rw [hs] at h; cases h
    | some x =>
      rw [hs] at h
      rw [hf _ _ hs]
      obtain ⟨e, s⟩ := x
      cases e
      · exact loopN_mono hf (by omega) h
      · exact h
      · exact h
theorem exec_mono {c c' : CallF} (hc : CLe c c') {k k' : Nat} (hk : k ≤ k') : ∀ (code : TC) {st : St} {r : Ex × St}, exec c k code st = some r → exec c' k' code st = some r := by
  intro code
  induction code with
  | skip => intro st r h; exact h
  | exit => intro st r h; exact h
  | ret => intro st r h; exact h
  | reg ops kill =>
    intro st r h
    simp only [exec] at h ⊢
    split at h
    · rename_i s hs
      rw [steps_mono hc ops hs]; exact h
    · cases h
  | seq a b iha ihb =>
    intro st r h
    simp only [exec] at h ⊢
    cases hs : exec c k a st with
    | none => rw [hs] at h; cases h
    | some x =>
      rw [hs] at h
      rw [iha hs]
      obtain ⟨e, s⟩ := x
      cases e
      · exact ihb h
      · exact h
      · exact h
  | cond x a b iha ihb =>
    intro st r h
    simp only [exec] at h ⊢
    split at h
    · exact iha h
    · exact ihb h
    · cases h
  | block id b ih =>
    intro st r h
    simp only [exec] at h ⊢
    cases hs : exec c k b st with
    | none => rw [hs] at h; cases h
    | some x => rw [hs] at h; rw [ih hs]; exact h
  | loop b ih =>
    intro st r h
    simp only [exec] at h ⊢
    exact loopN_mono (fun s r hs => ih hs) hk h
section
variable (tab : Nat → Option TF) (ext : Nat → Option CallF)
theorem callN_succ (n : Nat) : CLe (callN tab ext n) (callN tab ext (n + 1)) := by
  induction n with
  | zero => intro f as h r hc; simp [callN] at hc
  | succ n ih =>
    intro f as h r hc
    rw [callN] at hc ⊢
    split at hc
    · exact hc
    · split at hc
      · cases hc
      · rename_i tf htf
        split at hc
        · cases hc
        · rename_i e st hne hex
          rw [exec_mono ih (Nat.le_succ n) _ hex]
          cases e with
          | ex id => exact (hne id rfl).elim
          | norm => exact hc
          | ret => exact hc
        · cases hc
theorem callN_le {n m : Nat} (h : n ≤ m) : CLe (callN tab ext n) (callN tab ext m) := by
  induction h with
  | refl => exact fun _ _ _ _ h => h
  | step _ ih => exact fun f as h r hc => callN_succ tab ext _ f as h r (ih f as h r hc)
open Classical in
/-- What a call answers in the end. -/
noncomputable def callT : CallF := fun f as h => if hx : ∃ r, ∃ n, callN tab ext n f as h = some r then some (Classical.choose hx) else none
theorem callT_iff {f : Nat} {as : List TV} {h : Heap} {r : Ret} : callT tab ext f as h = some r ↔ ∃ n, callN tab ext n f as h = some r := by
  unfold callT
  constructor
  · intro hc
    split at hc
    · rename_i hx
      obtain rfl := Option.some.inj hc
      exact Classical.choose_spec hx
    · cases hc
  · rintro ⟨n, hn⟩
    have hx : ∃ r, ∃ n, callN tab ext n f as h = some r := ⟨r, n, hn⟩
    rw [dif_pos hx]
    obtain ⟨m, hm⟩ := Classical.choose_spec hx
    have h1 := callN_le tab ext (Nat.le_max_left n m) f as h _ hn
    have h2 := callN_le tab ext (Nat.le_max_right n m) f as h _ hm
    rw [h1] at h2
    exact h2.symm
theorem callN_T (n : Nat) : CLe (callN tab ext n) (callT tab ext) := fun f as h r hc => (callT_iff tab ext).2 ⟨n, hc⟩
end
section
variable {tab : Nat → Option TF} {ext : Nat → Option CallF}
/-- From some depth on. -/
def Ev (p : Nat → Prop) : Prop := ∃ N, ∀ n, N ≤ n → p n
theorem Ev.and {p q : Nat → Prop} (hp : Ev p) (hq : Ev q) : Ev fun n => p n ∧ q n := by
  obtain ⟨N, h⟩ := hp
  obtain ⟨M, k⟩ := hq
  exact ⟨max N M, fun n hn => ⟨h n (by omega), k n (by omega)⟩⟩
theorem Ev.mono {p q : Nat → Prop} (hp : Ev p) (h : ∀ n, p n → q n) : Ev q := by
  obtain ⟨N, k⟩ := hp
  exact ⟨N, fun n hn => h n (k n hn)⟩
theorem Ev.of {p : Nat → Prop} (h : ∀ n, p n) : Ev p := ⟨0, fun n _ => h n⟩
theorem callT_ev {f : Nat} {as : List TV} {h : Heap} {r : Ret} (hc : callT tab ext f as h = some r) : Ev fun n => callN tab ext n f as h = some r := by
  obtain ⟨n, hn⟩ := (callT_iff tab ext).1 hc
  exact ⟨n, fun m hm => callN_le tab ext hm f as h r hn⟩
theorem callD_ev {pu : Nat} {st : St} {tk : List Nat} {f : Nat} {vs : List TV} {d : Dl} (h : callD (callT tab ext) pu st tk f vs = some d) : Ev fun n => callD (callN tab ext n) pu st tk f vs = some d := by
  unfold callD at h
  split at h
  · rename_i hv
    split at h
    · split at h
      · rename_i r hr
        exact (callT_ev hr).mono fun n hn => by unfold callD; rw [if_pos hv]; simp only [hn]; exact h
      · cases h
    · split at h
      · rename_i r hr
        exact (callT_ev hr).mono fun n hn => by unfold callD; rw [if_pos hv]; simp only [hn]; exact h
      · cases h
    · split at h
      · rename_i r hr
        exact (callT_ev hr).mono fun n hn => by unfold callD; rw [if_pos hv]; simp only [hn]; exact h
      · cases h
    · split at h
      · rename_i r hr
        exact (callT_ev hr).mono fun n hn => by unfold callD; rw [if_pos hv]; simp only [hn]; exact h
      · cases h
    · split at h
      · rename_i hl
        split at h
        · rename_i r hr
          exact (callT_ev hr).mono fun n hn => by unfold callD; rw [if_pos hv]; simp only [if_pos hl, hn]; exact h
        · cases h
      · cases h
    · rename_i h0 h1 h3 h4 h5
      split at h
      · rename_i hl
        split at h
        · rename_i v kp hr
          refine (callT_ev hr).mono fun n hn => ?_
          unfold callD
          rw [if_pos hv]
          match pu, h0, h1, h3, h4, h5 with
          | 0, h0, _, _, _, _ => exact (h0 rfl).elim
          | 1, _, h1, _, _, _ => exact (h1 rfl).elim
          | 3, _, _, h3, _, _ => exact (h3 rfl).elim
          | 4, _, _, _, h4, _ => exact (h4 rfl).elim
          | 5, _, _, _, _, h5 => exact (h5 rfl).elim
          | 2, _, _, _, _, _ => simp only [if_pos hl, hn]; exact h
          | _ + 6, _, _, _, _, _ => simp only [if_pos hl, hn]; exact h
        · cases h
      · cases h
  · cases h
theorem delta_ev {st : St} {op : TOp} {d : Dl} (h : delta (callT tab ext) st op = some d) : Ev fun n => delta (callN tab ext n) st op = some d := by
  cases op <;> try exact Ev.of fun _ => h
  case call pu f as =>
    simp only [delta] at h ⊢
    split at h
    · exact callD_ev h
    · cases h
  case callv pu x as =>
    simp only [delta] at h ⊢
    split at h
    · exact callD_ev h
    · cases h
  case calk ks x as =>
    simp only [delta] at h
    split at h
    · rename_i f cs vs tk hx hvs
      split at h
      · rename_i d' hd'
        exact (callD_ev hd').mono fun n hn => by simp only [delta, hx, hvs, hn]; exact h
      · cases h
    · cases h
theorem step_ev {o : TOper} {st st' : St} (h : step (callT tab ext) o st = some st') : Ev fun n => step (callN tab ext n) o st = some st' := by
  unfold step at h
  split at h
  · rename_i d hd
    have : Ev fun n => dlt (callN tab ext n) o st = some d := by
      unfold dlt at hd
      split at hd
      · rename_i hw
        exact (delta_ev hd).mono fun n hn => by unfold dlt; rw [hw]; exact hn
      · rename_i hw
        exact Ev.of fun n => by unfold dlt; rw [hw]; exact hd
      · cases hd
    exact this.mono fun n hn => by unfold step; rw [hn]; exact h
  · cases h
theorem steps_ev : ∀ (os : List TOper) {st st' : St}, steps (callT tab ext) os st = some st' → Ev fun n => steps (callN tab ext n) os st = some st'
  | [], st, st', h => Ev.of fun _ => h
  | o :: os, st, st', h => by
    simp only [steps] at h ⊢
    split at h
    · rename_i s hs
      exact ((step_ev hs).and (steps_ev os h)).mono fun n hn => by rw [hn.1]; exact hn.2
    · cases h
end

/-- Until the loop is left. -/
def loopW (f : (Ex → St → Prop) → St → Prop) : Nat → (Ex → St → Prop) → St → Prop
  | 0, _, _ => False
  | k + 1, Q, st => f (fun e s => match e with | .norm => loopW f k Q s | e => Q e s) st
/-- The code ends, and then Q. -/
def W (call : CallF) : TC → (Ex → St → Prop) → St → Prop
  | .skip, Q, st => Q .norm st
  | .reg ops kill, Q, st => match steps call ops st with
    | some st' => Q .norm (st'.kill kill)
    | none => False
  | .seq a b, Q, st => W call a (fun e s => match e with | .norm => W call b Q s | e => Q e s) st
  | .cond c a b, Q, st => match ev st.t c with
    | some (.bool true) => W call a Q st
    | some (.bool false) => W call b Q st
    | _ => False
  | .block id body, Q, st => W call body (fun e s => match e with | .ex id' => if id' = id then Q .norm s else Q (.ex id') s | e => Q e s) st
  | .loop body, Q, st => ∃ k, loopW (W call body) k Q st
  | .exit id, Q, st => Q (.ex id) st
  | .ret, Q, st => Q .ret st
/-- How it ends hangs on nothing that is asked of it. -/
def Det (f : (Ex → St → Prop) → St → Prop) : Prop := ∀ Q st, f Q st → ∃ e s, Q e s ∧ ∀ Q', Q' e s → f Q' st
theorem loopW_det {f : (Ex → St → Prop) → St → Prop} (hf : Det f) : ∀ k, Det (loopW f k)
  | 0 => fun _ _ h => h.elim
  | k + 1 => fun Q st h => by
    obtain ⟨e, s, h1, h2⟩ := hf _ _ h
    cases e with
    | norm =>
      obtain ⟨e', s', k1, k2⟩ := loopW_det hf k _ _ h1
      exact ⟨e', s', k1, fun Q' hq => h2 _ (k2 Q' hq)⟩
    | ret => exact ⟨_, s, h1, fun Q' hq => h2 _ hq⟩
    | ex id => exact ⟨_, s, h1, fun Q' hq => h2 _ hq⟩
theorem W_det (call : CallF) : ∀ c, Det (W call c) := by
  intro c
  induction c with
  | skip => intro Q st h; exact ⟨_, _, h, fun _ h => h⟩
  | exit => intro Q st h; exact ⟨_, _, h, fun _ h => h⟩
  | ret => intro Q st h; exact ⟨_, _, h, fun _ h => h⟩
  | reg ops kill =>
    intro Q st h
    simp only [W] at h ⊢
    split at h
    · exact ⟨_, _, h, fun _ h => h⟩
    · exact h.elim
  | seq a b iha ihb =>
    intro Q st h
    simp only [W] at h ⊢
    obtain ⟨e, s, h1, h2⟩ := iha _ _ h
    cases e with
    | norm =>
      obtain ⟨e', s', k1, k2⟩ := ihb _ _ h1
      exact ⟨e', s', k1, fun Q' hq => h2 _ (k2 Q' hq)⟩
    | ret => exact ⟨_, s, h1, fun Q' hq => h2 _ hq⟩
    | ex id => exact ⟨_, s, h1, fun Q' hq => h2 _ hq⟩
  | cond x a b iha ihb =>
    intro Q st h
    simp only [W] at h ⊢
    split at h
    · exact iha _ _ h
    · exact ihb _ _ h
    · exact h.elim
  | block id b ih =>
    intro Q st h
    simp only [W] at h ⊢
    obtain ⟨e, s, h1, h2⟩ := ih _ _ h
    cases e with
    | norm => exact ⟨_, s, h1, fun Q' hq => h2 _ hq⟩
    | ret => exact ⟨_, s, h1, fun Q' hq => h2 _ hq⟩
    | ex id' =>
      simp only at h1
      by_cases hi : id' = id
      · rw [if_pos hi] at h1
        exact ⟨_, s, h1, fun Q' hq => h2 _ (by simp only [if_pos hi]; exact hq)⟩
      · rw [if_neg hi] at h1
        exact ⟨_, s, h1, fun Q' hq => h2 _ (by simp only [if_neg hi]; exact hq)⟩
  | loop b ih =>
    intro Q st h
    obtain ⟨k, h⟩ := h
    obtain ⟨e, s, h1, h2⟩ := loopW_det ih k _ _ h
    exact ⟨e, s, h1, fun Q' hq => ⟨k, h2 Q' hq⟩⟩
theorem W_mono {call : CallF} {c : TC} {Q Q' : Ex → St → Prop} {st : St} (h : W call c Q st) (hq : ∀ e s, Q e s → Q' e s) : W call c Q' st := by
  obtain ⟨e, s, h1, h2⟩ := W_det call c Q st h
  exact h2 _ (hq _ _ h1)
/-- A loop, once more. -/
theorem W_loop (call : CallF) (b : TC) (Q : Ex → St → Prop) (st : St) : W call (.loop b) Q st = W call b (fun e s => match e with | .norm => W call (.loop b) Q s | e => Q e s) st := by
  apply propext
  constructor
  · rintro ⟨k, h⟩
    cases k with
    | zero => exact h.elim
    | succ k =>
      refine W_mono h fun e s hq => ?_
      cases e with
      | norm => exact ⟨k, hq⟩
      | ret => exact hq
      | ex id => exact hq
  · intro h
    obtain ⟨e, s, h1, h2⟩ := W_det call b _ st h
    cases e with
    | norm =>
      obtain ⟨k, hk⟩ := h1
      exact ⟨k + 1, h2 _ hk⟩
    | ret => exact ⟨1, h2 _ h1⟩
    | ex id => exact ⟨1, h2 _ h1⟩
section
variable {tab : Nat → Option TF} {ext : Nat → Option CallF}
theorem loopW_ev {b : TC} (hb : ∀ Q st, W (callT tab ext) b Q st → ∃ e s, Q e s ∧ Ev fun n => exec (callN tab ext n) n b st = some (e, s)) : ∀ k Q st, loopW (W (callT tab ext) b) k Q st →
    ∃ e s, Q e s ∧ ∃ N, ∀ n, N ≤ n → loopN (exec (callN tab ext n) n b) (k + 1) st = some (e, s)
  | 0, _, _, h => h.elim
  | k + 1, Q, st, h => by
    obtain ⟨e, s, h1, N, h2⟩ := hb _ _ h
    cases e with
    | norm =>
      obtain ⟨e', s', k1, M, k2⟩ := loopW_ev hb k _ _ h1
      refine ⟨e', s', k1, max N M, fun n hn => ?_⟩
      rw [loopN, h2 n (by omega)]
      exact k2 n (by omega)
    | ret => exact ⟨_, s, h1, N, fun n hn => by rw [loopN, h2 n hn]⟩
    | ex id => exact ⟨_, s, h1, N, fun n hn => by rw [loopN, h2 n hn]⟩
theorem W_ev : ∀ (c : TC) (Q : Ex → St → Prop) (st : St), W (callT tab ext) c Q st → ∃ e s, Q e s ∧ Ev fun n => exec (callN tab ext n) n c st = some (e, s) := by
  intro c
  induction c with
  | skip => intro Q st h; exact ⟨_, _, h, Ev.of fun _ => rfl⟩
  | exit => intro Q st h; exact ⟨_, _, h, Ev.of fun _ => rfl⟩
  | ret => intro Q st h; exact ⟨_, _, h, Ev.of fun _ => rfl⟩
  | reg ops kill =>
    intro Q st h
    simp only [W] at h
    split at h
    · rename_i st' hst
      exact ⟨_, _, h, (steps_ev ops hst).mono fun n hn => by simp only [exec, hn]⟩
    · exact h.elim
  | seq a b iha ihb =>
    intro Q st h
    simp only [W] at h
    obtain ⟨e, s, h1, h2⟩ := iha _ _ h
    cases e with
    | norm =>
      obtain ⟨e', s', k1, k2⟩ := ihb _ _ h1
      exact ⟨e', s', k1, (h2.and k2).mono fun n hn => by simp only [exec, hn.1]; exact hn.2⟩
    | ret => exact ⟨_, s, h1, h2.mono fun n hn => by simp only [exec, hn]⟩
    | ex id => exact ⟨_, s, h1, h2.mono fun n hn => by simp only [exec, hn]⟩
  | cond x a b iha ihb =>
    intro Q st h
    simp only [W] at h
    split at h
    · rename_i hx
      obtain ⟨e, s, h1, h2⟩ := iha _ _ h
      exact ⟨e, s, h1, h2.mono fun n hn => by simp only [exec, hx]; exact hn⟩
    · rename_i hx
      obtain ⟨e, s, h1, h2⟩ := ihb _ _ h
      exact ⟨e, s, h1, h2.mono fun n hn => by simp only [exec, hx]; exact hn⟩
    · exact h.elim
  | block id b ih =>
    intro Q st h
    simp only [W] at h
    obtain ⟨e, s, h1, h2⟩ := ih _ _ h
    cases e with
    | norm => exact ⟨_, s, h1, h2.mono fun n hn => by simp only [exec, hn]⟩
    | ret => exact ⟨_, s, h1, h2.mono fun n hn => by simp only [exec, hn]⟩
    | ex id' =>
      simp only at h1
      by_cases hi : id' = id
      · rw [if_pos hi] at h1
        exact ⟨_, s, h1, h2.mono fun n hn => by simp only [exec, hn, if_pos hi]⟩
      · rw [if_neg hi] at h1
        exact ⟨_, s, h1, h2.mono fun n hn => by simp only [exec, hn, if_neg hi]⟩
  | loop b ih =>
    intro Q st h
    obtain ⟨k, h⟩ := h
    obtain ⟨e, s, h1, N, h2⟩ := loopW_ev ih k _ _ h
    refine ⟨e, s, h1, max N (k + 1), fun n hn => ?_⟩
    simp only [exec]
    exact loopN_mono (fun _ _ h => h) (by omega) (h2 n (by omega))
end
end Go.T
/- The small machine, step by step, as equations. -/
set_option linter.unusedVariables false
set_option linter.unusedSimpArgs false
set_option maxRecDepth 10000
namespace Go.T
/-- What is still to be done. -/
inductive Fr where
  | seq (b : TC)
  | blk (id : Nat)
  | loop (b : TC)
/-- The function asks of its end that it is this answer. -/
structure Cx where
  call : CallF
  fz : Bool
  rs : List TRes
  r : Ret
def Fin (cx : Cx) (st : St) : Prop := finish cx.fz cx.rs st = some cx.r
def Back (cx : Cx) : List Fr → Ex → St → Prop
  | [], .norm, st => Fin cx st
  | [], .ret, st => Fin cx st
  | [], .ex _, _ => False
  | .seq b :: ks, .norm, st => W cx.call b (Back cx ks) st
  | .seq _ :: ks, .ret, st => Back cx ks .ret st
  | .seq _ :: ks, .ex i, st => Back cx ks (.ex i) st
  | .blk _ :: ks, .norm, st => Back cx ks .norm st
  | .blk _ :: ks, .ret, st => Back cx ks .ret st
  | .blk id :: ks, .ex i, st => if i = id then Back cx ks .norm st else Back cx ks (.ex i) st
  | .loop b :: ks, .norm, st => W cx.call (.loop b) (Back cx ks) st
  | .loop _ :: ks, .ret, st => Back cx ks .ret st
  | .loop _ :: ks, .ex i, st => Back cx ks (.ex i) st
def Run (cx : Cx) (ks : List Fr) (c : TC) (st : St) : Prop := W cx.call c (Back cx ks) st
def RS (cx : Cx) (ks : List Fr) (ops : List TOper) (kl : List Nat) (st : St) : Prop := match steps cx.call ops st with
  | some st' => Back cx ks .norm (st'.kill kl)
  | none => False
/-- An operation's answer, and on. -/
def Ap (cx : Cx) (ks : List Fr) (d : Option Nat) (os : List TOper) (kl : List Nat) (st : St) : Option Dl → Prop
  | some x => if okD st.t d x then RS cx ks os kl (x.ap d st) else False
  | none => False
def Cnd : Option TV → Prop → Prop → Prop
  | some (.bool true), A, _ => A
  | some (.bool false), _, B => B
  | _, _, _ => False
def killT : List Nat → List TV → List TV
  | [], t => t
  | i :: is, t => killT is (t.set i .junk)
section
variable {cx : Cx} {ks : List Fr} {st : St}
theorem Run_skip : Run cx ks .skip st = Back cx ks .norm st := rfl
theorem Run_ret : Run cx ks .ret st = Back cx ks .ret st := rfl
theorem Run_exit {i : Nat} : Run cx ks (.exit i) st = Back cx ks (.ex i) st := rfl
theorem Run_seq {a b : TC} : Run cx ks (.seq a b) st = Run cx (.seq b :: ks) a st := by
  unfold Run
  rw [W]
  congr 1
  funext e s
  cases e <;> rfl
theorem Run_block {i : Nat} {a : TC} : Run cx ks (.block i a) st = Run cx (.blk i :: ks) a st := by
  unfold Run
  rw [W]
  congr 1
  funext e s
  cases e <;> rfl
theorem Run_loop {a : TC} : Run cx ks (.loop a) st = Run cx (.loop a :: ks) a st := by
  unfold Run
  rw [W_loop]
  congr 1
  funext e s
  cases e <;> rfl
theorem Run_cond {c : Src} {a b : TC} : Run cx ks (.cond c a b) st = Cnd (ev st.t c) (Run cx ks a st) (Run cx ks b st) := by
  unfold Run
  rw [W]
  cases h : ev st.t c with
  | none => rfl
  | some v =>
    cases v <;> try rfl
    case bool p => cases p <;> rfl
theorem Run_reg {ops : List TOper} {kl : List Nat} : Run cx ks (.reg ops kl) st = RS cx ks ops kl st := rfl
theorem Back_seq {b : TC} : Back cx (.seq b :: ks) .norm st = Run cx ks b st := rfl
theorem Back_seq_ret {b : TC} : Back cx (.seq b :: ks) .ret st = Back cx ks .ret st := rfl
theorem Back_seq_ex {b : TC} {i : Nat} : Back cx (.seq b :: ks) (.ex i) st = Back cx ks (.ex i) st := rfl
theorem Back_blk {i : Nat} : Back cx (.blk i :: ks) .norm st = Back cx ks .norm st := rfl
theorem Back_blk_ret {i : Nat} : Back cx (.blk i :: ks) .ret st = Back cx ks .ret st := rfl
theorem Back_blk_ex {i j : Nat} : Back cx (.blk i :: ks) (.ex j) st = if j = i then Back cx ks .norm st else Back cx ks (.ex j) st := rfl
theorem Back_loop {b : TC} : Back cx (.loop b :: ks) .norm st = Run cx ks (.loop b) st := rfl
theorem Back_loop_ret {b : TC} : Back cx (.loop b :: ks) .ret st = Back cx ks .ret st := rfl
theorem Back_loop_ex {b : TC} {i : Nat} : Back cx (.loop b :: ks) (.ex i) st = Back cx ks (.ex i) st := rfl
theorem Back_nil : Back cx [] .norm st = Fin cx st := rfl
theorem Back_nil_ret : Back cx [] .ret st = Fin cx st := rfl
variable {t : List TV} {h : Heap} {b : Nat} {k : Bool} {kl : List Nat} {os : List TOper}
theorem Cnd_bool {p : Bool} {A B : Prop} : Cnd (some (.bool p)) A B = if p = true then A else B := by
  cases p <;> simp [Cnd]
theorem kill_eq (kl : List Nat) (t : List TV) : (⟨t, h, b, k⟩ : St).kill kl = ⟨killT kl t, h, b, k⟩ := by
  unfold St.kill
  congr 1
  induction kl generalizing t with
  | nil => rfl
  | cons i is ih => exact ih _
theorem RS_nil : RS cx ks [] kl ⟨t, h, b, k⟩ = Back cx ks .norm ⟨killT kl t, h, b, k⟩ := by
  show Back cx ks .norm _ = _
  rw [kill_eq]
theorem RS_cons {d : Option Nat} {op : TOp} : RS cx ks (⟨d, op, none⟩ :: os) kl ⟨t, h, b, k⟩ = Ap cx ks d os kl ⟨t, h, b, k⟩ (delta cx.call ⟨t, h, b, k⟩ op) := by
  unfold RS Ap
  rw [steps]
  unfold step dlt
  simp only [wanted]
  cases delta cx.call ⟨t, h, b, k⟩ op with
  | none => rfl
  | some x =>
    simp only
    cases okD t d x <;> rfl
theorem set_self {t : List TV} {g : Nat} {v : TV} (hv : sl t g = v) (hj : v ≠ .junk) : t.set g v = t := by
  apply List.ext_getElem?
  intro i
  rw [List.getElem?_set]
  split
  · rename_i hgi
    subst hgi
    split
    · rename_i hl
      unfold sl at hv
      rw [List.getD_eq_getElem?_getD] at hv
      rw [List.getElem?_eq_getElem hl] at hv ⊢
      simpa using hv.symm
    · rename_i hl
      unfold sl at hv
      rw [List.getD_eq_getElem?_getD, List.getElem?_eq_none (by omega)] at hv
      exact (hj hv.symm).elim
  · rfl
theorem RS_grd {d : Option Nat} {op : TOp} {g : Nat} {w : Bool} {p : Bool} (hp : sl t g = .bool p) : RS cx ks (⟨d, op, some (g, w)⟩ :: os) kl ⟨t, h, b, k⟩ =
    if p = w then Ap cx ks d os kl ⟨t.set g (.bool w), h, b, k⟩ (delta cx.call ⟨t.set g (.bool w), h, b, k⟩ op) else Ap cx ks d os kl ⟨t.set g (.bool !w), h, b, k⟩ (some { v := .tup [] }) := by
  by_cases hw : p = w
  · subst hw
    rw [if_pos rfl, set_self hp (by simp)]
    unfold RS Ap
    rw [steps]
    unfold step dlt
    simp only [wanted, hp, beq_self_eq_true]
    cases delta cx.call ⟨t, h, b, k⟩ op with
    | none => rfl
    | some x =>
      simp only
      cases okD t d x <;> rfl
  · obtain rfl : p = !w := by cases p <;> cases w <;> simp_all
    rw [if_neg hw, set_self hp (by simp)]
    unfold RS Ap
    rw [steps]
    unfold step dlt
    simp only [wanted, hp]
    rw [show ((!w) == w) = false by cases w <;> rfl]
    simp only
    cases okD t d { v := .tup [] } <;> rfl
/-- The guard's slot is looked up: then as in RS_grd. -/
def Grd (cx : Cx) (ks : List Fr) (d : Option Nat) (op : TOp) (g : Nat) (w : Bool) (os : List TOper) (kl : List Nat) (st : St) : TV → Prop
  | .bool p => if p = w then Ap cx ks d os kl { st with t := st.t.set g (.bool w) } (delta cx.call { st with t := st.t.set g (.bool w) } op) else Ap cx ks d os kl { st with t := st.t.set g (.bool !w) } (some { v := .tup [] })
  | .tup [] => Ap cx ks d os kl st (some { v := .tup [] })
  | _ => False
theorem RS_guard {d : Option Nat} {op : TOp} {g : Nat} {w : Bool} : RS cx ks (⟨d, op, some (g, w)⟩ :: os) kl ⟨t, h, b, k⟩ = Grd cx ks d op g w os kl ⟨t, h, b, k⟩ (sl t g) := by
  unfold Grd
  split
  · rename_i p hp
    exact RS_grd hp
  · rename_i hp
    unfold RS Ap
    rw [steps]
    unfold step dlt
    simp only [wanted, hp]
    cases okD t d { v := .tup [] } <;> rfl
  · rename_i h1 h2
    unfold RS
    rw [steps]
    unfold step dlt
    have : wanted t (some (g, w)) = none := by
      unfold wanted
      simp only
    simp only [this]
theorem Grd_bool {d : Option Nat} {op : TOp} {g : Nat} {w p : Bool} : Grd cx ks d op g w os kl ⟨t, h, b, k⟩ (.bool p) =
    if p = w then Ap cx ks d os kl ⟨t.set g (.bool w), h, b, k⟩ (delta cx.call ⟨t.set g (.bool w), h, b, k⟩ op) else Ap cx ks d os kl ⟨t.set g (.bool !w), h, b, k⟩ (some ⟨.tup [], [], none, none, false⟩) := rfl
theorem Grd_tup {d : Option Nat} {op : TOp} {g : Nat} {w : Bool} : Grd cx ks d op g w os kl ⟨t, h, b, k⟩ (.tup []) = Ap cx ks d os kl ⟨t, h, b, k⟩ (some ⟨.tup [], [], none, none, false⟩) := rfl
/-- A slot that holds no box of its own may be written with what is none. -/
def nL (x y : TV) : Bool := !isLb x && !isLb y
theorem Ap_val {d : Nat} {v : TV} : Ap cx ks (some d) os kl ⟨t, h, b, k⟩ (some ⟨v, [], none, none, false⟩) = if nL (sl t d) v = true then RS cx ks os kl ⟨t.set d v, h, b, k⟩ else False := by
  simp only [Ap, okD, Bool.false_or, nL, Dl.ap, Dl.slots, List.foldl, Bool.false_eq_true, if_false]
  rfl
theorem Ap_tk {d i : Nat} {v : TV} : Ap cx ks (some d) os kl ⟨t, h, b, k⟩ (some ⟨v, [i], none, none, false⟩) = if nL (sl t d) v = true then RS cx ks os kl ⟨(t.set i (sl t i).shrT).set d v, h, b, k⟩ else False := by
  simp only [Ap, okD, Bool.false_or, nL, Dl.ap, Dl.slots, List.foldl, Bool.false_eq_true, if_false]
  rfl
theorem Ap_hw {d : Nat} {v : TV} {h' : Heap} {k' : Bool} : Ap cx ks (some d) os kl ⟨t, h, b, k⟩ (some ⟨v, [], none, some (h', k'), false⟩) = if nL (sl t d) v = true then RS cx ks os kl ⟨t.set d v, h', b, k'⟩ else False := by
  simp only [Ap, okD, Bool.false_or, nL, Dl.ap, Dl.slots, List.foldl, Bool.false_eq_true, if_false]
  rfl
theorem Ap_gen {d : Option Nat} {x : Dl} : Ap cx ks d os kl ⟨t, h, b, k⟩ (some x) = if okD t d x = true then RS cx ks os kl (x.ap d ⟨t, h, b, k⟩) else False := rfl
theorem sl_zero {a : TV} : sl (a :: t) 0 = a := rfl
theorem sl_succ {a : TV} {n : Nat} : sl (a :: t) (n + 1) = sl t n := rfl
end
/-- What is asked of the function's code. -/
theorem callT_of {tab : Nat → Option TF} {ext : Nat → Option CallF} {f : Nat} {tf : TF} (he : ext f = none) (ht : tab f = some tf) {as : List TV} {h : Heap} {r : Ret}
    (hw : Run ⟨callT tab ext, tf.fz, tf.res, r⟩ [] tf.body ⟨as ++ List.replicate (tf.ntmps - as.length) (.tup []), h, h.length, false⟩) : callT tab ext f as h = some r := by
  obtain ⟨e, s, h1, N, h2⟩ := W_ev tf.body _ _ hw
  refine (callT_iff tab ext).2 ⟨N + 1, ?_⟩
  rw [callN]
  simp only [he, ht, h2 N (Nat.le_refl N)]
  cases e with
  | norm => exact h1
  | ret => exact h1
  | ex i => exact h1.elim
theorem callT_ext {tab : Nat → Option TF} {ext : Nat → Option CallF} {f : Nat} {c : CallF} (he : ext f = some c) {as : List TV} {h : Heap} {r : Ret} (hc : c f as h = some r) : callT tab ext f as h = some r :=
  (callT_iff tab ext).2 ⟨1, by rw [callN]; simp only [he]; exact hc⟩
end Go.T
/- slices.Clone, of whatever elements: it says of a slice whether it is nil, which the small machine does not know. -/
set_option linter.unusedVariables false
set_option linter.unusedSimpArgs false
set_option maxRecDepth 10000
namespace Go.T
def chkNilq (P : Program) (o : Oper) (x d : Nat) : Bool := decide (o.dst = some d) && decide (o.guard = none) && (match o.op with
  | .binOp .eql t (.tmp y) (.const (.slice none 0 0)) _ => y == x && (elemOf? P t).isSome
  | _ => false)
def chkEmpty (P : Program) (o : Oper) (d sz : Nat) : Bool := decide (o.dst = some d) && decide (o.guard = none) && (match o.op with
  | .buildSlice t 0 ps => ps.size == 0 && (match elemOf? P t with
    | some e => decide (szOf P e = some sz) && (zeOf P e).isSome
    | none => false)
  | _ => false)
def chkClone (P : Program) (f : Nat) (ag : Bool) (sz bytes : Nat) : Bool :=
  match P.funcs[f]? with
  | some fn => fn.name != "runtime.NumGoroutine" && fn.ntmps == 8 && chkR P fn.results.toList [.tmp 2] && decide (0 < sz) && (match fn.body with
    | some (.seq (.region _ ops0 false) (.seq (.seq (.region _ ops1 false) (.cond (.tmp 4) (.seq (.region _ ops2 false) .ret) .skip)) (.seq (.region _ ops3 false) .ret))) =>
      chkOpers P ops0 ops0.toList [⟨some 2, .mv true (.c .nils), none⟩] &&
      chkOpers P ops2 ops2.toList [⟨some 2, .mv true (.c .nils), none⟩] &&
      (match ops1.toList with
        | [o1, o2] => chkOper P ops1 o1 ⟨some 3, .mv false (.s 0), none⟩ && chkNilq P o2 3 4
        | _ => false) &&
      (match ops3.toList with
        | [o1, o2, o3, o4] => chkEmpty P o1 5 sz && chkOper P ops3 o2 ⟨some 6, .mv false (.s 0), none⟩ && chkOper P ops3 o3 ⟨some 7, .apr ag sz bytes (.s 5) (.s 6), none⟩ && chkOper P ops3 o4 ⟨some 2, .mv true (.s 7), none⟩
        | _ => false)
    | _ => false)
  | none => false
/-- A copy in memory of its own. -/
def cloneC (ag : Bool) (sz bytes : Nat) : CallF := fun _ as h => match as with
  | [x] => match elS h x with
    | some l => if okW sz l = true ∧ l.length * bytes ≤ roomB ∧ l.length ≤ roomB ∧ argOk x = true then
        (if l.length = 0 then some ⟨.nils, h, false⟩ else some ⟨.asl ag sz h.length 0 l.length, h ++ [flat l], false⟩) else none
    | none => none
  | _ => none
section
variable {P : Program} {w : World} {g : Gh} {ow : Ow} {st : St} {a : Act} {o : Oper} {call : CallF}
theorem inv_init {as : List TV} {h : Heap} {vs : Array Value} {n : Nat} (hsz : as.length = vs.size)
    (hargs : ∀ (k : Nat) (x : TV) (v : Value), as[k]? = some x → vs[k]? = some v → argOk x = true ∧ VR w g h.length x v ∧ Owns w g ow [0, k] x v)
    (hbox : ∀ (i : Nat) cs, h[i]? = some cs → BoxD w g h.length ow [1, i] cs (g.nu i)) (hbd : ∀ b q, ow b = some q → b < w.heap.size) :
    Inv w g ow ⟨as ++ List.replicate (n - as.length) (.tup []), h, h.length, false⟩ { tmps := vs ++ Array.replicate (n - vs.size) undef, defers := [] } := by
  refine ⟨rfl, by simp [hsz], fun j => ?_, hbox, hbd, Nat.le_refl _⟩
  show SlotR _ _ _ _ _ _ j (sl (as ++ List.replicate (n - as.length) (.tup [])) j) _
  rw [sl_app]
  by_cases hj : j < as.length
  · rw [if_pos hj]
    have hx : as[j]? = some as[j] := by simp
    have hv : vs[j]? = some (vs[j]'(by omega)) := by simp [show j < vs.size by omega]
    obtain ⟨k1, k2, k3⟩ := hargs j _ _ hx hv
    have e1 : sl as j = as[j] := by simp [sl, hj]
    have e2 : (vs ++ Array.replicate (n - vs.size) undef).getD j undef = vs[j]'(by omega) := by
      simp only [Array.getD_eq_getD_getElem?]
      rw [Array.getElem?_append_left (by omega), hv]; rfl
    rw [e1, e2]
    exact (SlotR.plain (argOk_plain k1)).2 ⟨k2, k3⟩
  · rw [if_neg hj]
    split
    · rename_i hj2
      have e2 : (vs ++ Array.replicate (n - vs.size) undef).getD j undef = undef := by
        simp only [Array.getD_eq_getD_getElem?]
        rw [Array.getElem?_append_right (by omega), Array.getElem?_replicate]
        split <;> rfl
      rw [e2]
      refine ⟨.tup [] #[] rfl (by simp) (by simp), fun p sz s l A n c hs => ?_⟩
      cases hs with
      | tup _ _ k x v p _ _ hx hv h => simp at hx
    · exact ⟨.junk _, fun p sz s l A n c hs => by cases hs⟩
/-- Is the slice nil? -/
theorem nilq_wpOp {ops : Array Oper} {i x d : Nat} (ho : ops[i]? = some o) (hc : chkNilq P o x d = true) (hI : Inv w g ow st a) {l : List TV} (hx : elS st.h (sl st.t x) = some l) {Q : Exit → Act → World → Prop} :
    wpOp P ops Q i (fun a' w' => ∃ b : Bool, (b = true → l = []) ∧ Nxt w g ow st.h.length { st with t := st.t.set d (.bool b) } a' w') a w := by
  simp only [chkNilq, Bool.and_eq_true, decide_eq_true_eq] at hc
  obtain ⟨⟨hd, hg⟩, hop⟩ := hc
  split at hop
  · rename_i t y ty hopeq
    simp only [Bool.and_eq_true, beq_iff_eq] at hop
    obtain ⟨rfl, he⟩ := hop
    obtain ⟨e, he⟩ := Option.isSome_iff_exists.1 he
    have ht := elem_of he
    have hp := hI.plain (j := y) (by generalize sl st.t y = v at hx; cases v <;> first | rfl | simp [elS] at hx)
    obtain ⟨A, c, g', hq, h1, _⟩ := els_sl hI.box hI.bd hp.1 hx
    unfold wpOp
    simp only [ho]
    have hw : Region.wanted o (yielded ops a.tmps) = true := by simp [Region.wanted, hg]
    rw [hw]
    left
    have hn : A = none → l = [] := by
      rw [hq] at h1
      cases h1 with
      | sl _ _ _ _ _ _ _ _ _ _ hn _ _ _ => exact hn
    have hrun := run_eql_slice_nil (P := P) w t e A l.length c ht
    refine wp_val (v := .bool A.isNone) (w' := w) ?_ ?_
    · unfold execOp; rw [hopeq]
      simp [Act.eval, eqGuard, hq, hrun]
    · refine ⟨A.isNone, fun h => hn (by simpa using h), g, ow, hI.refl, ?_⟩
      rw [hd]
      exact hI.put d rfl (.bool _) (owns_cell rfl rfl)
  · cases hop
/-- An empty row. -/
theorem empty_wpOp {ops : Array Oper} {i d sz : Nat} (ho : ops[i]? = some o) (hc : chkEmpty P o d sz = true) (hz : 0 < sz) (hI : Inv w g ow st a) {Q : Exit → Act → World → Prop} :
    wpOp P ops Q i (Nxt w g ow st.h.length { st with t := st.t.set d (.nils) }) a w := by
  simp only [chkEmpty, Bool.and_eq_true, decide_eq_true_eq] at hc
  obtain ⟨⟨hd, hg⟩, hop⟩ := hc
  split at hop
  · rename_i t ps hopeq
    simp only [Bool.and_eq_true, beq_iff_eq] at hop
    obtain ⟨hps, he⟩ := hop
    split at he
    · rename_i e hel
      simp only [Bool.and_eq_true, decide_eq_true_eq] at he
      obtain ⟨hs, _⟩ := he
      have ht := elem_of hel
      obtain ⟨ti, hi, hisz⟩ := info_of hs
      have hps' : ps = #[] := Array.eq_empty_of_size_eq_zero hps
      subst hps'
      unfold wpOp
      simp only [ho]
      have hw : Region.wanted o (yielded ops a.tmps) = true := by simp [Region.wanted, hg]
      rw [hw]
      left
      have hrun : (Instr.buildSlice t 0 #[]).run P w = .ok (.slice (some (at_ w.heap.size 0)) 0 0) (w.alloc (.cells #[] e)) := by
        simp [Instr.buildSlice, run_underlying ht, sizeOf, typeInfo, hi, Instr.fill, newRow]
        congr 2
        exact Array.eq_empty_of_size_eq_zero (by simp)
      have hheap : (w.alloc (.cells #[] e)).heap = w.heap.push (.cells #[] e) := rfl
      refine wp_val (v := .slice (some (at_ w.heap.size 0)) 0 0) (w' := w.alloc (.cells #[] e)) ?_ ?_
      · unfold execOp; rw [hopeq]
        simp [hrun]
      · have hstp : Stp w g ow st.h.length (w.alloc (.cells #[] e)) (gPush g w.heap.size 0) (oPush ow w.heap.size [0, d]) :=
          Stp.push hI.bd hheap rfl rfl rfl (fun b hb => gPush_imm hb) (fun _ _ => rfl) (fun b hb => by simp [oPush, hb]) (fun q => by simp [oPush])
        have hinv := hI.push hstp hheap (fun b hb => gPush_imm hb) (fun b hb => by simp [oPush, hb])
        refine ⟨_, _, hstp, ?_⟩
        rw [hd]
        exact hinv.put d rfl (.nils _ (fun a ha _ => by cases ha; rfl)) (owns_cell rfl rfl)
    · cases he
  · cases hop
def noCall : CallF := fun _ _ _ => none
theorem noCall_sound : CallSound P noCall := fun _ _ _ _ h => by cases h
theorem noCall_ord : OrdC noCall := fun _ _ _ _ h => by cases h
theorem reg_wp {r : Nat} {ops : Array Oper} {xs : List TOper} (hc : chkOpers P ops ops.toList xs = true) (hI : Inv w g ow st a) {st' : St} (hs : steps noCall xs st = some st') {Q : Exit → Act → World → Prop} (hQ : ∀ a' w', Nxt w g ow st.h.length st' a' w' → Q .normal a' w') : (Code.region r ops false).wp P Q a w := by
  apply wp_region
  rw [List.range_eq_range']
  have := ops_wp (P := P) (Q := Q) noCall_sound noCall_ord ops.toList xs 0 w g ow st a st' rfl hc hI hs hQ
  simpa using this
theorem shr0_els {h : Heap} {x : TV} {l : List TV} (hx : elS h x = some l) : x.shrT = x.shr0 ∧ elS h x.shr0 = some l ∧ plainV x = true ∧ isLb x = false ∧ isLb x.shr0 = false := by
  cases x <;> first | (simp [elS] at hx; done) | exact ⟨rfl, hx, rfl, rfl, rfl⟩
theorem lbT {l : List TV} : isLb (.tup l) = false := rfl
theorem lbN : isLb .nils = false := rfl
theorem tak_plain {t : List TV} {tk : Bool} {i : Nat} (hp : plainV (sl t i) = true) : tak t tk (.s i) = if tk then some (sl t i, [i]) else some ((sl t i).shrT, []) := by
  simp only [tak]
  cases h : sl t i <;> first | rfl | (rw [h] at hp; simp [plainV] at hp)
theorem ev_plain {t : List TV} {i : Nat} (hp : plainV (sl t i) = true) : ev t (.s i) = some (sl t i).shrT := by
  simp only [ev]
  cases h : sl t i <;> first | rfl | (rw [h] at hp; simp [plainV] at hp)
theorem clone_at {f : Nat} {ag : Bool} {sz bytes : Nat} (hk : chkClone P f ag sz bytes = true) {as : List TV} {h : Heap} {r : Ret} (hr : cloneC ag sz bytes f as h = some r) : CallAt P f as h r := by
  unfold cloneC at hr
  split at hr
  rotate_left
  · cases hr
  rename_i x
  split at hr
  rotate_left
  · cases hr
  rename_i l hl
  split at hr
  rotate_left
  · cases hr
  rename_i hcond
  obtain ⟨hw, hb, hb2, hxok⟩ := hcond
  obtain ⟨sx1, sx2, sx3, sx4, sx5⟩ := shr0_els hl
  unfold chkClone at hk
  split at hk
  rotate_left
  · cases hk
  rename_i fn hfn
  simp only [Bool.and_eq_true, bne_iff_ne, ne_eq, beq_iff_eq, decide_eq_true_eq] at hk
  obtain ⟨⟨⟨⟨hname, hN⟩, hR⟩, hz⟩, hk⟩ := hk
  split at hk
  rotate_left
  · cases hk
  rename_i r0 ops0 r1 ops1 r2 ops2 r3 ops3 hbody
  simp only [Bool.and_eq_true] at hk
  obtain ⟨⟨⟨k0, k2⟩, k1⟩, k3⟩ := hk
  split at k1
  rotate_left
  · cases k1
  rename_i o1 o2 hops1
  simp only [Bool.and_eq_true] at k1
  split at k3
  rotate_left
  · cases k3
  rename_i p1 p2 p3 p4 hops3
  simp only [Bool.and_eq_true] at k3
  obtain ⟨⟨⟨m1, m2⟩, m3⟩, m4⟩ := k3
  have hlen : h.length ≤ r.h.length := by
    split at hr <;> (obtain rfl := Option.some.inj hr; simp)
  refine ⟨hlen, ⟨fn, hfn, by simp [hbody], by simpa using hname⟩, ?_⟩
  intro w g ow vs hsz hargs hbox hbd
  refine calls_of_wp hfn hbody ?_
  have hI0 := inv_init (n := fn.ntmps) hsz hargs hbox hbd
  have e0 : ([x] ++ List.replicate (fn.ntmps - [x].length) (.tup [])) = [x, .tup [], .tup [], .tup [], .tup [], .tup [], .tup [], .tup []] := by rw [hN]; rfl
  rw [e0] at hI0
  -- the end: slot 2 holds the answer
  have fin : ∀ (st1 : St) (a' : Act) (w' : World), st1.base = h.length → st1.keep = false → sl st1.t 2 = r.r → st1.h = r.h → Nxt w g ow h.length st1 a' w' →
      a'.defers = [] ∧ ∃ v, (results fn a'.tmps).run P w' = .ok v w' ∧ ∃ v', Ending.returned v = .returned v' ∧ CallPost w g ow h.length r v' w' := by
    rintro st1 a' w' hbs hkp hs2 hh ⟨g1, ow1, n1, n2⟩
    have hfi : finish false [.tmp 2] st1 = some r := by
      split at hr
      · obtain rfl := Option.some.inj hr
        simp only at hs2 hh
        simp [finish, ress, resOf, hs2, argOk, TV.isCell, hh, hbs, hkp, one, trim]
      · obtain rfl := Option.some.inj hr
        simp only at hs2 hh
        simp [finish, ress, resOf, hs2, argOk, TV.isCell, hh, hbs, hkp, one, trim, TV.lt]
    obtain ⟨us, u1, u2, u3⟩ := finish_spec (P := P) n2 hR rfl hfi (fun _ i hi => by
      rw [hbs] at hi ⊢
      have := box_lts hbox hi
      have e : st1.h.getD i [] = h.getD i [] := by
        rw [hh]
        split at hr
        · obtain rfl := Option.some.inj hr; rfl
        · obtain rfl := Option.some.inj hr
          simp only [List.getD_eq_getElem?_getD, List.getElem?_append_left hi]
      rw [e]; exact this)
    refine ⟨n2.defers, _, run_results u1, _, rfl, ?_⟩
    rw [hbs] at u3
    obtain ⟨g', ow', s1, s2, s3, s4, s5⟩ := u3
    exact ⟨g', ow', n1.trans s1 (Nat.le_refl _), s2, s3, s4, s5⟩
  apply wp_seq
  refine reg_wp k0 hI0 (st' := ⟨[x, .tup [], .nils, .tup [], .tup [], .tup [], .tup [], .tup []], h, h.length, false⟩) (by simp [steps, step, dlt, wanted, delta, tak, okD, isLb, sl, Dl.ap, Dl.slots]) ?_
  rintro a1 w1 ⟨g1, ow1, n1, i1⟩
  show (Code.seq _ _).wp P _ a1 w1
  apply wp_seq
  apply wp_seq
  apply wp_region
  have hsize1 : ops1.size = 2 := by rw [← Array.length_toList, hops1]; rfl
  have ho1 : ops1[0]? = some o1 := by rw [← Array.getElem?_toList, hops1]; rfl
  have ho2 : ops1[1]? = some o2 := by rw [← Array.getElem?_toList, hops1]; rfl
  rw [hsize1, show List.range 2 = [0, 1] from rfl, wpOps_cons]
  refine wpOp_mono ?_ (step_wpOp noCall_sound noCall_ord ho1 k1.1 i1 (st' := ⟨[x, .tup [], .nils, x.shr0, .tup [], .tup [], .tup [], .tup []], h, h.length, false⟩) (by
    simp only [step, dlt, wanted, delta]
    rw [tak_plain (by simpa [sl] using sx3)]
    simp [sl, sx1, okD, lbT, sx5, Dl.ap, Dl.slots]))
  rintro a2 w2 ⟨g2, ow2, n2, i2⟩
  rw [wpOps_cons]
  refine wpOp_mono ?_ (nilq_wpOp ho2 k1.2 i2 (l := l) (by simpa [sl] using sx2))
  rintro a3 w3 ⟨b, hbl, g3, ow3, n3, i3⟩
  have s13 := (n1.trans n2 (Nat.le_refl _)).trans n3 (Nat.le_refl _)
  have e3 : ([x, .tup [], .nils, x.shr0, .tup [], .tup [], .tup [], .tup []] : List TV).set 4 (.bool b) = [x, .tup [], .nils, x.shr0, .bool b, .tup [], .tup [], .tup []] := rfl
  rw [e3] at i3
  have hsl4 := i3.slot 4
  have hb4 : a3.eval (.tmp 4) = .bool b := by
    have : VR w3 g3 h.length (.bool b) (a3.tmps.getD 4 undef) := hsl4.1
    exact this.bool_inv
  show wpOps P ops1 _ [] a3 w3
  simp only [wpOps]
  show (Code.cond _ _ _).wp P _ a3 w3
  cases b with
  | true =>
    refine wp_cond_true hb4 ?_
    have hl0 : l = [] := hbl rfl
    apply wp_seq
    refine reg_wp k2 i3 (st' := ⟨[x, .tup [], .nils, x.shr0, .bool true, .tup [], .tup [], .tup []], h, h.length, false⟩) (by simp [steps, step, dlt, wanted, delta, tak, okD, isLb, sl, Dl.ap, Dl.slots]) ?_
    rintro a4 w4 ⟨g4, ow4, n4, i4⟩
    show (Code.ret).wp P _ a4 w4
    refine wp_ret ?_
    have hr' : r = ⟨.nils, h, false⟩ := by
      subst hl0
      simp at hr
      exact hr.symm
    exact fin _ _ _ rfl rfl (by rw [hr']; rfl) (by rw [hr']) ⟨g4, ow4, s13.trans n4 (Nat.le_refl _), i4⟩
  | false =>
    refine wp_cond_false hb4 (wp_skip ?_)
    show (Code.seq _ _).wp P _ a3 w3
    apply wp_seq
    apply wp_region
    have hsize3 : ops3.size = 4 := by rw [← Array.length_toList, hops3]; rfl
    have q1 : ops3[0]? = some p1 := by rw [← Array.getElem?_toList, hops3]; rfl
    have q2 : ops3[1]? = some p2 := by rw [← Array.getElem?_toList, hops3]; rfl
    have q3 : ops3[2]? = some p3 := by rw [← Array.getElem?_toList, hops3]; rfl
    have q4 : ops3[3]? = some p4 := by rw [← Array.getElem?_toList, hops3]; rfl
    rw [hsize3, show List.range 4 = [0, 1, 2, 3] from rfl, wpOps_cons]
    refine wpOp_mono ?_ (empty_wpOp q1 m1 hz i3)
    rintro a4 w4 ⟨g4, ow4, n4, i4⟩
    have e4 : ([x, .tup [], .nils, x.shr0, .bool false, .tup [], .tup [], .tup []] : List TV).set 5 .nils = [x, .tup [], .nils, x.shr0, .bool false, .nils, .tup [], .tup []] := rfl
    rw [e4] at i4
    rw [wpOps_cons]
    refine wpOp_mono ?_ (step_wpOp noCall_sound noCall_ord q2 m2 i4 (st' := ⟨[x, .tup [], .nils, x.shr0, .bool false, .nils, x.shr0, .tup []], h, h.length, false⟩) (by
      simp only [step, dlt, wanted, delta]
      rw [tak_plain (by simpa [sl] using sx3)]
      simp [sl, sx1, okD, lbT, sx5, Dl.ap, Dl.slots]))
    rintro a5 w5 ⟨g5, ow5, n5, i5⟩
    rw [wpOps_cons]
    have s15 := (s13.trans n4 (Nat.le_refl _)).trans n5 (Nat.le_refl _)
    have hsh : x.shr0.shrT = x.shr0 := by
      rw [(shr0_els sx2).1]
      exact (by cases x <;> rfl : x.shr0.shr0 = x.shr0)
    have hstep : step noCall ⟨some 7, .apr ag sz bytes (.s 5) (.s 6), none⟩ ⟨[x, .tup [], .nils, x.shr0, .bool false, .nils, x.shr0, .tup []], h, h.length, false⟩ = some ⟨[x, .tup [], .nils, x.shr0, .bool false, .sl .shr [], x.shr0, r.r], r.h, h.length, false⟩ := by
      have hev : ev [x, .tup [], .nils, x.shr0, .bool false, .nils, x.shr0, .tup []] (.s 6) = some x.shr0 := by
        rw [ev_plain (by simpa [sl] using (shr0_els sx2).2.2.1)]
        simp [sl, hsh]
      have hsrc : srcS h sz (some x.shr0) = some l := by
        cases x <;> first | (simp [elS] at hl; done) | exact sx2
      simp only [step, dlt, wanted, delta, hev, hsrc]
      rw [tak_plain (by simp [sl, plainV])]
      split at hr
      · rename_i hl0
        obtain rfl := Option.some.inj hr
        simp [sl, okD, isLb, hw, hb, hb2, hl0, Dl.ap, Dl.slots, TV.shrT, TV.shrA, TV.shr0]
      · rename_i hl0
        obtain rfl := Option.some.inj hr
        have hl1 : ¬ l = [] := fun h => hl0 (by rw [h]; rfl)
        simp [sl, okD, isLb, hw, hb, hb2, hl1, Dl.ap, Dl.slots, TV.shrT, TV.shrA, TV.shr0]
    refine wpOp_mono ?_ (step_wpOp noCall_sound noCall_ord q3 m3 i5 hstep)
    rintro a6 w6 ⟨g6, ow6, n6, i6⟩
    rw [wpOps_cons]
    have hrp : plainV r.r = true ∧ isLb r.r = false := by
      split at hr <;> (obtain rfl := Option.some.inj hr; exact ⟨rfl, rfl⟩)
    have hstep4 : ∃ t4, step noCall ⟨some 2, .mv true (.s 7), none⟩ ⟨[x, .tup [], .nils, x.shr0, .bool false, .sl .shr [], x.shr0, r.r], r.h, h.length, false⟩ = some ⟨t4, r.h, h.length, false⟩ ∧ sl t4 2 = r.r := by
      simp only [step, dlt, wanted, delta]
      rw [tak_plain (by simpa [sl] using hrp.1)]
      simp [sl, okD, lbN, hrp.2, Dl.ap, Dl.slots]
    obtain ⟨t4, hs4, ht4⟩ := hstep4
    refine wpOp_mono ?_ (step_wpOp noCall_sound noCall_ord q4 m4 i6 hs4)
    rintro a7 w7 ⟨g7, ow7, n7, i7⟩
    simp only [wpOps]
    show (Code.ret).wp P _ a7 w7
    refine wp_ret ?_
    exact fin _ _ _ rfl rfl ht4 rfl ⟨g7, ow7, (s15.trans n6 (Nat.le_refl _)).trans n7 hlen, i7⟩
end
theorem cloneC_ord {ag : Bool} {sz bytes f : Nat} {as : List TV} {h : Heap} {r : Ret} (hr : cloneC ag sz bytes f as h = some r) : h.length ≤ r.h.length ∧ (r.kp = false → HOrd h r.h) := by
  unfold cloneC at hr
  split at hr
  · split at hr
    · split at hr
      · split at hr
        · obtain rfl := Option.some.inj hr
          exact ⟨Nat.le_refl _, fun _ => .refl _⟩
        · obtain rfl := Option.some.inj hr
          exact ⟨by simp, fun _ => .app _ _⟩
      · cases hr
    · cases hr
  · cases hr
/-- Functions whose answers a proof by hand gives, one by one. -/
structure ExtOne (P : Program) (f : Nat) (c : CallF) : Prop where
  ord : ∀ as h r, c f as h = some r → h.length ≤ r.h.length ∧ (r.kp = false → HOrd h r.h)
  snd : ∀ as h r, c f as h = some r → CallAt P f as h r
theorem ExtOne.clone {P : Program} {f : Nat} {ag : Bool} {sz bytes : Nat} (hk : chkClone P f ag sz bytes = true) : ExtOne P f (cloneC ag sz bytes) :=
  ⟨fun _ _ _ h => cloneC_ord h, fun _ _ _ h => clone_at hk h⟩
end Go.T
/- A row's arguments, opened: numbers, flags, texts, slices of them and of structs of them. -/
set_option linter.unusedVariables false
set_option linter.unusedSimpArgs false
set_option maxRecDepth 10000
namespace Go.T
open Go.RowKit
/-- The shape of a cell. -/
inductive Sh where
  | int (k : IntKind)
  | bool
  | str
  | sl (ag : Bool) (ss : List Sh)
mutual
def Sh.fits : Sh → TV → Prop
  | .int k, x => ∃ n, (Lit.int k n).wf = true ∧ x = .int k n
  | .bool, x => ∃ b, x = .bool b
  | .str, x => ∃ s : ByteArray, s.size ≤ 9223372036854775807 ∧ x = .str s
  | .sl ag ss, x => ∃ l : List TV, l.length ≤ 9223372036854775807 ∧ x = .sl .shr l ∧ ∀ e ∈ l, ∃ cs, Sh.fitss ss cs ∧ cs.length = ss.length ∧ (if ag then e = .agg cs else cs = [e])
def Sh.fitss : List Sh → List TV → Prop
  | [], xs => xs = []
  | s :: ss, xs => ∃ x xs', xs = x :: xs' ∧ Sh.fits s x ∧ Sh.fitss ss xs'
end
theorem Sh.fits_elt {s : Sh} {x : TV} (h : s.fits x) : x.isElt = true := by
  cases s <;> simp only [Sh.fits] at h
  · obtain ⟨n, _, rfl⟩ := h; rfl
  · obtain ⟨n, rfl⟩ := h; rfl
  · obtain ⟨n, _, rfl⟩ := h; rfl
  · obtain ⟨n, _, rfl, _⟩ := h; rfl
theorem Sh.fits_cells {s : Sh} {x : TV} (h : s.fits x) : x.cells = [x] := by
  cases s <;> simp only [Sh.fits] at h
  · obtain ⟨n, _, rfl⟩ := h; rfl
  · obtain ⟨n, rfl⟩ := h; rfl
  · obtain ⟨n, _, rfl⟩ := h; rfl
  · obtain ⟨n, _, rfl, _⟩ := h; rfl
theorem Sh.fitss_len {ss : List Sh} {xs : List TV} (h : Sh.fitss ss xs) : xs.length = ss.length := by
  induction ss generalizing xs with
  | nil => simp only [Sh.fitss] at h; subst h; rfl
  | cons s ss ih =>
    simp only [Sh.fitss] at h
    obtain ⟨x, xs', rfl, _, h⟩ := h
    simp [ih h]
theorem Sh.fitss_app {ss ss' : List Sh} {xs xs' : List TV} (h : Sh.fitss ss xs) (h' : Sh.fitss ss' xs') : Sh.fitss (ss ++ ss') (xs ++ xs') := by
  induction ss generalizing xs with
  | nil => simp only [Sh.fitss] at h; subst h; exact h'
  | cons s ss ih =>
    simp only [Sh.fitss] at h
    obtain ⟨x, ys, rfl, h1, h⟩ := h
    simp only [List.cons_append, Sh.fitss]
    exact ⟨x, ys ++ xs', rfl, h1, ih h⟩
theorem Sh.fitss_get {ss : List Sh} {xs : List TV} (h : Sh.fitss ss xs) {j : Nat} {x : TV} (hx : xs[j]? = some x) : ∃ s : Sh, s.fits x := by
  induction ss generalizing xs j with
  | nil => simp only [Sh.fitss] at h; subst h; simp at hx
  | cons s ss ih =>
    simp only [Sh.fitss] at h
    obtain ⟨y, ys, rfl, h1, h⟩ := h
    cases j with
    | zero => simp at hx; subst hx; exact ⟨s, h1⟩
    | succ j => exact ih (j := j) h (by simpa using hx)
def shFs (P : Program) (rec : TypeId → Option (List Sh)) : List Field → Nat → Option (List Sh)
  | [], _ => some []
  | f :: fs, off => if f.offset = off then match rec f.type with
      | some a => if a.length = P.cellsOf f.type then match shFs P rec fs (off + a.length) with
          | some b => some (a ++ b)
          | none => none
        else none
      | none => none
    else none
/-- A type's cells. -/
def shOf (P : Program) : Nat → TypeId → Option (List Sh)
  | 0, _ => none
  | n + 1, t => match P.underlying t with
    | some .bool => some [.bool]
    | some (.int k) => some [.int k]
    | some .string => some [.str]
    | some (.slice e) => match shOf P n e with
      | some ss => if ss.length = P.cellsOf e ∧ 0 < ss.length then match P.underlying e with
          | some (.struct _) => some [.sl true ss]
          | _ => if ss.length = 1 then some [.sl false ss] else none
        else none
      | none => none
    | some (.struct fs) => match shFs P (shOf P n) fs.toList 0 with
      | some ss => if ss.length = P.cellsOf t then some ss else none
      | none => none
    | _ => none
variable {H : Type} {enc : TypeId × Value → H} {P : Program} {w : World} {base : Nat} {held : Bool}
/-- Cells, opened. -/
def Opn (w : World) (ss : List Sh) (cs : List Value) : Prop :=
  ∃ xs, Sh.fitss ss xs ∧ xs.length = cs.length ∧ ∀ (j : Nat) (x : TV) (v : Value), xs[j]? = some x → cs[j]? = some v → VR w (gOf w) 0 x v
theorem Opn.one {s : Sh} {x : TV} {v : Value} (h : s.fits x) (hv : VR w (gOf w) 0 x v) : Opn w [s] [v] := by
  refine ⟨[x], by simp only [Sh.fitss]; exact ⟨x, [], rfl, h, rfl⟩, rfl, fun j y u hj hu => ?_⟩
  cases j with
  | zero => simp at hj hu; subst hj; subst hu; exact hv
  | succ j => simp at hj
theorem Opn.app {ss ss' : List Sh} {cs cs' : List Value} (h : Opn w ss cs) (h' : Opn w ss' cs') : Opn w (ss ++ ss') (cs ++ cs') := by
  obtain ⟨xs, a1, a2, a3⟩ := h
  obtain ⟨ys, b1, b2, b3⟩ := h'
  refine ⟨xs ++ ys, Sh.fitss_app a1 b1, by simp [a2, b2], fun j x v hj hv => ?_⟩
  by_cases hlt : j < xs.length
  · rw [List.getElem?_append_left hlt] at hj
    rw [List.getElem?_append_left (by omega)] at hv
    exact a3 j x v hj hv
  · rw [List.getElem?_append_right (by omega)] at hj
    rw [List.getElem?_append_right (by omega)] at hv
    rw [a2] at hj
    exact b3 _ x v hj hv
theorem opened_fields {rec : TypeId → Option (List Sh)} {cs : List Value} {fs : List Field} (h : ∀ f ∈ fs, ∀ ss, rec f.type = some ss → ss.length = P.cellsOf f.type → Opn w ss ((cs.drop f.offset).take (P.cellsOf f.type))) :
    ∀ off ss, shFs P rec fs off = some ss → Opn w ss ((cs.drop off).take ss.length) := by
  induction fs with
  | nil =>
    intro off ss hs
    simp only [shFs] at hs
    cases hs
    exact ⟨[], rfl, by simp, by simp⟩
  | cons f fs ih =>
    intro off ss hs
    simp only [shFs] at hs
    split at hs
    · rename_i ho
      split at hs
      · rename_i a ha
        split at hs
        · rename_i hl
          split at hs
          · rename_i b hb
            cases hs
            have h1 := h f (by simp) a ha hl
            have h2 := ih (fun g hg => h g (by simp [hg])) _ _ hb
            have := h1.app h2
            rw [ho, ← hl] at this
            rw [List.length_append, List.take_add, List.drop_drop]
            exact this
          · cases hs
        · cases hs
      · cases hs
    · cases hs
theorem opened : ∀ (n : Nat) (t : TypeId) (ss : List Sh) (cs : List Value) (x : DataW H × List MemPlace) (fuel : Nat), shOf P n t = some ss → DataW.trod enc P w base (fun _ => true) held fuel t cs = some x → Opn w ss cs := by
  intro n
  induction n with
  | zero => intro t ss cs x fuel h; simp [shOf] at h
  | succ n ih =>
    intro t ss cs x fuel h hd
    simp only [shOf] at h
    split at h
    · rename_i hu; cases h
      obtain ⟨b, rfl, _⟩ := DataW.trod_bool hu hd
      exact .one (by simp only [Sh.fits]; exact ⟨b, rfl⟩) (.bool b)
    · rename_i k hu; cases h
      obtain ⟨m, rfl, _, hw⟩ := DataW.trod_int hu hd
      exact .one (by simp only [Sh.fits]; exact ⟨m, hw, rfl⟩) (.int k m)
    · rename_i hu; cases h
      obtain ⟨s, rfl, _, hs⟩ := DataW.trod_string hu hd
      exact .one (by simp only [Sh.fits]; exact ⟨s, by unfold maxLen at hs; omega, rfl⟩) (.str s)
    · rename_i e hu
      split at h
      · rename_i ss' he
        split at h
        · rename_i hl
          obtain ⟨hl, hpos⟩ := hl
          obtain ⟨ag, rfl, hag⟩ : ∃ ag, ss = [.sl ag ss'] ∧ (ag = true ∨ ss'.length = 1) := by
            split at h
            · cases h; exact ⟨true, rfl, .inl rfl⟩
            · split at h
              · cases h; exact ⟨false, rfl, .inr (by assumption)⟩
              · cases h
          rcases DataW.trod_slice hu hd with ⟨rfl, _⟩ | ⟨a, len, cap, elems, rest, m, _, rfl, _, hb, hlc, hm, hel, hes, hsp, _⟩
          · refine .one (x := .sl .shr []) (by simp only [Sh.fits]; exact ⟨[], by simp, rfl, by simp⟩) ?_
            exact .sl .shr [] none 0 1 (fun _ _ => undef) (by decide) (by simp) (by simp) (by simp) (fun _ => rfl) (by simp) (by simp) (by simp)
          · obtain ⟨hrl, hrs⟩ := hsp rfl
            have hall : ∀ i, i < cap → ∃ cs', w.cells? base (a.add (i * P.cellsOf e)) (P.cellsOf e) = some cs' ∧ ∃ y, DataW.trod enc P w base (fun _ => true) held m e cs' = some y := by
              intro i hi
              by_cases hil : i < len
              · have h1 := hes i hil
                rw [List.getElem?_eq_getElem (by omega)] at h1
                obtain ⟨cs', h2, h3⟩ := Option.bind_eq_some_iff.1 h1
                exact ⟨cs', h2, _, h3⟩
              · have h1 := hrs (i - len) (by omega)
                rw [List.getElem?_eq_getElem (by omega), show len + (i - len) = i by omega] at h1
                obtain ⟨cs', h2, h3⟩ := Option.bind_eq_some_iff.1 h1
                exact ⟨cs', h2, _, h3⟩
            have hspot : 0 < cap → a.spot = none := by
              intro hc
              obtain ⟨cs', h2, _⟩ := hall 0 hc
              obtain ⟨_, h3, h4⟩ := World.cells?_some h2
              have h5 := h4 0 (by omega)
              rw [List.getElem?_eq_getElem (by omega)] at h5
              simp [Addr.add] at h5
              unfold World.cell? at h5
              split at h5
              · split at h5
                · cases h5
                · rename_i hh; simpa using hh
              · cases h5
            have hopn : ∀ i, i < len → ∃ xs : List TV, Sh.fitss ss' xs ∧ xs.length = P.cellsOf e ∧ ∀ (j : Nat) (x : TV), xs[j]? = some x → ∃ v, w.cell? (at_ a.block (a.off + (i * P.cellsOf e + j))) = some v ∧ VR w (gOf w) 0 x v := by
              intro i hi
              obtain ⟨cs', h2, y, h3⟩ := hall i (by omega)
              obtain ⟨xs, g1, g2, g3⟩ := ih e ss' cs' y m he h3
              obtain ⟨_, k1, k2⟩ := World.cells?_some h2
              refine ⟨xs, g1, by omega, fun j x hj => ?_⟩
              have hjl : j < P.cellsOf e := by have := (List.getElem?_eq_some_iff.1 hj).1; omega
              have h6 := k2 j hjl
              rw [List.getElem?_eq_getElem (by omega)] at h6
              have hs := hspot (by omega)
              refine ⟨_, ?_, g3 j x _ hj (List.getElem?_eq_getElem (by omega))⟩
              obtain ⟨b, o, sp⟩ := a
              simp only at hs
              subst hs
              rw [show (⟨b, o, none⟩ : Addr) = at_ b o from rfl, at_add, at_add] at h6
              rw [← h6]
              simp [Nat.add_assoc]
            let f : Nat → List TV := fun i => if hi : i < len then Classical.choose (hopn i hi) else []
            have hf : ∀ i, i < len → Sh.fitss ss' (f i) ∧ (f i).length = P.cellsOf e ∧ ∀ (j : Nat) (x : TV), (f i)[j]? = some x → ∃ v, w.cell? (at_ a.block (a.off + (i * P.cellsOf e + j))) = some v ∧ VR w (gOf w) 0 x v := by
              intro i hi
              simp only [f, hi, dite_true]
              exact Classical.choose_spec (hopn i hi)
            let el : Nat → TV := fun i => if ag = true then .agg (f i) else (f i).headD .junk
            have hel2 : ∀ i, i < len → (el i).cells = f i ∧ (if ag then el i = .agg (f i) else f i = [el i]) := by
              intro i hi
              obtain ⟨f1, f2, _⟩ := hf i hi
              cases ag with
              | true => exact ⟨rfl, rfl⟩
              | false =>
                rcases hag with hag | hag
                · cases hag
                · have : (f i).length = 1 := by omega
                  match hfi : f i, this with
                  | [y], _ =>
                    have he1 : el i = y := by simp [el, hfi]
                    obtain ⟨s, hs⟩ := Sh.fitss_get f1 (j := 0) (x := y) (by rw [hfi]; rfl)
                    rw [he1, Sh.fits_cells hs]
                    exact ⟨rfl, rfl⟩
            have hlen0 : ((List.range len).map el).length = len := by simp
            have hget : ∀ (i : Nat) (e' : TV), ((List.range len).map el)[i]? = some e' → i < len ∧ e' = el i := by
              intro i e' hi
              have hil : i < len := by have := (List.getElem?_eq_some_iff.1 hi).1; omega
              rw [List.getElem?_map, List.getElem?_range hil] at hi
              exact ⟨hil, by simpa using hi.symm⟩
            refine .one (x := .sl .shr ((List.range len).map el)) ?_ ?_
            · simp only [Sh.fits]
              refine ⟨_, by rw [hlen0]; unfold maxLen at hm; omega, rfl, fun e' he' => ?_⟩
              obtain ⟨i, hi⟩ := List.getElem?_of_mem he'
              obtain ⟨hil, rfl⟩ := hget i e' hi
              exact ⟨f i, (hf i hil).1, by rw [(hf i hil).2.1, hl], (hel2 i hil).2⟩
            · have := VR.sl (w := w) (g := gOf w) (m := 0) .shr ((List.range len).map el) (some a) cap (P.cellsOf e) (fun i j => (w.cell? (at_ a.block (a.off + (i * P.cellsOf e + j)))).getD undef) (by omega) (by rw [hlen0]; exact hlc) (by rw [hlen0]; unfold maxLen at hm; omega)
                (fun ad had hc => by cases had; exact hspot hc) (by simp) (fun e' he' => by
                  obtain ⟨i, hi⟩ := List.getElem?_of_mem he'
                  obtain ⟨hil, rfl⟩ := hget i e' hi
                  rw [(hel2 i hil).1, (hf i hil).2.1]) (fun ad i e' j x had hi hj => by
                  cases had
                  obtain ⟨hil, rfl⟩ := hget i e' hi
                  rw [(hel2 i hil).1] at hj
                  obtain ⟨v, hv, _⟩ := (hf i hil).2.2 j x hj
                  obtain ⟨s, hs⟩ := Sh.fitss_get (hf i hil).1 hj
                  exact ⟨Sh.fits_elt hs, gOf_lt hv, by rw [hv]; rfl⟩) (fun i e' j x hi hj => by
                  obtain ⟨hil, rfl⟩ := hget i e' hi
                  rw [(hel2 i hil).1] at hj
                  obtain ⟨v, hv, hvr⟩ := (hf i hil).2.2 j x hj
                  simp only [hv, Option.getD_some]
                  exact hvr)
              rw [hlen0] at this
              exact this
        · cases h
      · cases h
    · rename_i fs hu
      split at h
      · rename_i ss' hss
        split at h
        · rename_i hl
          cases h
          obtain ⟨ys, m, _, _, hcl, hyl, hfs⟩ := DataW.trod_struct hu hd
          have := opened_fields (P := P) (w := w) (rec := shOf P n) (cs := cs) (fs := fs.toList) (fun f hf ss hs hsl => by
            obtain ⟨i, hi⟩ := List.getElem?_of_mem hf
            rw [Array.getElem?_toList] at hi
            have h1 := hfs i f hi
            rw [List.getElem?_eq_getElem (by rw [hyl]; exact (Array.getElem?_eq_some_iff.1 hi).1)] at h1
            exact ih f.type ss _ _ m hs h1) 0 _ hss
          rw [List.drop_zero, List.take_of_length_le (by omega)] at this
          exact this
        · cases h
      · cases h
    · cases h
/-- An argument, opened. -/
theorem arg_open {n : Nat} {t : TypeId} {s : Sh} {v : Value} {d : DataW H} {p : List MemPlace} (hs : shOf P n t = some [s]) (hv : v.cells.toList = [v]) (h : DataW.Trod enc P w base (fun _ => true) held t v d p) : ∃ x, s.fits x ∧ ArgR w x v := by
  obtain ⟨fuel, hf⟩ := h
  rw [hv] at hf
  obtain ⟨xs, h1, h2, h3⟩ := opened n t _ _ _ fuel hs hf
  simp only [Sh.fitss] at h1
  obtain ⟨x, xs', rfl, h4, rfl⟩ := h1
  have h5 := h3 0 x v rfl rfl
  have he := Sh.fits_elt h4
  have hc := isElt_isCell he
  refine ⟨x, h4, ?_, h5, fun ow q => owns_cell hc ?_⟩
  · cases x <;> first | rfl | simp [TV.isCell] at hc
  · cases x <;> first | rfl | (rename_i tg l; cases tg <;> first | rfl | simp [TV.isElt] at he)
theorem list_map_of {α : Type} {f : α → TV} {L : List TV} (h : ∀ e ∈ L, ∃ a, e = f a) : ∃ l : List α, L = l.map f := by
  induction L with
  | nil => exact ⟨[], rfl⟩
  | cons e L ih =>
    obtain ⟨a, rfl⟩ := h e (by simp)
    obtain ⟨l, rfl⟩ := ih (fun e he => h e (by simp [he]))
    exact ⟨a :: l, rfl⟩
/-- A slice of whatever, by its elements. -/
theorem Sh.sl_map {α : Type} {f : α → TV} {ag : Bool} {ss : List Sh} {x : TV} (h : (Sh.sl ag ss).fits x) (hf : ∀ e cs, Sh.fitss ss cs → (if ag then e = .agg cs else cs = [e]) → ∃ a, e = f a) :
    ∃ l : List α, l.length ≤ 9223372036854775807 ∧ x = .sl .shr (l.map f) := by
  simp only [Sh.fits] at h
  obtain ⟨L, h1, rfl, h2⟩ := h
  obtain ⟨l, rfl⟩ := list_map_of (f := f) (fun e he => by
    obtain ⟨cs, h3, _, h4⟩ := h2 e he
    exact hf e cs h3 h4)
  exact ⟨l, by simpa using h1, rfl⟩
theorem Sh.fitss_one {s : Sh} {cs : List TV} (h : Sh.fitss [s] cs) : ∃ x, cs = [x] ∧ s.fits x := by
  simp only [Sh.fitss] at h
  obtain ⟨x, xs, rfl, h1, rfl⟩ := h
  exact ⟨x, rfl, h1⟩
theorem Sh.bytes {x : TV} (h : (Sh.sl false [.int .u8]).fits x) : ∃ b : List UInt8, b.length ≤ 9223372036854775807 ∧ x = .sl .shr (b.map fun c => .int .u8 c.toNat) := by
  refine Sh.sl_map h fun e cs h1 h2 => ?_
  obtain ⟨x, rfl, h3⟩ := Sh.fitss_one h1
  simp at h2
  subst h2
  simp only [Sh.fits] at h3
  obtain ⟨n, hn, rfl⟩ := h3
  simp only [Lit.wf, Bool.and_eq_true, decide_eq_true_eq] at hn
  have h4 : 0 ≤ n ∧ n ≤ 255 := hn
  refine ⟨UInt8.ofNat n.toNat, ?_⟩
  simp
  omega
theorem Sh.nums {k : IntKind} {x : TV} (h : (Sh.sl false [.int k]).fits x) : ∃ l : List Int, l.length ≤ 9223372036854775807 ∧ x = .sl .shr (l.map (.int k)) := by
  refine Sh.sl_map h fun e cs h1 h2 => ?_
  obtain ⟨x, rfl, h3⟩ := Sh.fitss_one h1
  simp at h2
  subst h2
  simp only [Sh.fits] at h3
  obtain ⟨n, hn, rfl⟩ := h3
  exact ⟨n, rfl⟩
theorem callT_sound {P : Program} {tab : Nat → Option TF} {ext : Nat → Option CallF} (ht : TabSound P tab) (he : ExtOrd ext) (hx : ExtSound P ext) : CallSound P (callT tab ext) := by
  intro f as h r hr
  obtain ⟨n, hn⟩ := (callT_iff tab ext).1 hr
  exact sound ht he hx n f as h r hn
theorem glue1 {P : Program} {call : CallF} (hcs : CallSound P call) {f : Nat} {x0 : TV} {v0 : Value} {W : World} {b kp : Bool} (h : call f [x0] [] = some ⟨.bool b, [], kp⟩) (h0 : ArgR W x0 v0) : Calls P f #[v0] W (fun e W' => e = .returned (.bool b) ∧ Below W.heap.size W W') :=
  glue hcs h rfl fun k x v hx hv => by
    match k with
    | 0 => simp at hx hv; subst hx; subst hv; exact h0
    | k + 1 => simp at hx
theorem glue2 {P : Program} {call : CallF} (hcs : CallSound P call) {f : Nat} {x0 x1 : TV} {v0 v1 : Value} {W : World} {b kp : Bool} (h : call f [x0, x1] [] = some ⟨.bool b, [], kp⟩) (h0 : ArgR W x0 v0) (h1 : ArgR W x1 v1) : Calls P f #[v0, v1] W (fun e W' => e = .returned (.bool b) ∧ Below W.heap.size W W') :=
  glue hcs h rfl fun k x v hx hv => by
    match k with
    | 0 => simp at hx hv; subst hx; subst hv; exact h0
    | 1 => simp at hx hv; subst hx; subst hv; exact h1
    | k + 2 => simp at hx
theorem glue3 {P : Program} {call : CallF} (hcs : CallSound P call) {f : Nat} {x0 x1 x2 : TV} {v0 v1 v2 : Value} {W : World} {b kp : Bool} (h : call f [x0, x1, x2] [] = some ⟨.bool b, [], kp⟩) (h0 : ArgR W x0 v0) (h1 : ArgR W x1 v1) (h2 : ArgR W x2 v2) : Calls P f #[v0, v1, v2] W (fun e W' => e = .returned (.bool b) ∧ Below W.heap.size W W') :=
  glue hcs h rfl fun k x v hx hv => by
    match k with
    | 0 => simp at hx hv; subst hx; subst hv; exact h0
    | 1 => simp at hx hv; subst hx; subst hv; exact h1
    | 2 => simp at hx hv; subst hx; subst hv; exact h2
    | k + 3 => simp at hx
theorem glue4 {P : Program} {call : CallF} (hcs : CallSound P call) {f : Nat} {x0 x1 x2 x3 : TV} {v0 v1 v2 v3 : Value} {W : World} {b kp : Bool} (h : call f [x0, x1, x2, x3] [] = some ⟨.bool b, [], kp⟩) (h0 : ArgR W x0 v0) (h1 : ArgR W x1 v1) (h2 : ArgR W x2 v2) (h3 : ArgR W x3 v3) : Calls P f #[v0, v1, v2, v3] W (fun e W' => e = .returned (.bool b) ∧ Below W.heap.size W W') :=
  glue hcs h rfl fun k x v hx hv => by
    match k with
    | 0 => simp at hx hv; subst hx; subst hv; exact h0
    | 1 => simp at hx hv; subst hx; subst hv; exact h1
    | 2 => simp at hx hv; subst hx; subst hv; exact h2
    | 3 => simp at hx hv; subst hx; subst hv; exact h3
    | k + 4 => simp at hx
end Go.T
/- A row's arguments that are structs, opened. -/
set_option linter.unusedVariables false
set_option linter.unusedSimpArgs false
set_option maxRecDepth 10000
namespace Go.T
open Go.RowKit
variable {P : Program} {W : World}
/-- An argument that is a struct, opened. -/
theorem arg_open_agg {H : Type} {enc : TypeId × Value → H} {base : Nat} {held : Bool} {n : Nat} {t : TypeId} {ss : List Sh} {cs : Array Value} {d : DataW H} {p : List MemPlace} (hs : shOf P n t = some ss) (h : DataW.Trod enc P W base (fun _ => true) held t (.agg cs) d p) : ∃ xs, Sh.fitss ss xs ∧ ArgR W (.agg xs) (.agg cs) := by
  obtain ⟨fuel, hf⟩ := h
  obtain ⟨xs, h1, h2, h3⟩ := opened n t _ _ _ fuel hs hf
  have hc : ∀ x ∈ xs, x.isCell = true ∧ x.noOwn = true := by
    intro x hx
    obtain ⟨j, hj⟩ := List.getElem?_of_mem hx
    obtain ⟨s, hs⟩ := Sh.fitss_get h1 hj
    have he := Sh.fits_elt hs
    refine ⟨isElt_isCell he, ?_⟩
    cases x <;> first | rfl | (rename_i tg l; cases tg <;> first | rfl | simp [TV.isElt] at he)
  have hlen : xs.length = cs.size := by rw [h2]; simp [Value.cells]
  refine ⟨xs, h1, ?_, ?_, fun ow q => owns_agg hc⟩
  · simp only [argOk, List.all_eq_true]
    exact fun x hx => (hc x hx).1
  · refine VR.agg xs cs hlen (fun j x v hx _ => (hc x (List.mem_of_getElem? hx)).1) fun j x v hx hv => ?_
    exact h3 j x v hx (by simpa [Value.cells] using hv)
theorem Sh.fitss_cons {s : Sh} {ss : List Sh} {cs : List TV} (h : Sh.fitss (s :: ss) cs) : ∃ x xs, cs = x :: xs ∧ s.fits x ∧ Sh.fitss ss xs := by
  simpa only [Sh.fitss] using h
theorem Sh.fitss_nil {cs : List TV} (h : Sh.fitss [] cs) : cs = [] := by
  simpa only [Sh.fitss] using h
end Go.T
/- What runs of the small machine need, beside its equations. -/
set_option linter.unusedVariables false
set_option linter.unusedSimpArgs false
set_option maxRecDepth 10000
namespace Go.T
mutual
theorem TV.beq_refl : ∀ (v : TV), TV.beq v v = true
  | .bool a => by simp [TV.beq]
  | .int k n => by simp [TV.beq]
  | .str a => by simp [TV.beq]
  | .ptr i o => by simp [TV.beq]
  | .nilp => rfl
  | .nils => rfl
  | .nilf => rfl
  | .junk => rfl
  | .lp i o => by simp [TV.beq]
  | .asl a s i o n => by simp [TV.beq]
  | .cp l => by simp only [TV.beq]; exact TV.beqs_refl l
  | .lbox l => by simp only [TV.beq]; exact TV.beqs_refl l
  | .agg l => by simp only [TV.beq]; exact TV.beqs_refl l
  | .tup l => by simp only [TV.beq]; exact TV.beqs_refl l
  | .sl g l => by simp [TV.beq, TV.beqs_refl l]
  | .fn f l => by simp [TV.beq, TV.beqs_refl l]
theorem TV.beqs_refl : ∀ (l : List TV), TV.beqs l l = true
  | [] => rfl
  | a :: l => by simp [TV.beqs, TV.beq_refl a, TV.beqs_refl l]
end
theorem Heap_beq_refl (h : Heap) : Heap.beq h h = true := by
  induction h with
  | nil => rfl
  | cons a h ih => simp [Heap.beq, TV.beqs_refl a, ih]
theorem live_zero {cs : List TV} {h : Heap} : live (cs :: h) 0 = if dead cs = true then none else some cs := rfl
theorem live_succ {cs : List TV} {h : Heap} {i : Nat} : live (cs :: h) (i + 1) = live h i := rfl
theorem live_lt {h : Heap} {i : Nat} {cs : List TV} (hl : live h i = some cs) : i < h.length := (List.getElem?_eq_some_iff.1 (live_some hl).1).1
theorem live_set_eq {h : Heap} {i : Nat} {cs : List TV} (hi : i < h.length) (hd : dead cs = false) : live (h.set i cs) i = some cs := by
  unfold live
  rw [List.getElem?_set_self hi]
  simp [hd]
theorem live_set_ne {h : Heap} {i j : Nat} {cs : List TV} (hij : i ≠ j) : live (h.set i cs) j = live h j := by
  unfold live
  rw [List.getElem?_set_ne hij]
theorem live_app_lt {h : Heap} {x : List TV} {i : Nat} (hi : i < h.length) : live (h ++ [x]) i = live h i := by
  unfold live
  rw [List.getElem?_append_left hi]
theorem live_app_eq {h : Heap} {x : List TV} (hd : dead x = false) : live (h ++ [x]) h.length = some x := by
  unfold live
  rw [List.getElem?_append_right (Nat.le_refl _)]
  simp [hd]
theorem set_same {h : Heap} {i : Nat} {cs : List TV} (hl : live h i = some cs) : h.set i cs = h := by
  have h1 := (live_some hl).1
  apply List.ext_getElem?
  intro j
  rw [List.getElem?_set]
  split
  · rename_i hij
    subst hij
    rw [if_pos (List.getElem?_eq_some_iff.1 h1).1, h1]
  · rfl
theorem dead_two {a b : TV} {l : List TV} : dead (a :: b :: l) = false := by
  unfold dead
  split
  · rename_i h; cases h
  · rfl
theorem z_shr0_bool (b : Bool) : TV.shr0 (TV.bool b) = (TV.bool b) := rfl
theorem z_shrK_bool (b : Bool) : TV.shrK (TV.bool b) = (TV.bool b) := rfl
theorem z_shrKA_bool (b : Bool) : TV.shrKA (TV.bool b) = (TV.bool b) := rfl
theorem z_shrA_bool (b : Bool) : TV.shrA (TV.bool b) = (TV.bool b) := rfl
theorem z_shrT_bool (b : Bool) : TV.shrT (TV.bool b) = (TV.bool b) := rfl
theorem z_lb_bool (b : Bool) : isLb (TV.bool b) = false := rfl
theorem z_ao_bool (b : Bool) : argOk (TV.bool b) = true := rfl
theorem z_ic_bool (b : Bool) : TV.isCell (TV.bool b) = true := rfl
theorem z_cells_bool (b : Bool) : TV.cells (TV.bool b) = [(TV.bool b)] := rfl
theorem z_ie_bool (b : Bool) : TV.isElt (TV.bool b) = true := rfl
theorem z_shr0_int (k : IntKind) (n : Int) : TV.shr0 (TV.int k n) = (TV.int k n) := rfl
theorem z_shrK_int (k : IntKind) (n : Int) : TV.shrK (TV.int k n) = (TV.int k n) := rfl
theorem z_shrKA_int (k : IntKind) (n : Int) : TV.shrKA (TV.int k n) = (TV.int k n) := rfl
theorem z_shrA_int (k : IntKind) (n : Int) : TV.shrA (TV.int k n) = (TV.int k n) := rfl
theorem z_shrT_int (k : IntKind) (n : Int) : TV.shrT (TV.int k n) = (TV.int k n) := rfl
theorem z_lb_int (k : IntKind) (n : Int) : isLb (TV.int k n) = false := rfl
theorem z_ao_int (k : IntKind) (n : Int) : argOk (TV.int k n) = true := rfl
theorem z_ic_int (k : IntKind) (n : Int) : TV.isCell (TV.int k n) = true := rfl
theorem z_cells_int (k : IntKind) (n : Int) : TV.cells (TV.int k n) = [(TV.int k n)] := rfl
theorem z_ie_int (k : IntKind) (n : Int) : TV.isElt (TV.int k n) = true := rfl
theorem z_shr0_str (s : ByteArray) : TV.shr0 (TV.str s) = (TV.str s) := rfl
theorem z_shrK_str (s : ByteArray) : TV.shrK (TV.str s) = (TV.str s) := rfl
theorem z_shrKA_str (s : ByteArray) : TV.shrKA (TV.str s) = (TV.str s) := rfl
theorem z_shrA_str (s : ByteArray) : TV.shrA (TV.str s) = (TV.str s) := rfl
theorem z_shrT_str (s : ByteArray) : TV.shrT (TV.str s) = (TV.str s) := rfl
theorem z_lb_str (s : ByteArray) : isLb (TV.str s) = false := rfl
theorem z_ao_str (s : ByteArray) : argOk (TV.str s) = true := rfl
theorem z_ic_str (s : ByteArray) : TV.isCell (TV.str s) = true := rfl
theorem z_cells_str (s : ByteArray) : TV.cells (TV.str s) = [(TV.str s)] := rfl
theorem z_ie_str (s : ByteArray) : TV.isElt (TV.str s) = true := rfl
theorem z_shr0_ptr (i o : Nat) : TV.shr0 (TV.ptr i o) = (TV.ptr i o) := rfl
theorem z_shrK_ptr (i o : Nat) : TV.shrK (TV.ptr i o) = (TV.ptr i o) := rfl
theorem z_shrKA_ptr (i o : Nat) : TV.shrKA (TV.ptr i o) = (TV.ptr i o) := rfl
theorem z_shrA_ptr (i o : Nat) : TV.shrA (TV.ptr i o) = (TV.ptr i o) := rfl
theorem z_shrT_ptr (i o : Nat) : TV.shrT (TV.ptr i o) = (TV.ptr i o) := rfl
theorem z_lb_ptr (i o : Nat) : isLb (TV.ptr i o) = false := rfl
theorem z_ao_ptr (i o : Nat) : argOk (TV.ptr i o) = true := rfl
theorem z_ic_ptr (i o : Nat) : TV.isCell (TV.ptr i o) = true := rfl
theorem z_cells_ptr (i o : Nat) : TV.cells (TV.ptr i o) = [(TV.ptr i o)] := rfl
theorem z_ie_ptr (i o : Nat) : TV.isElt (TV.ptr i o) = true := rfl
theorem z_shr0_nilp  : TV.shr0 TV.nilp = TV.nilp := rfl
theorem z_shrK_nilp  : TV.shrK TV.nilp = TV.nilp := rfl
theorem z_shrKA_nilp  : TV.shrKA TV.nilp = TV.nilp := rfl
theorem z_shrA_nilp  : TV.shrA TV.nilp = TV.nilp := rfl
theorem z_shrT_nilp  : TV.shrT TV.nilp = TV.nilp := rfl
theorem z_lb_nilp  : isLb TV.nilp = false := rfl
theorem z_ao_nilp  : argOk TV.nilp = true := rfl
theorem z_ic_nilp  : TV.isCell TV.nilp = true := rfl
theorem z_cells_nilp  : TV.cells TV.nilp = [TV.nilp] := rfl
theorem z_ie_nilp  : TV.isElt TV.nilp = true := rfl
theorem z_shr0_nils  : TV.shr0 TV.nils = .sl .shr [] := rfl
theorem z_shrK_nils  : TV.shrK TV.nils = TV.nils := rfl
theorem z_shrKA_nils  : TV.shrKA TV.nils = TV.nils := rfl
theorem z_shrA_nils  : TV.shrA TV.nils = .sl .shr [] := rfl
theorem z_shrT_nils  : TV.shrT TV.nils = .sl .shr [] := rfl
theorem z_lb_nils  : isLb TV.nils = false := rfl
theorem z_ao_nils  : argOk TV.nils = true := rfl
theorem z_ic_nils  : TV.isCell TV.nils = true := rfl
theorem z_cells_nils  : TV.cells TV.nils = [TV.nils] := rfl
theorem z_ie_nils  : TV.isElt TV.nils = true := rfl
theorem z_shr0_cp (l : List TV) : TV.shr0 (TV.cp l) = (TV.cp l) := rfl
theorem z_shrK_cp (l : List TV) : TV.shrK (TV.cp l) = (TV.cp l) := rfl
theorem z_shrKA_cp (l : List TV) : TV.shrKA (TV.cp l) = (TV.cp l) := rfl
theorem z_shrA_cp (l : List TV) : TV.shrA (TV.cp l) = (TV.cp l) := rfl
theorem z_shrT_cp (l : List TV) : TV.shrT (TV.cp l) = (TV.cp l) := rfl
theorem z_lb_cp (l : List TV) : isLb (TV.cp l) = false := rfl
theorem z_ao_cp (l : List TV) : argOk (TV.cp l) = true := rfl
theorem z_ic_cp (l : List TV) : TV.isCell (TV.cp l) = true := rfl
theorem z_cells_cp (l : List TV) : TV.cells (TV.cp l) = [(TV.cp l)] := rfl
theorem z_ie_cp (l : List TV) : TV.isElt (TV.cp l) = true := rfl
theorem z_shr0_sl (g : Tag) (l : List TV) : TV.shr0 (TV.sl g l) = .sl .shr l := rfl
theorem z_shrK_sl (g : Tag) (l : List TV) : TV.shrK (TV.sl g l) = .sl .shr l := rfl
theorem z_shrKA_sl (g : Tag) (l : List TV) : TV.shrKA (TV.sl g l) = .sl .shr l := rfl
theorem z_shrA_sl (g : Tag) (l : List TV) : TV.shrA (TV.sl g l) = .sl .shr l := rfl
theorem z_shrT_sl (g : Tag) (l : List TV) : TV.shrT (TV.sl g l) = .sl .shr l := rfl
theorem z_lb_sl (g : Tag) (l : List TV) : isLb (TV.sl g l) = false := rfl
theorem z_ao_sl (g : Tag) (l : List TV) : argOk (TV.sl g l) = true := rfl
theorem z_ic_sl (g : Tag) (l : List TV) : TV.isCell (TV.sl g l) = true := rfl
theorem z_cells_sl (g : Tag) (l : List TV) : TV.cells (TV.sl g l) = [(TV.sl g l)] := rfl
theorem z_shr0_asl (ag : Bool) (sz i o n : Nat) : TV.shr0 (TV.asl ag sz i o n) = (TV.asl ag sz i o n) := rfl
theorem z_shrK_asl (ag : Bool) (sz i o n : Nat) : TV.shrK (TV.asl ag sz i o n) = (TV.asl ag sz i o n) := rfl
theorem z_shrKA_asl (ag : Bool) (sz i o n : Nat) : TV.shrKA (TV.asl ag sz i o n) = (TV.asl ag sz i o n) := rfl
theorem z_shrA_asl (ag : Bool) (sz i o n : Nat) : TV.shrA (TV.asl ag sz i o n) = (TV.asl ag sz i o n) := rfl
theorem z_shrT_asl (ag : Bool) (sz i o n : Nat) : TV.shrT (TV.asl ag sz i o n) = (TV.asl ag sz i o n) := rfl
theorem z_lb_asl (ag : Bool) (sz i o n : Nat) : isLb (TV.asl ag sz i o n) = false := rfl
theorem z_ao_asl (ag : Bool) (sz i o n : Nat) : argOk (TV.asl ag sz i o n) = true := rfl
theorem z_ic_asl (ag : Bool) (sz i o n : Nat) : TV.isCell (TV.asl ag sz i o n) = true := rfl
theorem z_cells_asl (ag : Bool) (sz i o n : Nat) : TV.cells (TV.asl ag sz i o n) = [(TV.asl ag sz i o n)] := rfl
theorem z_shr0_fn (f : Nat) (l : List TV) : TV.shr0 (TV.fn f l) = (TV.fn f l) := rfl
theorem z_shrK_fn (f : Nat) (l : List TV) : TV.shrK (TV.fn f l) = (TV.fn f l) := rfl
theorem z_shrKA_fn (f : Nat) (l : List TV) : TV.shrKA (TV.fn f l) = (TV.fn f l) := rfl
theorem z_shrA_fn (f : Nat) (l : List TV) : TV.shrA (TV.fn f l) = (TV.fn f l) := rfl
theorem z_shrT_fn (f : Nat) (l : List TV) : TV.shrT (TV.fn f l) = (TV.fn f l) := rfl
theorem z_lb_fn (f : Nat) (l : List TV) : isLb (TV.fn f l) = false := rfl
theorem z_ao_fn (f : Nat) (l : List TV) : argOk (TV.fn f l) = true := rfl
theorem z_ic_fn (f : Nat) (l : List TV) : TV.isCell (TV.fn f l) = true := rfl
theorem z_cells_fn (f : Nat) (l : List TV) : TV.cells (TV.fn f l) = [(TV.fn f l)] := rfl
theorem z_ie_fn (f : Nat) (l : List TV) : TV.isElt (TV.fn f l) = true := rfl
theorem z_shr0_nilf  : TV.shr0 TV.nilf = TV.nilf := rfl
theorem z_shrK_nilf  : TV.shrK TV.nilf = TV.nilf := rfl
theorem z_shrKA_nilf  : TV.shrKA TV.nilf = TV.nilf := rfl
theorem z_shrA_nilf  : TV.shrA TV.nilf = TV.nilf := rfl
theorem z_shrT_nilf  : TV.shrT TV.nilf = TV.nilf := rfl
theorem z_lb_nilf  : isLb TV.nilf = false := rfl
theorem z_ao_nilf  : argOk TV.nilf = true := rfl
theorem z_ic_nilf  : TV.isCell TV.nilf = true := rfl
theorem z_cells_nilf  : TV.cells TV.nilf = [TV.nilf] := rfl
theorem z_ie_nilf  : TV.isElt TV.nilf = true := rfl
theorem z_shr0_agg (l : List TV) : TV.shr0 (TV.agg l) = (TV.agg l) := rfl
theorem z_shrK_agg (l : List TV) : TV.shrK (TV.agg l) = (TV.agg l) := rfl
theorem z_shrKA_agg (l : List TV) : TV.shrKA (TV.agg l) = .agg (l.map TV.shrK) := rfl
theorem z_shrA_agg (l : List TV) : TV.shrA (TV.agg l) = .agg (l.map TV.shr0) := rfl
theorem z_shrT_agg (l : List TV) : TV.shrT (TV.agg l) = .agg (l.map TV.shr0) := rfl
theorem z_lb_agg (l : List TV) : isLb (TV.agg l) = false := rfl
theorem z_ao_agg (l : List TV) : argOk (TV.agg l) = l.all TV.isCell := rfl
theorem z_ic_agg (l : List TV) : TV.isCell (TV.agg l) = false := rfl
theorem z_cells_agg (l : List TV) : TV.cells (TV.agg l) = l := rfl
theorem z_ie_agg (l : List TV) : TV.isElt (TV.agg l) = false := rfl
theorem z_shr0_tup (l : List TV) : TV.shr0 (TV.tup l) = (TV.tup l) := rfl
theorem z_shrK_tup (l : List TV) : TV.shrK (TV.tup l) = (TV.tup l) := rfl
theorem z_shrKA_tup (l : List TV) : TV.shrKA (TV.tup l) = .junk := rfl
theorem z_shrA_tup (l : List TV) : TV.shrA (TV.tup l) = (TV.tup l) := rfl
theorem z_shrT_tup (l : List TV) : TV.shrT (TV.tup l) = .tup (l.map TV.shrA) := rfl
theorem z_lb_tup (l : List TV) : isLb (TV.tup l) = false := rfl
theorem z_ao_tup (l : List TV) : argOk (TV.tup l) = false := rfl
theorem z_ic_tup (l : List TV) : TV.isCell (TV.tup l) = false := rfl
theorem z_cells_tup (l : List TV) : TV.cells (TV.tup l) = [(TV.tup l)] := rfl
theorem z_ie_tup (l : List TV) : TV.isElt (TV.tup l) = false := rfl
theorem z_shr0_junk  : TV.shr0 TV.junk = TV.junk := rfl
theorem z_shrK_junk  : TV.shrK TV.junk = TV.junk := rfl
theorem z_shrKA_junk  : TV.shrKA TV.junk = TV.junk := rfl
theorem z_shrA_junk  : TV.shrA TV.junk = TV.junk := rfl
theorem z_shrT_junk  : TV.shrT TV.junk = TV.junk := rfl
theorem z_lb_junk  : isLb TV.junk = false := rfl
theorem z_ao_junk  : argOk TV.junk = false := rfl
theorem z_ic_junk  : TV.isCell TV.junk = false := rfl
theorem z_cells_junk  : TV.cells TV.junk = [TV.junk] := rfl
theorem z_ie_junk  : TV.isElt TV.junk = false := rfl
theorem z_shr0_lp (i o : Nat) : TV.shr0 (TV.lp i o) = (TV.lp i o) := rfl
theorem z_shrK_lp (i o : Nat) : TV.shrK (TV.lp i o) = (TV.lp i o) := rfl
theorem z_shrKA_lp (i o : Nat) : TV.shrKA (TV.lp i o) = (TV.lp i o) := rfl
theorem z_shrA_lp (i o : Nat) : TV.shrA (TV.lp i o) = (TV.lp i o) := rfl
theorem z_shrT_lp (i o : Nat) : TV.shrT (TV.lp i o) = (TV.lp i o) := rfl
theorem z_lb_lp (i o : Nat) : isLb (TV.lp i o) = false := rfl
theorem z_ao_lp (i o : Nat) : argOk (TV.lp i o) = false := rfl
theorem z_ic_lp (i o : Nat) : TV.isCell (TV.lp i o) = false := rfl
theorem z_cells_lp (i o : Nat) : TV.cells (TV.lp i o) = [(TV.lp i o)] := rfl
theorem z_ie_lp (i o : Nat) : TV.isElt (TV.lp i o) = false := rfl
theorem z_shr0_lbox (l : List TV) : TV.shr0 (TV.lbox l) = (TV.lbox l) := rfl
theorem z_shrK_lbox (l : List TV) : TV.shrK (TV.lbox l) = (TV.lbox l) := rfl
theorem z_shrKA_lbox (l : List TV) : TV.shrKA (TV.lbox l) = (TV.lbox l) := rfl
theorem z_shrA_lbox (l : List TV) : TV.shrA (TV.lbox l) = (TV.lbox l) := rfl
theorem z_shrT_lbox (l : List TV) : TV.shrT (TV.lbox l) = (TV.lbox l) := rfl
theorem z_lb_lbox (l : List TV) : isLb (TV.lbox l) = true := rfl
theorem z_ao_lbox (l : List TV) : argOk (TV.lbox l) = false := rfl
theorem z_ic_lbox (l : List TV) : TV.isCell (TV.lbox l) = false := rfl
theorem z_cells_lbox (l : List TV) : TV.cells (TV.lbox l) = [(TV.lbox l)] := rfl
theorem z_ie_lbox (l : List TV) : TV.isElt (TV.lbox l) = false := rfl
theorem z_ie_sl0 (l : List TV) : TV.isElt (.sl .shr l) = true := rfl
theorem z_ie_sl1 (n : Nat) (s : Bool) (l : List TV) : TV.isElt (.sl (.own n s) l) = false := rfl
theorem z_ie_asl (ag : Bool) (sz i o n : Nat) : TV.isElt (.asl ag sz i o n) = false := rfl
/-- A byte. -/
def tb (b : UInt8) : TV := .int .u8 b.toNat
theorem tb_eq {a b : UInt8} : tb a = tb b ↔ a = b := by
  constructor
  · intro h
    simp only [tb, TV.int.injEq, true_and] at h
    exact UInt8.toNat_inj.1 (by exact_mod_cast h)
  · rintro rfl; rfl
theorem byteOf_tb (b : UInt8) : byteOf (tb b) = b := by simp [byteOf, tb]
theorem map_byteOf (l : List UInt8) : (l.map tb).map byteOf = l := by simp [Function.comp_def, byteOf_tb]
theorem okW_tb (l : List UInt8) : okW 1 (l.map tb) = true := by simp [okW, tb, TV.cells]
theorem isByte_tb (l : List UInt8) : (l.map tb).all isByte = true := by simp [tb, isByte]
theorem ofBytes_mk (l : List UInt8) : ofBytes ⟨l.toArray⟩ = l.map tb := by simp [ofBytes, tb, Function.comp_def]
theorem flat_tb (l : List UInt8) : flat (l.map tb) = l.map tb := by
  simp only [flat, List.flatMap_map]
  induction l with
  | nil => rfl
  | cons a l ih => rw [List.flatMap_cons, ih]; rfl
theorem regroup_one (l : List TV) : regroup false 1 l.length l = l := by
  induction l with
  | nil => rfl
  | cons a l ih => simp [regroup, pack, ih]
theorem shr0_tb (l : List UInt8) : (l.map tb).map TV.shr0 = l.map tb := by simp [tb, TV.shr0, Function.comp_def]
/-- Rows of structs, one behind the other. -/
theorem cut_row {α : Type} {f : α → List TV} {w : Nat} (hw : ∀ a, (f a).length = w) {l : List α} {k : Nat} {a : α} (hk : l[k]? = some a) {o n : Nat} {vs : List TV} (h : cut (f a) o n = some vs) : cut (l.flatMap f) (k * w + o) n = some vs := by
  induction l generalizing k with
  | nil => simp at hk
  | cons b l ih =>
    have hlen : (f b).length = w := hw b
    cases k with
    | zero =>
      simp at hk
      subst hk
      unfold cut at h ⊢
      split at h
      · rename_i hle
        obtain rfl := Option.some.inj h
        have : 0 * w + o + n ≤ ((b :: l).flatMap f).length := by simp; omega
        rw [if_pos this]
        simp only [Nat.zero_mul, Nat.zero_add, List.flatMap_cons, Option.some.injEq]
        rw [List.drop_append_of_le_length (by omega), List.take_append_of_le_length (by simp; omega)]
      · cases h
    | succ k =>
      simp at hk
      have := ih hk
      unfold cut at this ⊢
      split at this
      · rename_i hle
        have h2 : (k + 1) * w + o + n ≤ ((b :: l).flatMap f).length := by rw [List.flatMap_cons, List.length_append, hlen, Nat.succ_mul]; omega
        rw [if_pos h2]
        obtain h3 := Option.some.inj this
        rw [← h3]
        congr 2
        rw [List.flatMap_cons, List.drop_append, List.drop_eq_nil_of_le (by rw [hlen, Nat.succ_mul]; omega), List.nil_append]
        congr 1
        rw [hlen, Nat.succ_mul]; omega
      · cases this
theorem splice_row {α : Type} {f : α → List TV} {w : Nat} (hw : ∀ a, (f a).length = w) {l : List α} {k : Nat} {a a' : α} (hk : l[k]? = some a) {o : Nat} {vs : List TV} (ho : o + vs.length ≤ w) (h : splice (f a) o vs = f a') : splice (l.flatMap f) (k * w + o) vs = (l.set k a').flatMap f := by
  induction l generalizing k with
  | nil => simp at hk
  | cons b l ih =>
    have hlen : (f b).length = w := hw b
    cases k with
    | zero =>
      simp at hk
      subst hk
      rw [List.set_cons_zero, List.flatMap_cons, List.flatMap_cons, ← h]
      unfold splice
      simp only [Nat.zero_mul, Nat.zero_add]
      rw [List.take_append_of_le_length (by omega), List.drop_append_of_le_length (by omega)]
      simp
    | succ k =>
      simp at hk
      have := ih hk
      rw [List.set_cons_succ, List.flatMap_cons, List.flatMap_cons, ← this]
      unfold splice
      have e1 : (k + 1) * w + o = (f b).length + (k * w + o) := by rw [hlen, Nat.succ_mul]; omega
      rw [e1, List.take_length_add_append, List.append_assoc]
      congr 1
      congr 1
      congr 1
      rw [show (f b).length + (k * w + o) + vs.length = (f b).length + (k * w + o + vs.length) by omega, List.drop_length_add_append]
theorem row_length {α : Type} {f : α → List TV} {w : Nat} (hw : ∀ a, (f a).length = w) (l : List α) : (l.flatMap f).length = l.length * w := by
  induction l with
  | nil => simp
  | cons a l ih => simp [ih, hw, Nat.succ_mul]; omega
theorem flat_zeros {ag : Bool} {z : List TV} {n : Nat} : flat (zeros ag z n) = flat (List.replicate n (pack ag z)) := rfl
theorem Ap_none {cx : Cx} {ks : List Fr} {d : Option Nat} {os : List TOper} {kl : List Nat} {st : St} : Ap cx ks d os kl st none = False := rfl
theorem cut_zero {cs : List TV} : cut cs 0 0 = some [] := by simp [cut]
theorem cut_cons_succ {a : TV} {cs : List TV} {o n : Nat} : cut (a :: cs) (o + 1) n = cut cs o n := by
  unfold cut
  by_cases h : o + n ≤ cs.length
  · rw [if_pos h, if_pos (by simp; omega)]; rfl
  · rw [if_neg h, if_neg (by simp; omega)]
theorem cut_cons_zero {a : TV} {cs : List TV} {n : Nat} : cut (a :: cs) 0 (n + 1) = (cut cs 0 n).map (fun l => a :: l) := by
  unfold cut
  by_cases h : 0 + n ≤ cs.length
  · rw [if_pos h, if_pos (by simp; omega)]; rfl
  · rw [if_neg h, if_neg (by simp; omega)]; rfl
theorem splice_cons_succ {a : TV} {cs vs : List TV} {o : Nat} : splice (a :: cs) (o + 1) vs = a :: splice cs o vs := by
  unfold splice
  rw [show o + 1 + vs.length = (o + vs.length) + 1 by omega]
  rfl
theorem splice_cons_zero {a : TV} {cs vs : List TV} : splice (a :: cs) 0 vs = vs ++ (a :: cs).drop vs.length := by
  simp [splice]
theorem trim_refl {fz : Bool} {v : TV} {h : Heap} {k : Bool} : trim fz h.length ⟨v, h, k⟩ = ⟨v, h, k⟩ := by simp [trim]
theorem trim_kp {fz : Bool} {v : TV} {h : Heap} {b : Nat} : trim fz b ⟨v, h, true⟩ = ⟨v, h, true⟩ := by simp [trim]
theorem rowT_nil {h : Heap} {base : Nat} {x : TV} (hx : rowT base x = []) : frzT h base x = x := by
  have key := @rowA_nil h base x
  cases x with
  | tup cs =>
    simp only [frzT]
    congr 1
    simp only [rowT, List.flatMap_eq_nil_iff] at hx
    rw [List.map_congr_left (fun y hy => rowA_nil (hx y hy))]
    simp
  | _ => exact key hx
theorem trim_out {fz : Bool} {v : TV} {h : Heap} {b : Nat} {k : Bool} (hr : rowT b v = []) (hl : TV.lt b v = false) : trim fz b ⟨v, h, k⟩ = ⟨v, h, k⟩ := by
  unfold trim
  split
  · rfl
  split
  · rfl
  simp only [rowT_nil hr, ite_self]
  rw [if_neg (by simp [hl])]
theorem trim_in {fz : Bool} {v : TV} {h x : Heap} (hr : rowT h.length v = []) (hl : TV.lt h.length v = true) : trim fz h.length ⟨v, h ++ x, false⟩ = ⟨v, h, false⟩ := by
  unfold trim
  split
  · rename_i hh
    have : x = [] := List.eq_nil_of_length_eq_zero (by simp at hh; simp [hh])
    subst this
    simp
  · rw [if_neg (by simp)]
    simp only [rowT_nil hr, ite_self]
    rw [if_pos hl]
    simp
/- What runs rewrite by. -/
theorem zz0 : (type_of% @trim_refl) ∧ (type_of% @trim_kp) ∧ (type_of% @Run_seq) ∧ (type_of% @Run_block) ∧ (type_of% @Run_reg) ∧ (type_of% @Run_ret) ∧ (type_of% @Run_skip) ∧ (type_of% @Run_cond) ∧ (type_of% @Run_exit) ∧ (type_of% @RS_nil) ∧ (type_of% @RS_cons) ∧ (type_of% @RS_guard) ∧ (type_of% @Back_seq) ∧ (type_of% @Back_seq_ret) ∧ (type_of% @Back_seq_ex) ∧ (type_of% @Back_blk) ∧ (type_of% @Back_blk_ret) ∧ (type_of% @Back_blk_ex) ∧ (type_of% @Back_loop) ∧ (type_of% @Back_loop_ret) ∧ (type_of% @Back_loop_ex) ∧ (type_of% @Back_nil) ∧ (type_of% @Back_nil_ret) ∧ (type_of% @sl_zero) ∧ (type_of% @sl_succ) ∧ (type_of% @Ap_val) ∧ (type_of% @Ap_tk) ∧ (type_of% @Ap_hw) ∧ (type_of% @Ap_gen) ∧ (type_of% @live_zero) ∧ (type_of% @live_succ) ∧ (type_of% @Grd_bool) ∧ (type_of% @Grd_tup) ∧ (type_of% @Cnd_bool) ∧ (type_of% @cut_zero) ∧ (type_of% @cut_cons_succ) ∧ (type_of% @cut_cons_zero) ∧ (type_of% @splice_cons_succ) ∧ (type_of% @splice_cons_zero) ∧ (type_of% @Heap_beq_refl) ∧ (type_of% @z_shr0_bool) ∧ (type_of% @z_shrK_bool) :=
  ⟨@trim_refl, @trim_kp, @Run_seq, @Run_block, @Run_reg, @Run_ret, @Run_skip, @Run_cond, @Run_exit, @RS_nil, @RS_cons, @RS_guard, @Back_seq, @Back_seq_ret, @Back_seq_ex, @Back_blk, @Back_blk_ret, @Back_blk_ex, @Back_loop, @Back_loop_ret, @Back_loop_ex, @Back_nil, @Back_nil_ret, @sl_zero, @sl_succ, @Ap_val, @Ap_tk, @Ap_hw, @Ap_gen, @live_zero, @live_succ, @Grd_bool, @Grd_tup, @Cnd_bool, @cut_zero, @cut_cons_succ, @cut_cons_zero, @splice_cons_succ, @splice_cons_zero, @Heap_beq_refl, @z_shr0_bool, @z_shrK_bool⟩
theorem zz1 : (type_of% @z_shrKA_bool) ∧ (type_of% @z_shrA_bool) ∧ (type_of% @z_shrT_bool) ∧ (type_of% @z_lb_bool) ∧ (type_of% @z_ao_bool) ∧ (type_of% @z_ic_bool) ∧ (type_of% @z_cells_bool) ∧ (type_of% @z_ie_bool) ∧ (type_of% @z_shr0_int) ∧ (type_of% @z_shrK_int) ∧ (type_of% @z_shrKA_int) ∧ (type_of% @z_shrA_int) ∧ (type_of% @z_shrT_int) ∧ (type_of% @z_lb_int) ∧ (type_of% @z_ao_int) ∧ (type_of% @z_ic_int) ∧ (type_of% @z_cells_int) ∧ (type_of% @z_ie_int) ∧ (type_of% @z_shr0_str) ∧ (type_of% @z_shrK_str) ∧ (type_of% @z_shrKA_str) ∧ (type_of% @z_shrA_str) ∧ (type_of% @z_shrT_str) ∧ (type_of% @z_lb_str) ∧ (type_of% @z_ao_str) ∧ (type_of% @z_ic_str) ∧ (type_of% @z_cells_str) ∧ (type_of% @z_ie_str) ∧ (type_of% @z_shr0_ptr) ∧ (type_of% @z_shrK_ptr) ∧ (type_of% @z_shrKA_ptr) ∧ (type_of% @z_shrA_ptr) ∧ (type_of% @z_shrT_ptr) ∧ (type_of% @z_lb_ptr) ∧ (type_of% @z_ao_ptr) ∧ (type_of% @z_ic_ptr) ∧ (type_of% @z_cells_ptr) ∧ (type_of% @z_ie_ptr) ∧ (type_of% @z_shr0_nilp) ∧ (type_of% @z_shrK_nilp) :=
  ⟨@z_shrKA_bool, @z_shrA_bool, @z_shrT_bool, @z_lb_bool, @z_ao_bool, @z_ic_bool, @z_cells_bool, @z_ie_bool, @z_shr0_int, @z_shrK_int, @z_shrKA_int, @z_shrA_int, @z_shrT_int, @z_lb_int, @z_ao_int, @z_ic_int, @z_cells_int, @z_ie_int, @z_shr0_str, @z_shrK_str, @z_shrKA_str, @z_shrA_str, @z_shrT_str, @z_lb_str, @z_ao_str, @z_ic_str, @z_cells_str, @z_ie_str, @z_shr0_ptr, @z_shrK_ptr, @z_shrKA_ptr, @z_shrA_ptr, @z_shrT_ptr, @z_lb_ptr, @z_ao_ptr, @z_ic_ptr, @z_cells_ptr, @z_ie_ptr, @z_shr0_nilp, @z_shrK_nilp⟩
theorem zz2 : (type_of% @z_shrKA_nilp) ∧ (type_of% @z_shrA_nilp) ∧ (type_of% @z_shrT_nilp) ∧ (type_of% @z_lb_nilp) ∧ (type_of% @z_ao_nilp) ∧ (type_of% @z_ic_nilp) ∧ (type_of% @z_cells_nilp) ∧ (type_of% @z_ie_nilp) ∧ (type_of% @z_shr0_nils) ∧ (type_of% @z_shrK_nils) ∧ (type_of% @z_shrKA_nils) ∧ (type_of% @z_shrA_nils) ∧ (type_of% @z_shrT_nils) ∧ (type_of% @z_lb_nils) ∧ (type_of% @z_ao_nils) ∧ (type_of% @z_ic_nils) ∧ (type_of% @z_cells_nils) ∧ (type_of% @z_ie_nils) ∧ (type_of% @z_shr0_cp) ∧ (type_of% @z_shrK_cp) ∧ (type_of% @z_shrKA_cp) ∧ (type_of% @z_shrA_cp) ∧ (type_of% @z_shrT_cp) ∧ (type_of% @z_lb_cp) ∧ (type_of% @z_ao_cp) ∧ (type_of% @z_ic_cp) ∧ (type_of% @z_cells_cp) ∧ (type_of% @z_ie_cp) ∧ (type_of% @z_shr0_sl) ∧ (type_of% @z_shrK_sl) ∧ (type_of% @z_shrKA_sl) ∧ (type_of% @z_shrA_sl) ∧ (type_of% @z_shrT_sl) ∧ (type_of% @z_lb_sl) ∧ (type_of% @z_ao_sl) ∧ (type_of% @z_ic_sl) ∧ (type_of% @z_cells_sl) ∧ (type_of% @z_shr0_asl) ∧ (type_of% @z_shrK_asl) ∧ (type_of% @z_shrKA_asl) :=
  ⟨@z_shrKA_nilp, @z_shrA_nilp, @z_shrT_nilp, @z_lb_nilp, @z_ao_nilp, @z_ic_nilp, @z_cells_nilp, @z_ie_nilp, @z_shr0_nils, @z_shrK_nils, @z_shrKA_nils, @z_shrA_nils, @z_shrT_nils, @z_lb_nils, @z_ao_nils, @z_ic_nils, @z_cells_nils, @z_ie_nils, @z_shr0_cp, @z_shrK_cp, @z_shrKA_cp, @z_shrA_cp, @z_shrT_cp, @z_lb_cp, @z_ao_cp, @z_ic_cp, @z_cells_cp, @z_ie_cp, @z_shr0_sl, @z_shrK_sl, @z_shrKA_sl, @z_shrA_sl, @z_shrT_sl, @z_lb_sl, @z_ao_sl, @z_ic_sl, @z_cells_sl, @z_shr0_asl, @z_shrK_asl, @z_shrKA_asl⟩
theorem zz3 : (type_of% @z_shrA_asl) ∧ (type_of% @z_shrT_asl) ∧ (type_of% @z_lb_asl) ∧ (type_of% @z_ao_asl) ∧ (type_of% @z_ic_asl) ∧ (type_of% @z_cells_asl) ∧ (type_of% @z_shr0_fn) ∧ (type_of% @z_shrK_fn) ∧ (type_of% @z_shrKA_fn) ∧ (type_of% @z_shrA_fn) ∧ (type_of% @z_shrT_fn) ∧ (type_of% @z_lb_fn) ∧ (type_of% @z_ao_fn) ∧ (type_of% @z_ic_fn) ∧ (type_of% @z_cells_fn) ∧ (type_of% @z_ie_fn) ∧ (type_of% @z_shr0_nilf) ∧ (type_of% @z_shrK_nilf) ∧ (type_of% @z_shrKA_nilf) ∧ (type_of% @z_shrA_nilf) ∧ (type_of% @z_shrT_nilf) ∧ (type_of% @z_lb_nilf) ∧ (type_of% @z_ao_nilf) ∧ (type_of% @z_ic_nilf) ∧ (type_of% @z_cells_nilf) ∧ (type_of% @z_ie_nilf) ∧ (type_of% @z_shr0_agg) ∧ (type_of% @z_shrK_agg) ∧ (type_of% @z_shrKA_agg) ∧ (type_of% @z_shrA_agg) ∧ (type_of% @z_shrT_agg) ∧ (type_of% @z_lb_agg) ∧ (type_of% @z_ao_agg) ∧ (type_of% @z_ic_agg) ∧ (type_of% @z_cells_agg) ∧ (type_of% @z_ie_agg) ∧ (type_of% @z_shr0_tup) ∧ (type_of% @z_shrK_tup) ∧ (type_of% @z_shrKA_tup) ∧ (type_of% @z_shrA_tup) :=
  ⟨@z_shrA_asl, @z_shrT_asl, @z_lb_asl, @z_ao_asl, @z_ic_asl, @z_cells_asl, @z_shr0_fn, @z_shrK_fn, @z_shrKA_fn, @z_shrA_fn, @z_shrT_fn, @z_lb_fn, @z_ao_fn, @z_ic_fn, @z_cells_fn, @z_ie_fn, @z_shr0_nilf, @z_shrK_nilf, @z_shrKA_nilf, @z_shrA_nilf, @z_shrT_nilf, @z_lb_nilf, @z_ao_nilf, @z_ic_nilf, @z_cells_nilf, @z_ie_nilf, @z_shr0_agg, @z_shrK_agg, @z_shrKA_agg, @z_shrA_agg, @z_shrT_agg, @z_lb_agg, @z_ao_agg, @z_ic_agg, @z_cells_agg, @z_ie_agg, @z_shr0_tup, @z_shrK_tup, @z_shrKA_tup, @z_shrA_tup⟩
theorem zz4 : (type_of% @z_shrT_tup) ∧ (type_of% @z_lb_tup) ∧ (type_of% @z_ao_tup) ∧ (type_of% @z_ic_tup) ∧ (type_of% @z_cells_tup) ∧ (type_of% @z_ie_tup) ∧ (type_of% @z_shr0_junk) ∧ (type_of% @z_shrK_junk) ∧ (type_of% @z_shrKA_junk) ∧ (type_of% @z_shrA_junk) ∧ (type_of% @z_shrT_junk) ∧ (type_of% @z_lb_junk) ∧ (type_of% @z_ao_junk) ∧ (type_of% @z_ic_junk) ∧ (type_of% @z_cells_junk) ∧ (type_of% @z_ie_junk) ∧ (type_of% @z_shr0_lp) ∧ (type_of% @z_shrK_lp) ∧ (type_of% @z_shrKA_lp) ∧ (type_of% @z_shrA_lp) ∧ (type_of% @z_shrT_lp) ∧ (type_of% @z_lb_lp) ∧ (type_of% @z_ao_lp) ∧ (type_of% @z_ic_lp) ∧ (type_of% @z_cells_lp) ∧ (type_of% @z_ie_lp) ∧ (type_of% @z_shr0_lbox) ∧ (type_of% @z_shrK_lbox) ∧ (type_of% @z_shrKA_lbox) ∧ (type_of% @z_shrA_lbox) ∧ (type_of% @z_shrT_lbox) ∧ (type_of% @z_lb_lbox) ∧ (type_of% @z_ao_lbox) ∧ (type_of% @z_ic_lbox) ∧ (type_of% @z_cells_lbox) ∧ (type_of% @z_ie_lbox) ∧ (type_of% @z_ie_sl0) ∧ (type_of% @z_ie_sl1) ∧ (type_of% @z_ie_asl) ∧ (type_of% @Ap_none) :=
  ⟨@z_shrT_tup, @z_lb_tup, @z_ao_tup, @z_ic_tup, @z_cells_tup, @z_ie_tup, @z_shr0_junk, @z_shrK_junk, @z_shrKA_junk, @z_shrA_junk, @z_shrT_junk, @z_lb_junk, @z_ao_junk, @z_ic_junk, @z_cells_junk, @z_ie_junk, @z_shr0_lp, @z_shrK_lp, @z_shrKA_lp, @z_shrA_lp, @z_shrT_lp, @z_lb_lp, @z_ao_lp, @z_ic_lp, @z_cells_lp, @z_ie_lp, @z_shr0_lbox, @z_shrK_lbox, @z_shrKA_lbox, @z_shrA_lbox, @z_shrT_lbox, @z_lb_lbox, @z_ao_lbox, @z_ic_lbox, @z_cells_lbox, @z_ie_lbox, @z_ie_sl0, @z_ie_sl1, @z_ie_asl, @Ap_none⟩
theorem getD_live {H : Heap} {j : Nat} {cs : List TV} (h : live H j = some cs) : H.getD j [] = cs := by
  rw [List.getD_eq_getElem?_getD, (live_some h).1]; rfl
theorem getD_set {H : Heap} {j : Nat} {cs : List TV} (h : j < H.length) : (H.set j cs).getD j [] = cs := by
  rw [List.getD_eq_getElem?_getD, List.getElem?_set_self h]; rfl
theorem okb (b : List UInt8) : ((b.map tb).all fun e => e.cells.length == 1) = true := by simp [tb, TV.cells]
theorem lts_b (n : Nat) (b : List UInt8) : TV.lts n (b.map tb) = true := by
  induction b with
  | nil => rfl
  | cons a b ih => simp [TV.lts, TV.lt, tb, ih]
theorem lts_bs (n : Nat) (g : Tag) (b : List UInt8) : TV.lts n [.sl g (b.map tb)] = true := by simp [TV.lts, TV.lt, lts_b]
theorem trim_set {fz : Bool} {v : TV} {h : Heap} {i : Nat} {c : List TV} {k : Bool} : trim fz h.length ⟨v, h.set i c, k⟩ = ⟨v, h.set i c, k⟩ := by simp [trim]
theorem lts_nil (n : Nat) : TV.lts n [] = true := rfl
theorem trim_zero {fz : Bool} {v : TV} {k : Bool} : trim fz 0 ⟨v, [], k⟩ = ⟨v, [], k⟩ := rfl
theorem trim_one {fz : Bool} {b : Bool} {h : Heap} : trim fz 0 ⟨.bool b, h, false⟩ = ⟨.bool b, [], false⟩ := trim_in (h := []) (x := h) rfl rfl
@[congr] theorem Cnd_congr {v v' : Option TV} {A B : Prop} (h : v = v') : Cnd v A B = Cnd v' A B := by rw [h]
theorem set16 {x0 x1 x2 x3 x4 x5 x6 x7 x8 x9 x10 x11 x12 x13 x14 x15 : TV} {l : List TV} {n : Nat} {v : TV} : (x0 :: x1 :: x2 :: x3 :: x4 :: x5 :: x6 :: x7 :: x8 :: x9 :: x10 :: x11 :: x12 :: x13 :: x14 :: x15 :: l).set (n + 16) v = x0 :: x1 :: x2 :: x3 :: x4 :: x5 :: x6 :: x7 :: x8 :: x9 :: x10 :: x11 :: x12 :: x13 :: x14 :: x15 :: l.set n v := rfl
theorem sl16 {x0 x1 x2 x3 x4 x5 x6 x7 x8 x9 x10 x11 x12 x13 x14 x15 : TV} {l : List TV} {n : Nat} : sl (x0 :: x1 :: x2 :: x3 :: x4 :: x5 :: x6 :: x7 :: x8 :: x9 :: x10 :: x11 :: x12 :: x13 :: x14 :: x15 :: l) (n + 16) = sl l n := rfl
end Go.T
/- Loops over lists, for the small machine. -/
set_option linter.unusedVariables false
set_option maxRecDepth 10000
namespace Go.T
/-- A loop that counts through a list, with what it has gathered: what it answers is a function of the rest. -/
theorem loopI {α β : Type} {c : CallF} {fz : Bool} {rs : List TRes} {ks : List Fr} {lp : TC} (l : List α) (hm : l.length ≤ 9223372036854775807) (F : β → List α → Ret) (S : Nat → β → St) (I : Nat → β → Prop)
    (h0 : ∀ acc, I l.length acc → ¬ ((l.length : Int) < l.length) → Run ⟨c, fz, rs, F acc []⟩ ks (.loop lp) (S l.length acc))
    (hs : ∀ (k : Nat) x acc rest, I k acc → l[k]? = some x → (k : Int) < l.length → (0 : Int) ≤ k → IntKind.i64.wrap (k + 1) = ((k + 1 : Nat) : Int) → (∀ acc, I (k + 1) acc → Run ⟨c, fz, rs, F acc rest⟩ ks (.loop lp) (S (k + 1) acc)) → Run ⟨c, fz, rs, F acc (x :: rest)⟩ ks (.loop lp) (S k acc)) (acc : β) (hi : I 0 acc) :
    Run ⟨c, fz, rs, F acc l⟩ ks (.loop lp) (S 0 acc) := by
  have key : ∀ (rest : List α) (k : Nat), l.drop k = rest → k ≤ l.length → ∀ acc, I k acc → Run ⟨c, fz, rs, F acc rest⟩ ks (.loop lp) (S k acc) := by
    intro rest
    induction rest with
    | nil =>
      intro k hd hk acc hi
      have h1 : l.length ≤ k := by rw [List.drop_eq_nil_iff] at hd; exact hd
      have h2 : k = l.length := by omega
      subst h2
      exact h0 acc hi (by omega)
    | cons x rest ih =>
      intro k hd hk acc hi
      have hlt : k < l.length := by
        rcases Nat.lt_or_ge k l.length with h | h
        · exact h
        · rw [List.drop_of_length_le h] at hd; cases hd
      have hx : l[k]? = some x := by
        have := congrArg (fun l => l[0]?) hd
        simpa [List.getElem?_drop] using this
      have hd2 : l.drop (k + 1) = rest := by rw [← List.tail_drop, hd]; rfl
      exact hs k x acc rest hi hx (by omega) (by omega) (IntWalk.i64_in _ (by omega)) (ih (k + 1) hd2 hlt)
  exact key l 0 rfl (Nat.zero_le _) acc hi
theorem loopL {α β : Type} {c : CallF} {fz : Bool} {rs : List TRes} {ks : List Fr} {lp : TC} (l : List α) (hm : l.length ≤ 9223372036854775807) (F : β → List α → Ret) (S : Nat → β → St)
    (h0 : ∀ acc, ¬ ((l.length : Int) < l.length) → Run ⟨c, fz, rs, F acc []⟩ ks (.loop lp) (S l.length acc))
    (hs : ∀ (k : Nat) x acc rest, l[k]? = some x → (k : Int) < l.length → (0 : Int) ≤ k → IntKind.i64.wrap (k + 1) = ((k + 1 : Nat) : Int) → (∀ acc, Run ⟨c, fz, rs, F acc rest⟩ ks (.loop lp) (S (k + 1) acc)) → Run ⟨c, fz, rs, F acc (x :: rest)⟩ ks (.loop lp) (S k acc)) (acc : β) :
    Run ⟨c, fz, rs, F acc l⟩ ks (.loop lp) (S 0 acc) :=
  loopI l hm F S (fun _ _ => True) (fun acc _ h => h0 acc h) (fun k x acc rest _ h1 h2 h3 h4 ih => hs k x acc rest h1 h2 h3 h4 fun acc => ih acc trivial) acc trivial
theorem map_get {α : Type} {f : α → TV} {l : List α} {k : Nat} {x : α} (h : l[k]? = some x) : (l.map f)[k]? = some (f x) := by rw [List.getElem?_map, h]; rfl
/-- A number lies from one to another. -/
def within (n lo hi : Int) : Bool := decide (lo ≤ n) && decide (n ≤ hi)
theorem within_iff {n lo hi : Int} : within n lo hi = true ↔ lo ≤ n ∧ n ≤ hi := by simp [within]
theorem i64_wf {n : Int} (h : (Lit.int .i64 n).wf = true) : -9223372036854775808 ≤ n ∧ n ≤ 9223372036854775807 := by
  simp only [Lit.wf, Bool.and_eq_true, decide_eq_true_eq] at h; exact h
end Go.T
