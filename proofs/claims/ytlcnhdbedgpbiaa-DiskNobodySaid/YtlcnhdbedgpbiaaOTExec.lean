/- A code of the small machine tells the code of the model. -/
import Derived.Test.YtlcnhdbedgpbiaaOTOrd
set_option linter.unusedVariables false
set_option linter.unusedSimpArgs false
set_option maxRecDepth 10000
namespace Go.T
section
variable {P : Program} {w : World} {g : Gh} {ow : Ow} {st : St} {a : Act} {call : CallF}
theorem Nxt.trans {st1 st2 : St} {w1 : World} {m : Nat} {g1 : Gh} {ow1 : Ow} (hs : Stp w g ow m w1 g1 ow1) (hm : m ≤ st1.h.length) {a2 : Act} {w2 : World} (h : Nxt w1 g1 ow1 st1.h.length st2 a2 w2) : Nxt w g ow m st2 a2 w2 := by
  obtain ⟨g', ow', h1, h2⟩ := h
  exact ⟨g', ow', hs.trans h1 hm, h2⟩
theorem Inv.junkSlot (hI : Inv w g ow st a) (i : Nat) : Inv w g ow { st with t := st.t.set i .junk } a where
  defers := hI.defers
  len := by simpa using hI.len
  base := hI.base
  bd := hI.bd
  box := hI.box
  slot j := by
    have hj := hI.slot j
    rw [sl_set]
    by_cases h : i = j ∧ j < st.t.length
    · obtain ⟨rfl, hl⟩ := h
      rw [if_pos ⟨rfl, hl⟩]
      exact ⟨.junk _, fun p sz s l A n c hs => by cases hs⟩
    · rw [if_neg h]
      generalize sl st.t j = y at hj ⊢
      cases y <;> try exact hj
      case lp b' off =>
        intro ds hds
        rw [sl_set] at hds
        split at hds
        · cases hds
        · exact hj ds hds
theorem Inv.kill (ks : List Nat) : ∀ {st : St}, Inv w g ow st a → Inv w g ow (st.kill ks) a := by
  induction ks with
  | nil => intro st h; exact h
  | cons i ks ih => intro st h; exact ih (h.junkSlot i)
/-- What a code that ended so may lead to. -/
def ExQ (ex : Ex) (K : Act → World → Prop) : Exit → Act → World → Prop
  | .normal, a, w => ex = .norm ∧ K a w
  | .ret, a, w => ex = .ret ∧ K a w
  | .exit id, a, w => ex = .ex id ∧ K a w
  | _, _, _ => False
theorem ExQ.mono {ex : Ex} {K K' : Act → World → Prop} (h : ∀ a w, K a w → K' a w) {e : Exit} {a : Act} {w : World} (hh : ExQ ex K e a w) : ExQ ex K' e a w := by
  cases e <;> first | exact ⟨hh.1, h _ _ hh.2⟩ | exact hh
theorem wp_loop_nat {c : Code} {Q : Exit → Act → World → Prop} (I : Nat → Act → World → Prop) {n : Nat} (h0 : I n a w)
    (round : ∀ n a w, I n a w → c.wp P (Exit.then (fun a' w' => ∃ n', n' < n ∧ I n' a' w') Q) a w) : (Code.loop c).wp P Q a w := by
  intro b k cs
  have key : ∀ n a w, I n a w → ∃ e a' w', Q e a' w' ∧ Arrives P (lone (b.at a (.code c :: .inLoop c :: k)) cs w) b k cs e a' w' := by
    intro n
    induction n using Nat.strongRecOn with
    | _ n ih =>
      intro a w hI
      obtain ⟨e, a₁, w₁, hq, harr⟩ := round n a w hI b (.inLoop c :: k) cs
      cases e with
      | normal =>
        obtain ⟨n', hlt, hI₁⟩ := hq
        obtain ⟨e₂, a₂, w₂, hq₂, harr₂⟩ := ih n' hlt a₁ w₁ hI₁
        exact ⟨e₂, a₂, w₂, hq₂, .of_steps (Steps.trans harr (.one step_inLoop)) harr₂⟩
      | exit id => exact ⟨_, a₁, w₁, hq, .pass (x := .inLoop c) rfl (fun _ _ => .inl (by simp)) harr⟩
      | goto l => exact ⟨_, a₁, w₁, hq, .pass (x := .inLoop c) rfl (fun _ _ => .inl (by simp)) harr⟩
      | ret => exact ⟨_, a₁, w₁, hq, .pass (x := .inLoop c) rfl (fun _ _ => .inl (by simp)) harr⟩
      | panic ch => exact ⟨_, a₁, w₁, hq, .pass (x := .inLoop c) rfl (fun _ _ => .inl (by simp)) harr⟩
      | outgrown => exact ⟨_, a₁, w₁, hq, .pass (x := .inLoop c) rfl (fun _ _ => .inl (by simp)) harr⟩
  obtain ⟨e, a', w', hq, harr⟩ := key n a w h0
  exact ⟨e, a', w', hq, .of_steps (.one step_loop) harr⟩
theorem ops_wp (hcs : CallSound P call) (hord : OrdC call) {ops : Array Oper} {Q : Exit → Act → World → Prop} : ∀ (os : List Oper) (xs : List TOper) (k : Nat) (w : World) (g : Gh) (ow : Ow) (st : St) (a : Act) (st' : St), ops.toList.drop k = os → chkOpers P ops os xs = true →
    Inv w g ow st a → steps call xs st = some st' → (∀ a' w', Nxt w g ow st.h.length st' a' w' → Q .normal a' w') → wpOps P ops Q (List.range' k os.length) a w := by
  intro os
  induction os with
  | nil =>
    intro xs k w g ow st a st' hd hc hI hs hk
    cases xs <;> simp [chkOpers] at hc
    simp [steps] at hs
    subst hs
    exact hk a w ⟨g, ow, hI.refl, hI⟩
  | cons o os ih =>
    intro xs k w g ow st a st' hd hc hI hs hk
    cases xs with
    | nil => simp [chkOpers] at hc
    | cons x xs =>
      simp [chkOpers] at hc
      simp only [steps] at hs
      split at hs
      · rename_i st1 h1
        have ho : ops[k]? = some o := by
          have : (ops.toList.drop k)[0]? = some o := by rw [hd]; rfl
          simpa using this
        have hd' : ops.toList.drop (k + 1) = os := by
          rw [← List.drop_drop, hd]; rfl
        rw [List.length_cons, List.range'_succ, wpOps_cons]
        have hlen := (step_ord hord h1).len
        refine wpOp_mono (fun a1 w1 hn => ?_) (step_wpOp hcs hord ho hc.1 hI h1)
        obtain ⟨g1, ow1, n1, n2⟩ := hn
        exact ih xs (k + 1) w1 g1 ow1 st1 a1 st' hd' hc.2 n2 hs (fun a' w' hn' => hk a' w' (hn'.trans n1 hlen))
      · cases hs
/-- Regions of which the order is drawn. -/
def DrawSound (P : Program) (call : CallF) : Prop := ∀ (id : Nat) (ops : Array Oper) (xs : List TOper) (ks : List Nat) (w : World) (g : Gh) (ow : Ow) (st : St) (a : Act) (st' : St), chkC P (.region id ops true) (.reg xs ks) = true → Inv w g ow st a → steps call xs st = some st' →
  (Code.region id ops true).wp P (fun e a' w' => e = .normal ∧ Nxt w g ow st.h.length st' a' w') a w
theorem exec_wp (hcs : CallSound P call) (hord : OrdC call) (hdr : DrawSound P call) (k : Nat) : ∀ (c : Code) (x : TC) (w : World) (g : Gh) (ow : Ow) (st : St) (a : Act) (ex : Ex) (st' : St), chkC P c x = true → Inv w g ow st a → exec call k x st = some (ex, st') →
    c.wp P (ExQ ex (Nxt w g ow st.h.length st')) a w := by
  intro c
  induction c with
  | skip =>
    intro x w g ow st a ex st' hc hI h
    cases x <;> simp [chkC] at hc
    simp [exec] at h
    obtain ⟨rfl, rfl⟩ := h
    exact wp_skip ⟨rfl, g, ow, hI.refl, hI⟩
  | ret =>
    intro x w g ow st a ex st' hc hI h
    cases x <;> simp [chkC] at hc
    simp [exec] at h
    obtain ⟨rfl, rfl⟩ := h
    exact wp_ret ⟨rfl, g, ow, hI.refl, hI⟩
  | exit id =>
    intro x w g ow st a ex st' hc hI h
    cases x <;> simp [chkC] at hc
    subst hc
    simp [exec] at h
    obtain ⟨rfl, rfl⟩ := h
    exact wp_exit ⟨rfl, g, ow, hI.refl, hI⟩
  | region id ops draw =>
    intro x w g ow st a ex st' hc hI h
    cases x <;> try (simp [chkC] at hc; done)
    rename_i xs ks
    simp only [exec] at h
    split at h
    · rename_i st1 h1
      simp at h
      obtain ⟨rfl, rfl⟩ := h
      have kil : ∀ a' w', Nxt w g ow st.h.length st1 a' w' → Nxt w g ow st.h.length (st1.kill ks) a' w' := by
        rintro a' w' ⟨g', ow', n1, n2⟩
        exact ⟨g', ow', n1, n2.kill ks⟩
      cases draw with
      | false =>
        simp [chkC] at hc
        apply wp_region
        rw [List.range_eq_range']
        have := ops_wp (Q := ExQ .norm (Nxt w g ow st.h.length (st1.kill ks))) hcs hord ops.toList xs 0 w g ow st a st1 rfl hc hI h1 (fun a' w' hn => ⟨rfl, kil a' w' hn⟩)
        simpa using this
      | true =>
        refine wp_mono (hdr id ops xs ks w g ow st a st1 hc hI h1) ?_
        rintro e a' w' ⟨rfl, hn⟩
        exact ⟨rfl, kil a' w' hn⟩
    · cases h
  | seq c1 c2 ih1 ih2 =>
    intro x w g ow st a ex st' hc hI h
    cases x <;> try (simp [chkC] at hc; done)
    rename_i x1 x2
    simp [chkC] at hc
    simp only [exec] at h
    apply wp_seq
    split at h
    · rename_i st1 h1
      refine wp_mono (ih1 x1 w g ow st a .norm st1 hc.1 hI h1) ?_
      intro e a1 w1 hq
      cases e <;> simp only [ExQ] at hq <;> first | (obtain ⟨hq, _⟩ := hq; cases hq; done) | (exact hq.elim) | skip
      obtain ⟨_, g1, ow1, n1, n2⟩ := hq
      show c2.wp P _ a1 w1
      refine wp_mono (ih2 x2 w1 g1 ow1 st1 a1 ex st' hc.2 n2 h) (fun e a w hh => hh.mono (fun a w hn => hn.trans n1 (exec_ord hord k _ _ _ _ h1).len))
    · rename_i r hr
      refine wp_mono (ih1 x1 w g ow st a ex st' hc.1 hI h) ?_
      intro e a1 w1 hq
      cases e <;> simp only [ExQ] at hq <;> first | exact hq.elim | skip
      · exact absurd h (by rw [hq.1]; exact fun hh => hr _ hh)
      · exact hq
      · exact hq
  | cond c0 c1 c2 ih1 ih2 =>
    intro x w g ow st a ex st' hc hI h
    cases x <;> try (simp [chkC] at hc; done)
    rename_i y x1 x2
    simp [chkC] at hc
    simp only [exec] at h
    split at h
    · rename_i hev
      have := (ev_spec hI hc.1.1 hev).1.bool_inv
      exact wp_cond_true this (ih1 x1 w g ow st a ex st' hc.1.2 hI h)
    · rename_i hev
      have := (ev_spec hI hc.1.1 hev).1.bool_inv
      exact wp_cond_false this (ih2 x2 w g ow st a ex st' hc.2 hI h)
    · cases h
  | block id c ih =>
    intro x w g ow st a ex st' hc hI h
    cases x <;> try (simp [chkC] at hc; done)
    rename_i j x
    simp [chkC] at hc
    obtain ⟨rfl, hc⟩ := hc
    simp only [exec] at h
    apply wp_block
    split at h
    · rename_i id' st1 h1
      refine wp_mono (ih x w g ow st a _ st1 hc hI h1) ?_
      intro e a1 w1 hq
      cases e <;> simp only [ExQ] at hq <;> first | (obtain ⟨hq, _⟩ := hq; cases hq; done) | (exact hq.elim) | skip
      rename_i id2
      obtain ⟨hid, hn⟩ := hq
      obtain rfl : id' = id2 := by simpa using hid
      show (if id' = id then ExQ ex _ .normal a1 w1 else ExQ ex _ (.exit id') a1 w1)
      split at h <;> rename_i hh
      · simp at h
        obtain ⟨rfl, rfl⟩ := h
        rw [if_pos hh]
        exact ⟨rfl, hn⟩
      · simp at h
        obtain ⟨rfl, rfl⟩ := h
        rw [if_neg hh]
        exact ⟨rfl, hn⟩
    · rename_i r hr
      refine wp_mono (ih x w g ow st a ex st' hc hI h) ?_
      intro e a1 w1 hq
      cases e <;> simp only [ExQ] at hq <;> first | exact hq.elim | skip
      · exact hq
      · exact absurd h (by rw [hq.1]; exact fun hh => hr _ _ hh)
      · exact hq
  | loop c ih =>
    intro x w g ow st a ex st' hc hI h
    cases x <;> try (simp [chkC] at hc; done)
    rename_i x
    simp [chkC] at hc
    simp only [exec] at h
    refine wp_loop_nat (fun n a1 w1 => ∃ g1 ow1 st1, Stp w g ow st.h.length w1 g1 ow1 ∧ Inv w1 g1 ow1 st1 a1 ∧ st.h.length ≤ st1.h.length ∧ loopN (exec call k x) n st1 = some (ex, st')) (n := k) ⟨g, ow, st, hI.refl, hI, Nat.le_refl _, h⟩ ?_
    rintro n a1 w1 ⟨g1, ow1, st1, n1, n2, n3, n4⟩
    cases n with
    | zero => simp [loopN] at n4
    | succ n =>
      simp only [loopN] at n4
      split at n4
      · rename_i st2 h2
        refine wp_mono (ih x w1 g1 ow1 st1 a1 .norm st2 hc n2 h2) ?_
        intro e a2 w2 hq
        cases e <;> simp only [ExQ] at hq <;> first | (obtain ⟨hq, _⟩ := hq; cases hq; done) | (exact hq.elim) | skip
        obtain ⟨_, g2, ow2, m1, m2⟩ := hq
        exact ⟨n, Nat.lt_succ_self n, g2, ow2, st2, n1.trans m1 n3, m2, Nat.le_trans n3 (exec_ord hord k _ _ _ _ h2).len, n4⟩
      · rename_i r hr
        refine wp_mono (ih x w1 g1 ow1 st1 a1 ex st' hc n2 n4) ?_
        intro e a2 w2 hq
        cases e <;> simp only [ExQ] at hq <;> first | exact hq.elim | skip
        · exact absurd n4 (by rw [hq.1]; exact fun hh => hr _ hh)
        · exact ⟨hq.1, hq.2.trans n1 n3⟩
        · exact ⟨hq.1, hq.2.trans n1 n3⟩
  | _ =>
    intro x w g ow st a ex st' hc hI h
    cases x <;> simp [chkC] at hc
end
end Go.T
