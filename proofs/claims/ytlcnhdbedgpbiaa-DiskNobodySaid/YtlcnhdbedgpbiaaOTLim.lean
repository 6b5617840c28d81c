/- The small machine without fuel: what it answers in the end. -/
import Derived.Test.YtlcnhdbedgpbiaaOTGlue
set_option linter.unusedVariables false
set_option linter.unusedSimpArgs false
set_option maxRecDepth 10000
namespace Go.T
/-- Whatever the one answers, the other one answers. -/
def CLe (c c' : CallF) : Prop := ∀ f as h r, c f as h = some r → c' f as h = some r
theorem callD_mono {c c' : CallF} (hc : CLe c c') {pu : Nat} {st : St} {tk : List Nat} {f : Nat} {vs : List TV} {d : Dl} (h : callD c pu st tk f vs = some d) : callD c' pu st tk f vs = some d := by
  unfold callD at h ⊢
  split at h
  · rename_i hv
    rw [if_pos hv]
    split at h
    · split at h
      · rename_i r hr
        rw [hc _ _ _ _ hr]; exact h
      · cases h
    · split at h
      · rename_i r hr
        rw [hc _ _ _ _ hr]; exact h
      · cases h
    · split at h
      · rename_i r hr
        rw [hc _ _ _ _ hr]; exact h
      · cases h
    · split at h
      · rename_i r hr
        rw [hc _ _ _ _ hr]; exact h
      · cases h
    · split at h
      · rename_i hl
        split at h
        · rename_i r hr
          rw [if_pos hl, hc _ _ _ _ hr]; exact h
        · cases h
      · cases h
    · rename_i h0 h1 h3 h4 h5
      split at h
      · rename_i hl
        split at h
        · rename_i v kp hr
          rw [if_pos hl, hc _ _ _ _ hr]; exact h
        · cases h
      · cases h
  · cases h
theorem delta_mono {c c' : CallF} (hc : CLe c c') {st : St} {op : TOp} {d : Dl} (h : delta c st op = some d) : delta c' st op = some d := by
  cases op <;> try exact h
  case call pu f as =>
    simp only [delta] at h ⊢
    split at h
    · exact callD_mono hc h
    · cases h
  case callv pu x as =>
    simp only [delta] at h ⊢
    split at h
    · exact callD_mono hc h
    · cases h
  case calk ks x as =>
    simp only [delta] at h ⊢
    split at h
    · split at h
      · rename_i d' hd'
        rw [callD_mono hc hd']; exact h
      · cases h
    · cases h
theorem dlt_mono {c c' : CallF} (hc : CLe c c') {o : TOper} {st : St} {d : Dl} (h : dlt c o st = some d) : dlt c' o st = some d := by
  unfold dlt at h ⊢
  split at h
  · exact delta_mono hc h
  · exact h
  · cases h
theorem step_mono {c c' : CallF} (hc : CLe c c') {o : TOper} {st st' : St} (h : step c o st = some st') : step c' o st = some st' := by
  unfold step at h ⊢
  split at h
  · rename_i d hd
    rw [dlt_mono hc hd]; exact h
  · cases h
theorem steps_mono {c c' : CallF} (hc : CLe c c') : ∀ (os : List TOper) {st st' : St}, steps c os st = some st' → steps c' os st = some st'
  | [], st, st', h => h
  | o :: os, st, st', h => by
    simp only [steps] at h ⊢
    split at h
    · rename_i s hs
      rw [step_mono hc hs]; exact steps_mono hc os h
    · cases h
theorem loopN_mono {f g : St → Option (Ex × St)} (hf : ∀ s r, f s = some r → g s = some r) : ∀ {k k' : Nat} {st : St} {r : Ex × St}, k ≤ k' → loopN f k st = some r → loopN g k' st = some r
  | 0, _, st, r, _, h => by simp [loopN] at h
  | k + 1, 0, st, r, hk, h => by omega
  | k + 1, k' + 1, st, r, hk, h => by
    simp only [loopN] at h ⊢
    cases hs : f st with
    | none => rw [hs] at h; cases h
    | some x =>
      rw [hs] at h
      rw [hf _ _ hs]
      obtain ⟨e, s⟩ := x
      cases e
      · exact loopN_mono hf (by omega) h
      · exact h
      · exact h
theorem exec_mono {c c' : CallF} (hc : CLe c c') {k k' : Nat} (hk : k ≤ k') : ∀ (code : TC) {st : St} {r : Ex × St}, exec c k code st = some r → exec c' k' code st = some r := by
  intro code
  induction code with
  | skip => intro st r h; exact h
  | exit => intro st r h; exact h
  | ret => intro st r h; exact h
  | reg ops kill =>
    intro st r h
    simp only [exec] at h ⊢
    split at h
    · rename_i s hs
      rw [steps_mono hc ops hs]; exact h
    · cases h
  | seq a b iha ihb =>
    intro st r h
    simp only [exec] at h ⊢
    cases hs : exec c k a st with
    | none => rw [hs] at h; cases h
    | some x =>
      rw [hs] at h
      rw [iha hs]
      obtain ⟨e, s⟩ := x
      cases e
      · exact ihb h
      · exact h
      · exact h
  | cond x a b iha ihb =>
    intro st r h
    simp only [exec] at h ⊢
    split at h
    · exact iha h
    · exact ihb h
    · cases h
  | block id b ih =>
    intro st r h
    simp only [exec] at h ⊢
    cases hs : exec c k b st with
    | none => rw [hs] at h; cases h
    | some x => rw [hs] at h; rw [ih hs]; exact h
  | loop b ih =>
    intro st r h
    simp only [exec] at h ⊢
    exact loopN_mono (fun s r hs => ih hs) hk h
section
variable (tab : Nat → Option TF) (ext : Nat → Option CallF)
theorem callN_succ (n : Nat) : CLe (callN tab ext n) (callN tab ext (n + 1)) := by
  induction n with
  | zero => intro f as h r hc; simp [callN] at hc
  | succ n ih =>
    intro f as h r hc
    rw [callN] at hc ⊢
    split at hc
    · exact hc
    · split at hc
      · cases hc
      · rename_i tf htf
        split at hc
        · cases hc
        · rename_i e st hne hex
          rw [exec_mono ih (Nat.le_succ n) _ hex]
          cases e with
          | ex id => exact (hne id rfl).elim
          | norm => exact hc
          | ret => exact hc
        · cases hc
theorem callN_le {n m : Nat} (h : n ≤ m) : CLe (callN tab ext n) (callN tab ext m) := by
  induction h with
  | refl => exact fun _ _ _ _ h => h
  | step _ ih => exact fun f as h r hc => callN_succ tab ext _ f as h r (ih f as h r hc)
open Classical in
/-- What a call answers in the end. -/
noncomputable def callT : CallF := fun f as h => if hx : ∃ r, ∃ n, callN tab ext n f as h = some r then some (Classical.choose hx) else none
theorem callT_iff {f : Nat} {as : List TV} {h : Heap} {r : Ret} : callT tab ext f as h = some r ↔ ∃ n, callN tab ext n f as h = some r := by
  unfold callT
  constructor
  · intro hc
    split at hc
    · rename_i hx
      obtain rfl := Option.some.inj hc
      exact Classical.choose_spec hx
    · cases hc
  · rintro ⟨n, hn⟩
    have hx : ∃ r, ∃ n, callN tab ext n f as h = some r := ⟨r, n, hn⟩
    rw [dif_pos hx]
    obtain ⟨m, hm⟩ := Classical.choose_spec hx
    have h1 := callN_le tab ext (Nat.le_max_left n m) f as h _ hn
    have h2 := callN_le tab ext (Nat.le_max_right n m) f as h _ hm
    rw [h1] at h2
    exact h2.symm
theorem callN_T (n : Nat) : CLe (callN tab ext n) (callT tab ext) := fun f as h r hc => (callT_iff tab ext).2 ⟨n, hc⟩
end
section
variable {tab : Nat → Option TF} {ext : Nat → Option CallF}
/-- From some depth on. -/
def Ev (p : Nat → Prop) : Prop := ∃ N, ∀ n, N ≤ n → p n
theorem Ev.and {p q : Nat → Prop} (hp : Ev p) (hq : Ev q) : Ev fun n => p n ∧ q n := by
  obtain ⟨N, h⟩ := hp
  obtain ⟨M, k⟩ := hq
  exact ⟨max N M, fun n hn => ⟨h n (by omega), k n (by omega)⟩⟩
theorem Ev.mono {p q : Nat → Prop} (hp : Ev p) (h : ∀ n, p n → q n) : Ev q := by
  obtain ⟨N, k⟩ := hp
  exact ⟨N, fun n hn => h n (k n hn)⟩
theorem Ev.of {p : Nat → Prop} (h : ∀ n, p n) : Ev p := ⟨0, fun n _ => h n⟩
theorem callT_ev {f : Nat} {as : List TV} {h : Heap} {r : Ret} (hc : callT tab ext f as h = some r) : Ev fun n => callN tab ext n f as h = some r := by
  obtain ⟨n, hn⟩ := (callT_iff tab ext).1 hc
  exact ⟨n, fun m hm => callN_le tab ext hm f as h r hn⟩
theorem callD_ev {pu : Nat} {st : St} {tk : List Nat} {f : Nat} {vs : List TV} {d : Dl} (h : callD (callT tab ext) pu st tk f vs = some d) : Ev fun n => callD (callN tab ext n) pu st tk f vs = some d := by
  unfold callD at h
  split at h
  · rename_i hv
    split at h
    · split at h
      · rename_i r hr
        exact (callT_ev hr).mono fun n hn => by unfold callD; rw [if_pos hv]; simp only [hn]; exact h
      · cases h
    · split at h
      · rename_i r hr
        exact (callT_ev hr).mono fun n hn => by unfold callD; rw [if_pos hv]; simp only [hn]; exact h
      · cases h
    · split at h
      · rename_i r hr
        exact (callT_ev hr).mono fun n hn => by unfold callD; rw [if_pos hv]; simp only [hn]; exact h
      · cases h
    · split at h
      · rename_i r hr
        exact (callT_ev hr).mono fun n hn => by unfold callD; rw [if_pos hv]; simp only [hn]; exact h
      · cases h
    · split at h
      · rename_i hl
        split at h
        · rename_i r hr
          exact (callT_ev hr).mono fun n hn => by unfold callD; rw [if_pos hv]; simp only [if_pos hl, hn]; exact h
        · cases h
      · cases h
    · rename_i h0 h1 h3 h4 h5
      split at h
      · rename_i hl
        split at h
        · rename_i v kp hr
          refine (callT_ev hr).mono fun n hn => ?_
          unfold callD
          rw [if_pos hv]
          match pu, h0, h1, h3, h4, h5 with
          | 0, h0, _, _, _, _ => exact (h0 rfl).elim
          | 1, _, h1, _, _, _ => exact (h1 rfl).elim
          | 3, _, _, h3, _, _ => exact (h3 rfl).elim
          | 4, _, _, _, h4, _ => exact (h4 rfl).elim
          | 5, _, _, _, _, h5 => exact (h5 rfl).elim
          | 2, _, _, _, _, _ => simp only [if_pos hl, hn]; exact h
          | _ + 6, _, _, _, _, _ => simp only [if_pos hl, hn]; exact h
        · cases h
      · cases h
  · cases h
theorem delta_ev {st : St} {op : TOp} {d : Dl} (h : delta (callT tab ext) st op = some d) : Ev fun n => delta (callN tab ext n) st op = some d := by
  cases op <;> try exact Ev.of fun _ => h
  case call pu f as =>
    simp only [delta] at h ⊢
    split at h
    · exact callD_ev h
    · cases h
  case callv pu x as =>
    simp only [delta] at h ⊢
    split at h
    · exact callD_ev h
    · cases h
  case calk ks x as =>
    simp only [delta] at h
    split at h
    · rename_i f cs vs tk hx hvs
      split at h
      · rename_i d' hd'
        exact (callD_ev hd').mono fun n hn => by simp only [delta, hx, hvs, hn]; exact h
      · cases h
    · cases h
theorem step_ev {o : TOper} {st st' : St} (h : step (callT tab ext) o st = some st') : Ev fun n => step (callN tab ext n) o st = some st' := by
  unfold step at h
  split at h
  · rename_i d hd
    have : Ev fun n => dlt (callN tab ext n) o st = some d := by
      unfold dlt at hd
      split at hd
      · rename_i hw
        exact (delta_ev hd).mono fun n hn => by unfold dlt; rw [hw]; exact hn
      · rename_i hw
        exact Ev.of fun n => by unfold dlt; rw [hw]; exact hd
      · cases hd
    exact this.mono fun n hn => by unfold step; rw [hn]; exact h
  · cases h
theorem steps_ev : ∀ (os : List TOper) {st st' : St}, steps (callT tab ext) os st = some st' → Ev fun n => steps (callN tab ext n) os st = some st'
  | [], st, st', h => Ev.of fun _ => h
  | o :: os, st, st', h => by
    simp only [steps] at h ⊢
    split at h
    · rename_i s hs
      exact ((step_ev hs).and (steps_ev os h)).mono fun n hn => by rw [hn.1]; exact hn.2
    · cases h
end

/-- Until the loop is left. -/
def loopW (f : (Ex → St → Prop) → St → Prop) : Nat → (Ex → St → Prop) → St → Prop
  | 0, _, _ => False
  | k + 1, Q, st => f (fun e s => match e with | .norm => loopW f k Q s | e => Q e s) st
/-- The code ends, and then Q. -/
def W (call : CallF) : TC → (Ex → St → Prop) → St → Prop
  | .skip, Q, st => Q .norm st
  | .reg ops kill, Q, st => match steps call ops st with
    | some st' => Q .norm (st'.kill kill)
    | none => False
  | .seq a b, Q, st => W call a (fun e s => match e with | .norm => W call b Q s | e => Q e s) st
  | .cond c a b, Q, st => match ev st.t c with
    | some (.bool true) => W call a Q st
    | some (.bool false) => W call b Q st
    | _ => False
  | .block id body, Q, st => W call body (fun e s => match e with | .ex id' => if id' = id then Q .norm s else Q (.ex id') s | e => Q e s) st
  | .loop body, Q, st => ∃ k, loopW (W call body) k Q st
  | .exit id, Q, st => Q (.ex id) st
  | .ret, Q, st => Q .ret st
/-- How it ends hangs on nothing that is asked of it. -/
def Det (f : (Ex → St → Prop) → St → Prop) : Prop := ∀ Q st, f Q st → ∃ e s, Q e s ∧ ∀ Q', Q' e s → f Q' st
theorem loopW_det {f : (Ex → St → Prop) → St → Prop} (hf : Det f) : ∀ k, Det (loopW f k)
  | 0 => fun _ _ h => h.elim
  | k + 1 => fun Q st h => by
    obtain ⟨e, s, h1, h2⟩ := hf _ _ h
    cases e with
    | norm =>
      obtain ⟨e', s', k1, k2⟩ := loopW_det hf k _ _ h1
      exact ⟨e', s', k1, fun Q' hq => h2 _ (k2 Q' hq)⟩
    | ret => exact ⟨_, s, h1, fun Q' hq => h2 _ hq⟩
    | ex id => exact ⟨_, s, h1, fun Q' hq => h2 _ hq⟩
theorem W_det (call : CallF) : ∀ c, Det (W call c) := by
  intro c
  induction c with
  | skip => intro Q st h; exact ⟨_, _, h, fun _ h => h⟩
  | exit => intro Q st h; exact ⟨_, _, h, fun _ h => h⟩
  | ret => intro Q st h; exact ⟨_, _, h, fun _ h => h⟩
  | reg ops kill =>
    intro Q st h
    simp only [W] at h ⊢
    split at h
    · exact ⟨_, _, h, fun _ h => h⟩
    · exact h.elim
  | seq a b iha ihb =>
    intro Q st h
    simp only [W] at h ⊢
    obtain ⟨e, s, h1, h2⟩ := iha _ _ h
    cases e with
    | norm =>
      obtain ⟨e', s', k1, k2⟩ := ihb _ _ h1
      exact ⟨e', s', k1, fun Q' hq => h2 _ (k2 Q' hq)⟩
    | ret => exact ⟨_, s, h1, fun Q' hq => h2 _ hq⟩
    | ex id => exact ⟨_, s, h1, fun Q' hq => h2 _ hq⟩
  | cond x a b iha ihb =>
    intro Q st h
    simp only [W] at h ⊢
    split at h
    · exact iha _ _ h
    · exact ihb _ _ h
    · exact h.elim
  | block id b ih =>
    intro Q st h
    simp only [W] at h ⊢
    obtain ⟨e, s, h1, h2⟩ := ih _ _ h
    cases e with
    | norm => exact ⟨_, s, h1, fun Q' hq => h2 _ hq⟩
    | ret => exact ⟨_, s, h1, fun Q' hq => h2 _ hq⟩
    | ex id' =>
      simp only at h1
      by_cases hi : id' = id
      · rw [if_pos hi] at h1
        exact ⟨_, s, h1, fun Q' hq => h2 _ (by simp only [if_pos hi]; exact hq)⟩
      · rw [if_neg hi] at h1
        exact ⟨_, s, h1, fun Q' hq => h2 _ (by simp only [if_neg hi]; exact hq)⟩
  | loop b ih =>
    intro Q st h
    obtain ⟨k, h⟩ := h
    obtain ⟨e, s, h1, h2⟩ := loopW_det ih k _ _ h
    exact ⟨e, s, h1, fun Q' hq => ⟨k, h2 Q' hq⟩⟩
theorem W_mono {call : CallF} {c : TC} {Q Q' : Ex → St → Prop} {st : St} (h : W call c Q st) (hq : ∀ e s, Q e s → Q' e s) : W call c Q' st := by
  obtain ⟨e, s, h1, h2⟩ := W_det call c Q st h
  exact h2 _ (hq _ _ h1)
/-- A loop, once more. -/
theorem W_loop (call : CallF) (b : TC) (Q : Ex → St → Prop) (st : St) : W call (.loop b) Q st = W call b (fun e s => match e with | .norm => W call (.loop b) Q s | e => Q e s) st := by
  apply propext
  constructor
  · rintro ⟨k, h⟩
    cases k with
    | zero => exact h.elim
    | succ k =>
      refine W_mono h fun e s hq => ?_
      cases e with
      | norm => exact ⟨k, hq⟩
      | ret => exact hq
      | ex id => exact hq
  · intro h
    obtain ⟨e, s, h1, h2⟩ := W_det call b _ st h
    cases e with
    | norm =>
      obtain ⟨k, hk⟩ := h1
      exact ⟨k + 1, h2 _ hk⟩
    | ret => exact ⟨1, h2 _ h1⟩
    | ex id => exact ⟨1, h2 _ h1⟩
section
variable {tab : Nat → Option TF} {ext : Nat → Option CallF}
theorem loopW_ev {b : TC} (hb : ∀ Q st, W (callT tab ext) b Q st → ∃ e s, Q e s ∧ Ev fun n => exec (callN tab ext n) n b st = some (e, s)) : ∀ k Q st, loopW (W (callT tab ext) b) k Q st →
    ∃ e s, Q e s ∧ ∃ N, ∀ n, N ≤ n → loopN (exec (callN tab ext n) n b) (k + 1) st = some (e, s)
  | 0, _, _, h => h.elim
  | k + 1, Q, st, h => by
    obtain ⟨e, s, h1, N, h2⟩ := hb _ _ h
    cases e with
    | norm =>
      obtain ⟨e', s', k1, M, k2⟩ := loopW_ev hb k _ _ h1
      refine ⟨e', s', k1, max N M, fun n hn => ?_⟩
      rw [loopN, h2 n (by omega)]
      exact k2 n (by omega)
    | ret => exact ⟨_, s, h1, N, fun n hn => by rw [loopN, h2 n hn]⟩
    | ex id => exact ⟨_, s, h1, N, fun n hn => by rw [loopN, h2 n hn]⟩
theorem W_ev : ∀ (c : TC) (Q : Ex → St → Prop) (st : St), W (callT tab ext) c Q st → ∃ e s, Q e s ∧ Ev fun n => exec (callN tab ext n) n c st = some (e, s) := by
  intro c
  induction c with
  | skip => intro Q st h; exact ⟨_, _, h, Ev.of fun _ => rfl⟩
  | exit => intro Q st h; exact ⟨_, _, h, Ev.of fun _ => rfl⟩
  | ret => intro Q st h; exact ⟨_, _, h, Ev.of fun _ => rfl⟩
  | reg ops kill =>
    intro Q st h
    simp only [W] at h
    split at h
    · rename_i st' hst
      exact ⟨_, _, h, (steps_ev ops hst).mono fun n hn => by simp only [exec, hn]⟩
    · exact h.elim
  | seq a b iha ihb =>
    intro Q st h
    simp only [W] at h
    obtain ⟨e, s, h1, h2⟩ := iha _ _ h
    cases e with
    | norm =>
      obtain ⟨e', s', k1, k2⟩ := ihb _ _ h1
      exact ⟨e', s', k1, (h2.and k2).mono fun n hn => by simp only [exec, hn.1]; exact hn.2⟩
    | ret => exact ⟨_, s, h1, h2.mono fun n hn => by simp only [exec, hn]⟩
    | ex id => exact ⟨_, s, h1, h2.mono fun n hn => by simp only [exec, hn]⟩
  | cond x a b iha ihb =>
    intro Q st h
    simp only [W] at h
    split at h
    · rename_i hx
      obtain ⟨e, s, h1, h2⟩ := iha _ _ h
      exact ⟨e, s, h1, h2.mono fun n hn => by simp only [exec, hx]; exact hn⟩
    · rename_i hx
      obtain ⟨e, s, h1, h2⟩ := ihb _ _ h
      exact ⟨e, s, h1, h2.mono fun n hn => by simp only [exec, hx]; exact hn⟩
    · exact h.elim
  | block id b ih =>
    intro Q st h
    simp only [W] at h
    obtain ⟨e, s, h1, h2⟩ := ih _ _ h
    cases e with
    | norm => exact ⟨_, s, h1, h2.mono fun n hn => by simp only [exec, hn]⟩
    | ret => exact ⟨_, s, h1, h2.mono fun n hn => by simp only [exec, hn]⟩
    | ex id' =>
      simp only at h1
      by_cases hi : id' = id
      · rw [if_pos hi] at h1
        exact ⟨_, s, h1, h2.mono fun n hn => by simp only [exec, hn, if_pos hi]⟩
      · rw [if_neg hi] at h1
        exact ⟨_, s, h1, h2.mono fun n hn => by simp only [exec, hn, if_neg hi]⟩
  | loop b ih =>
    intro Q st h
    obtain ⟨k, h⟩ := h
    obtain ⟨e, s, h1, N, h2⟩ := loopW_ev ih k _ _ h
    refine ⟨e, s, h1, max N (k + 1), fun n hn => ?_⟩
    simp only [exec]
    exact loopN_mono (fun _ _ h => h) (by omega) (h2 n (by omega))
end
end Go.T
