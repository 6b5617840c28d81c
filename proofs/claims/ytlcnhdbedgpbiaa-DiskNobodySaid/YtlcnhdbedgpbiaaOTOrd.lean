/- The boxes only grow, and, while the mark is down, no old box leads to a younger one. -/
import Derived.Test.YtlcnhdbedgpbiaaOTStep
set_option linter.unusedVariables false
set_option linter.unusedSimpArgs false
set_option maxRecDepth 10000
namespace Go.T
structure Ord (s s' : St) : Prop where
  len : s.h.length ≤ s'.h.length
  base : s'.base = s.base
  keep : s'.keep = false → s.keep = false ∧ HOrd s.h s'.h
theorem HOrd.refl (h : Heap) : HOrd h h := fun _ _ _ _ hh => hh
theorem HOrd.trans {a b c : Heap} (h : HOrd a b) (k : HOrd b c) (hl : a.length ≤ b.length) : HOrd a c := fun i hi n hn hh => k i (by omega) n hn (h i hi n hn hh)
theorem Ord.refl (s : St) : Ord s s := ⟨Nat.le_refl _, rfl, fun h => ⟨h, .refl _⟩⟩
theorem Ord.trans {a b c : St} (h : Ord a b) (k : Ord b c) : Ord a c where
  len := Nat.le_trans h.len k.len
  base := k.base.trans h.base
  keep hk := ⟨(h.keep (k.keep hk).1).1, (h.keep (k.keep hk).1).2.trans (k.keep hk).2 h.len⟩
theorem HOrd.app (h : Heap) (x : List TV) : HOrd h (h ++ [x]) := by
  intro i hi b hb hh
  simp only [List.getD_eq_getElem?_getD, List.getElem?_append_left hi] at *
  exact hh
theorem HOrd.set {h : Heap} {i : Nat} {cs : List TV} (hc : ∀ b, i < b → TV.lts b (h.getD i []) = true → TV.lts b cs = true) : HOrd h (h.set i cs) := by
  intro j hj b hb hh
  simp only [List.getD_eq_getElem?_getD, List.getElem?_set] at *
  by_cases hij : i = j
  · subst hij
    simp [hj]
    exact hc b hb hh
  · simp only [if_neg hij]
    exact hh
theorem lts_splice {b o : Nat} {cs vs : List TV} (h : TV.lts b cs = true) (hv : TV.lts b vs = true) : TV.lts b (splice cs o vs) = true := by
  rw [lts_iff] at *
  intro x hx
  unfold splice at hx
  rcases List.mem_append.1 hx with hx | hx
  · exact h x (List.mem_of_mem_take hx)
  · rcases List.mem_append.1 hx with hx | hx
    · exact hv x hx
    · exact h x (List.mem_of_mem_drop hx)
theorem lt_shr0 {b : Nat} (x : TV) : TV.lt b x.shr0 = TV.lt b x := by cases x <;> rfl
theorem cut_mem {cs us : List TV} {o n : Nat} (h : cut cs o n = some us) : ∀ x ∈ us, x ∈ cs := by
  unfold cut at h
  split at h
  · obtain rfl := Option.some.inj h
    exact fun x hx => List.mem_of_mem_drop (List.mem_of_mem_take hx)
  · cases h
theorem lts_flat {b : Nat} {l : List TV} (h : TV.lts b l = true) : TV.lts b (flat l) = true := by
  rw [lts_iff] at *
  intro x hx
  obtain ⟨e, he, hx⟩ := List.mem_flatMap.1 hx
  exact cells_lt (h e he) hx
theorem lts_take {b n : Nat} {l : List TV} (h : TV.lts b l = true) : TV.lts b (l.take n) = true := by
  rw [lts_iff] at *
  exact fun x hx => h x (List.mem_of_mem_take hx)
def HwOk (st : St) (d : Dl) : Prop := ∀ h' k', d.hw = some (h', k') → st.h.length ≤ h'.length ∧ (k' = false → st.keep = false ∧ HOrd st.h h')
theorem HwOk.none {st : St} {d : Dl} (h : d.hw = none) : HwOk st d := fun h' k' hh => by rw [h] at hh; cases hh
theorem HwOk.some {st : St} {d : Dl} {h : Heap} {k : Bool} (e : d.hw = some (h, k)) (hl : st.h.length ≤ h.length) (hk : k = false → st.keep = false ∧ HOrd st.h h) : HwOk st d := fun h' k' hh => by
  rw [e] at hh; cases hh; exact ⟨hl, hk⟩
theorem HOrd.take {h h' : Heap} {n : Nat} (hn : h.length ≤ n) (k : HOrd h h') : HOrd h (h'.take n) := by
  intro i hi b hb hh
  have := k i hi b hb hh
  simp only [List.getD_eq_getElem?_getD, List.getElem?_take, if_pos (show i < n by omega)] at this ⊢
  exact this
theorem trim_ord {fz : Bool} {h : Heap} {r : Ret} (h1 : h.length ≤ r.h.length) (h2 : r.kp = false → HOrd h r.h) : (trim fz h.length r).kp = false → HOrd h (trim fz h.length r).h := by
  by_cases ha : r.h.length = h.length
  · unfold trim; rw [if_pos ha]; exact h2
  by_cases hk : r.kp = true
  · unfold trim; rw [if_neg ha, if_pos hk]; exact h2
  have ht := (h2 (by simpa using hk)).take (Nat.le_refl _)
  unfold trim
  rw [if_neg ha, if_neg hk]
  simp only
  split <;> split <;> first | exact h2 | exact fun _ => ht
theorem callD_ord {call : CallF} (hc : OrdC call) {pu f : Nat} {st : St} {tk : List Nat} {vs : List TV} {d : Dl} (hd : callD call pu st tk f vs = some d) : HwOk st d := by
  unfold callD at hd
  split at hd
  · split at hd
    · split at hd
      · rename_i r hr
        obtain rfl := Option.some.inj hd
        obtain ⟨h1, h2⟩ := hc _ _ _ _ hr
        exact HwOk.some rfl h1 (fun hk => by simp at hk; exact ⟨hk.1, h2 hk.2⟩)
      · cases hd
    · split at hd
      · split at hd
        · obtain rfl := Option.some.inj hd
          exact HwOk.none rfl
        · cases hd
      · cases hd
    · split at hd
      · rename_i r hr
        obtain rfl := Option.some.inj hd
        obtain ⟨h1, h2⟩ := hc _ _ _ _ hr
        exact HwOk.some rfl (trim_len h1) (fun hk => by simp at hk; exact ⟨hk.1, trim_ord h1 h2 hk.2⟩)
      · cases hd
    · split at hd
      · split at hd
        · obtain rfl := Option.some.inj hd
          exact HwOk.none rfl
        · cases hd
      · cases hd
    · split at hd
      · split at hd
        · split at hd
          · obtain rfl := Option.some.inj hd
            exact HwOk.none rfl
          · cases hd
        · cases hd
      · cases hd
    · split at hd
      · split at hd
        · obtain rfl := Option.some.inj hd
          exact HwOk.none rfl
        · cases hd
      · cases hd
  · cases hd
theorem lts_shr0 {b : Nat} {l : List TV} (h : TV.lts b l = true) : TV.lts b (l.map TV.shr0) = true := by
  rw [lts_iff] at *
  intro x hx
  obtain ⟨y, hy, rfl⟩ := List.mem_map.1 hx
  rw [lt_shr0]; exact h y hy
theorem lts_append {b : Nat} {l l2 : List TV} (h : TV.lts b l = true) (h2 : TV.lts b l2 = true) : TV.lts b (l ++ l2) = true := by
  rw [lts_iff] at *
  intro x hx
  rcases List.mem_append.1 hx with hx | hx
  · exact h x hx
  · exact h2 x hx
theorem lts_rep {b n : Nat} {z : List TV} (h : TV.lts 0 z = true) : TV.lts b (flat (List.replicate n (.agg z))) = true := by
  apply lts_flat
  rw [lts_iff]
  intro x hx
  obtain rfl := List.eq_of_mem_replicate hx
  exact TV.lts_mono (Nat.zero_le _) _ h
theorem delta_ord {call : CallF} (hc : OrdC call) {st : St} {x : TOp} {d : Dl} (hd : delta call st x = some d) : HwOk st d := by
  cases x with
  | hbx tk x =>
    simp only [delta] at hd
    repeat' split at hd
    all_goals first | (cases hd; done) | skip
    all_goals (obtain rfl := Option.some.inj hd; exact HwOk.some rfl (by simp) (fun hk => ⟨hk, .app _ _⟩))
  | hal z =>
    simp only [delta] at hd
    obtain rfl := Option.some.inj hd
    exact HwOk.some rfl (by simp) (fun hk => ⟨hk, .app _ _⟩)
  | mks ag sz bytes z l c =>
    simp only [delta] at hd
    repeat' split at hd
    all_goals first | (cases hd; done) | skip
    all_goals (obtain rfl := Option.some.inj hd; exact HwOk.some rfl (by simp) (fun hk => ⟨hk, .app _ _⟩))
  | ldh tk ag n p =>
    simp only [delta] at hd
    split at hd
    · rename_i vs hg
      split at hd
      · split at hd
        · rename_i i o hp
          obtain rfl := Option.some.inj hd
          refine HwOk.some rfl (by simp) (fun hk => ⟨hk, .set (fun b hb hh => lts_splice hh ?_)⟩)
          simp only [hp, getH] at hg
          split at hg
          · rename_i cs hcs0
            have hcs := (live_some hcs0).1
            rw [lts_iff]
            intro y hy
            obtain ⟨z, hz, rfl⟩ := List.mem_map.1 hy
            rw [lt_shr0]
            have : st.h.getD i [] = cs := by simp [hcs]
            rw [this] at hh
            exact lts_iff.1 hh z (cut_mem hg z hz)
          · cases hg
        · cases hd
      · obtain rfl := Option.some.inj hd
        exact HwOk.none rfl
    · cases hd
  | sth tk n p x =>
    simp only [delta] at hd
    split at hd
    · split at hd
      · split at hd
        · split at hd
          · obtain rfl := Option.some.inj hd
            rename_i cs hcs0 _
            have hcs := (live_some hcs0).1
            refine HwOk.some rfl (by simp) (fun hk => ?_)
            simp [keeps] at hk
            refine ⟨hk.1, .set (fun b hb hh => lts_splice ?_ (TV.lts_mono (by omega) _ hk.2))⟩
            simpa [hcs] using hh
          · cases hd
        · cases hd
      · cases hd
    · cases hd
  | cpy sz x y =>
    simp only [delta] at hd
    split at hd
    · split at hd
      · rename_i cs hcs0
        have hcs := (live_some hcs0).1
        split at hd
        · obtain rfl := Option.some.inj hd
          refine HwOk.some rfl (by simp) (fun hk => ?_)
          simp [keeps] at hk
          exact ⟨hk.1, .set (fun b hb hh => lts_splice (by simpa [hcs] using hh) (lts_flat (lts_take (TV.lts_mono (by omega) _ hk.2))))⟩
        · cases hd
      · cases hd
    · cases hd
  | bsr ag sz n z ps =>
    simp only [delta] at hd
    split at hd
    · obtain rfl := Option.some.inj hd
      exact HwOk.some rfl (by simp) (fun hk => ⟨hk, .app _ _⟩)
    · cases hd
  | clr z x =>
    simp only [delta] at hd
    split at hd
    · obtain rfl := Option.some.inj hd
      exact HwOk.none rfl
    · split at hd
      · rename_i cs hcs0
        have hcs := (live_some hcs0).1
        split at hd
        · rename_i hcond
          obtain rfl := Option.some.inj hd
          exact HwOk.some rfl (by simp) (fun hk => ⟨hk, .set (fun b hb hh => lts_splice (by simpa [hcs] using hh) (lts_rep hcond.2.2))⟩)
        · cases hd
      · cases hd
    · cases hd
  | apr ag sz bytes x y =>
    simp only [delta] at hd
    split at hd
    · split at hd
      · split at hd
        · obtain rfl := Option.some.inj hd
          exact HwOk.none rfl
        · obtain rfl := Option.some.inj hd
          exact HwOk.some rfl (by simp) (fun hk => ⟨hk, .app _ _⟩)
      · cases hd
    · split at hd
      · rename_i cs hcs0
        have hcs := (live_some hcs0).1
        split at hd
        · split at hd
          · obtain rfl := Option.some.inj hd
            exact HwOk.none rfl
          · split at hd
            · obtain rfl := Option.some.inj hd
              refine HwOk.some rfl (by simp) (fun hk => ?_)
              simp [keeps] at hk
              exact ⟨hk.1, .set (fun b hb hh => lts_splice (by simpa [hcs] using hh) (lts_flat (TV.lts_mono (by omega) _ hk.2)))⟩
            · obtain rfl := Option.some.inj hd
              refine HwOk.some rfl (by simp) (fun hk => ⟨hk, ?_⟩)
              exact (HOrd.set (fun b _ _ => rfl)).trans (.app _ _) (by simp)
        · cases hd
      · cases hd
    · cases hd
  | calk ks x as =>
    simp only [delta] at hd
    split at hd
    · split at hd
      · rename_i d' hd'
        have hdd : d' = d := by (split at hd) <;> (split at hd) <;> first | exact Option.some.inj hd | cases hd
        subst hdd
        exact callD_ord hc hd'
      · cases hd
    · cases hd
  | call pu f as =>
    simp only [delta] at hd
    split at hd
    · exact callD_ord hc hd
    · cases hd
  | callv pu x as =>
    simp only [delta] at hd
    split at hd
    · exact callD_ord hc hd
    · cases hd
  | _ =>
    simp only [delta] at hd
    repeat' split at hd
    all_goals first | (cases hd; done) | skip
    all_goals (obtain rfl := Option.some.inj hd; exact HwOk.none rfl)
theorem ap_ord {st : St} {d : Dl} (h : HwOk st d) (dst : Option Nat) : Ord st (d.ap dst st) := by
  unfold Dl.ap
  cases hw : d.hw with
  | none => exact ⟨Nat.le_refl _, rfl, fun hk => ⟨by simpa [hw] using hk, by simpa [hw] using HOrd.refl _⟩⟩
  | some p =>
    obtain ⟨h', k'⟩ := p
    obtain ⟨h1, h2⟩ := h h' k' hw
    exact ⟨by simpa [hw] using h1, rfl, fun hk => by simpa [hw] using h2 (by simpa [hw] using hk)⟩
theorem step_ord {call : CallF} (hc : OrdC call) {x : TOper} {st st' : St} (h : step call x st = some st') : Ord st st' := by
  unfold step at h
  split at h
  · rename_i d hd
    split at h
    · obtain rfl := Option.some.inj h
      unfold dlt at hd
      split at hd
      · exact ap_ord (delta_ord hc hd) _
      · obtain rfl := Option.some.inj hd
        exact ap_ord (.none rfl) _
      · cases hd
    · cases h
  · cases h
theorem steps_ord {call : CallF} (hc : OrdC call) : ∀ (xs : List TOper) (st st' : St), steps call xs st = some st' → Ord st st' := by
  intro xs
  induction xs with
  | nil => intro st st' h; simp [steps] at h; subst h; exact .refl _
  | cons x xs ih =>
    intro st st' h
    simp only [steps] at h
    split at h
    · rename_i st1 h1
      exact (step_ord hc h1).trans (ih _ _ h)
    · cases h
theorem kill_ord (st : St) (ks : List Nat) : Ord st (st.kill ks) := ⟨Nat.le_refl _, rfl, fun h => ⟨h, .refl _⟩⟩
theorem loopN_ord {f : St → Option (Ex × St)} (hf : ∀ st e st', f st = some (e, st') → Ord st st') : ∀ (k : Nat) (st : St) (e : Ex) (st' : St), loopN f k st = some (e, st') → Ord st st' := by
  intro k
  induction k with
  | zero => intro st e st' h; simp [loopN] at h
  | succ k ih =>
    intro st e st' h
    simp only [loopN] at h
    split at h
    · rename_i st1 h1
      exact (hf _ _ _ h1).trans (ih _ _ _ h)
    · exact hf _ _ _ h
theorem exec_ord {call : CallF} (hc : OrdC call) (k : Nat) : ∀ (x : TC) (st : St) (e : Ex) (st' : St), exec call k x st = some (e, st') → Ord st st' := by
  intro x
  induction x with
  | skip => intro st e st' h; simp [exec] at h; obtain ⟨_, rfl⟩ := h; exact .refl _
  | exit id => intro st e st' h; simp [exec] at h; obtain ⟨_, rfl⟩ := h; exact .refl _
  | ret => intro st e st' h; simp [exec] at h; obtain ⟨_, rfl⟩ := h; exact .refl _
  | reg ops ks =>
    intro st e st' h
    simp only [exec] at h
    split at h
    · rename_i st1 h1
      simp at h
      obtain ⟨_, rfl⟩ := h
      exact (steps_ord hc _ _ _ h1).trans (kill_ord _ _)
    · cases h
  | seq a b iha ihb =>
    intro st e st' h
    simp only [exec] at h
    split at h
    · rename_i st1 h1
      exact (iha _ _ _ h1).trans (ihb _ _ _ h)
    · exact iha _ _ _ h
  | cond c a b iha ihb =>
    intro st e st' h
    simp only [exec] at h
    split at h
    · exact iha _ _ _ h
    · exact ihb _ _ _ h
    · cases h
  | block id b ih =>
    intro st e st' h
    simp only [exec] at h
    split at h
    · rename_i id' st1 h1
      split at h <;> (simp at h; obtain ⟨_, rfl⟩ := h; exact ih _ _ _ h1)
    · exact ih _ _ _ h
  | loop b ih =>
    intro st e st' h
    simp only [exec] at h
    exact loopN_ord ih _ _ _ _ h
end Go.T
