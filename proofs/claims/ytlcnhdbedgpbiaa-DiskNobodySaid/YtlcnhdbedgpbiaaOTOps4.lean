/- Operations of the small machine: addresses, elements, fields, functions. -/
import Derived.Test.YtlcnhdbedgpbiaaOTOps3
set_option linter.unusedVariables false
set_option linter.unusedSimpArgs false
set_option maxRecDepth 10000
namespace Go.T
section
variable {P : Program} {w : World} {g : Gh} {ow : Ow} {st : St} {a : Act} {o : Oper} {dst : Option Nat}
theorem snd_sls {x : Src} {lo hi : Option Src} {d : Dl} (hc : chkOp P o.op (.sls x lo hi) = true) (hI : Inv w g ow st a) {call : CallF} (hd : delta call st (.sls x lo hi) = some d) {Q : Exit → Act → World → Prop} :
    o.wp P a w (Nxt w g ow st.h.length (d.ap o.dst st)) Q := by
  cases hop : o.op <;> rw [hop] at hc <;> try (simp [chkOp] at hc; done)
  rename_i t y lo' hi' mx'
  cases mx' <;> simp [chkOp] at hc
  obtain ⟨⟨⟨hs, c1⟩, c2⟩, c3⟩ := hc
  have ht := isStr_of hs
  simp only [delta] at hd
  split at hd
  · rename_i s ex
    split at hd
    · rename_i h hh
      split at hd
      · rename_i b hb
        obtain rfl := Option.some.inj hd
        have h1 := (ev_spec hI c1 ex).1.str_inv
        obtain ⟨bh, kh⟩ := bound_spec hI c3 hh
        obtain ⟨bb, kb⟩ := bound_spec hI c2 hb
        have hbh : b ≤ h := by
          cases lo' with
          | none => have : b = 0 := bb; omega
          | some z => exact kb rfl
        have hhs : h ≤ s.size := by
          cases hi' with
          | none => have : h = s.size := bh; omega
          | some z => exact kh rfl
        have hb2 := run_bounds (P := P) (w := w) (mx := none) (cap := s.size) (m := s.size) false bb bh rfl hbh hhs (Nat.le_refl _) (by simp)
        refine wp_val (w' := w) (v := .string (s.extract b h)) ?_ (hI.nx0 o.dst (cellR (.str _) rfl rfl))
        unfold execOp; rw [hop]
        simp [h1, Instr.sliceAt, Instr.slice, run_underlying ht, hb2]
      · cases hd
    · cases hd
  · cases hd
/-- An operand as an address. -/
theorem ad_spec (hI : Inv w g ow st a) {o : Operand} {x : Src} (hc : chkS o x = true) : 
    (∀ i off, ad st.t x = .ptr i off → a.eval o = .pointer (some (at_ (g.nu i) off)) ∧ i < st.h.length) ∧
    (∀ cs, ad st.t x = .cp cs → VR w g st.h.length (.cp cs) (a.eval o)) ∧
    (∀ f cs, ad st.t x = .fn f cs → VR w g st.h.length (.fn f cs) (a.eval o)) ∧
    (∀ b off, ad st.t x = .lp b off → ∀ cs, sl st.t b = .lbox cs → ∃ k, a.tmps.getD b undef = .pointer (some (at_ k 0)) ∧ a.eval o = .pointer (some (at_ k off))) := by
  unfold chkS at hc
  split at hc
  · rename_i t t'
    obtain rfl := eq_of_beq hc
    have hj := hI.slot t
    have he : a.eval (.tmp t) = a.tmps.getD t undef := rfl
    simp only [ad, he]
    generalize hv : a.tmps.getD t undef = v at hj ⊢
    generalize hx : sl st.t t = x at hj ⊢
    cases x <;> simp only [SlotR] at hj
    case ptr i off =>
      refine ⟨?_, by simp, by simp, by simp⟩
      intro i' off' hh
      cases hh
      cases hj.1 with
      | ptr _ _ h => exact ⟨rfl, h⟩
    case cp cs => exact ⟨by simp, (by intro cs' h; cases h; exact hj.1), by simp, by simp⟩
    case fn f cs => exact ⟨by simp, by simp, (by intro f' cs' h; cases h; exact hj.1), by simp⟩
    case lp b off =>
      refine ⟨by simp, by simp, by simp, ?_⟩
      intro b' off' hh cs hb
      cases hh
      exact hj cs hb
    case lbox cs =>
      refine ⟨by simp, by simp, by simp, ?_⟩
      intro b' off' hh cs' hb
      cases hh
      obtain ⟨k, h1, h2⟩ := hj
      exact ⟨k, by rw [hv]; exact h1, h1⟩
    all_goals exact ⟨by simp, by simp, by simp, by simp⟩
  · rename_i v y
    simp only [ad]
    have h := (cvalA_VR (w := w) (g := g) (m := st.h.length) hc)
    have he : a.eval (.const v) = v := rfl
    rw [he]
    refine ⟨?_, ?_, ?_, ?_⟩
    · intro i off hh
      rw [hh] at h
      cases h.1 with
      | ptr _ _ h' => exact ⟨rfl, h'⟩
    · intro cs hh; rw [hh] at h; exact h.1
    · intro f cs hh; rw [hh] at h; exact h.1
    · intro b off hh
      rw [hh] at h
      exact absurd h.2.1 (by simp [plainV])
  · rename_i f f'
    obtain rfl := eq_of_beq hc
    simp only [ad]
    refine ⟨by simp, by simp, ?_, by simp⟩
    intro f2 cs hh
    cases hh
    exact .fn _ [] #[] rfl (by simp) (by simp)
  · cases hc
theorem fields_of {t : TypeId} {fs : Array Field} (h : fieldsOf P t = some fs) : P.underlying t = some (.struct fs) := by
  unfold fieldsOf at h
  split at h
  · obtain rfl := Option.some.inj h; assumption
  · cases h
theorem info_of {t : TypeId} {n : Nat} (h : szOf P t = some n) : ∃ i, P.info? t = some i ∧ i.size = n := by
  unfold szOf at h
  cases hi : P.info? t with
  | none => rw [hi] at h; cases h
  | some i => rw [hi] at h; exact ⟨i, rfl, by simpa using h⟩
theorem run_fa {t : TypeId} {fs : Array Field} {i : Nat} {f : Field} (ht : P.underlying t = some (.struct fs)) (hf : fs[i]? = some f) {n : Nat} (hs : szOf P f.type = some n) (hn : 0 < n) (b o : Nat) :
    (Instr.fieldAt t (.pointer (some (at_ b o))) i).run P w = .ok (.pointer (some (at_ b (o + f.offset)))) w := by
  obtain ⟨ti, h1, h2⟩ := info_of hs
  have hne : ti.size ≠ 0 := by omega
  simp [Instr.fieldAt, run_underlying ht, hf, Instr.sureAddr, fieldPlace, sizeOf, typeInfo, h1, hne, at_add]
theorem VR.cpDrop {m : Nat} {cs : List TV} {b o : Nat} (off : Nat) (h : VR w g m (.cp cs) (.pointer (some (at_ b o)))) : VR w g m (.cp (cs.drop off)) (.pointer (some (at_ b (o + off)))) := by
  cases h with
  | cp _ _ _ vals h hr =>
    refine .cp _ _ _ (fun j => vals (off + j)) (fun j x hx => ?_) (fun j x hx => ?_)
    · rw [List.getElem?_drop] at hx
      obtain ⟨h1, h2, h3⟩ := h _ x hx
      rw [← Nat.add_assoc] at h2 h3
      exact ⟨h1, h2, h3⟩
    · rw [List.getElem?_drop] at hx
      exact hr _ x hx
theorem snd_fa {off : Nat} {x : Src} {d : Dl} (hc : chkOp P o.op (.fa off x) = true) (hI : Inv w g ow st a) {call : CallF} (hd : delta call st (.fa off x) = some d) {Q : Exit → Act → World → Prop} :
    o.wp P a w (Nxt w g ow st.h.length (d.ap o.dst st)) Q := by
  cases hop : o.op <;> rw [hop] at hc <;> try (simp [chkOp] at hc; done)
  rename_i t y i
  simp only [chkOp] at hc
  split at hc
  · rename_i fs hfs
    have ht := fields_of hfs
    simp at hc
    obtain ⟨hc, c1⟩ := hc
    split at hc
    · rename_i f hf
      simp at hc
      obtain ⟨rfl, hc⟩ := hc
      split at hc
      · rename_i n hn
        simp at hc
        obtain ⟨s1, s2, s3, s4⟩ := ad_spec hI c1
        have hex : ∀ b o', a.eval y = .pointer (some (at_ b o')) → (execOp a.eval o).run P w = .ok (.value (.pointer (some (at_ b (o' + f.offset))))) w := by
          intro b o' h
          unfold execOp; rw [hop]
          simp only [h, Sem.run_bind, run_fa (P := P) (w := w) ht hf hn hc, Result.andThen_ok]
          rfl
        simp only [delta] at hd
        split at hd
        · rename_i j o' e
          obtain rfl := Option.some.inj hd
          obtain ⟨h1, h2⟩ := s1 _ _ e
          exact wp_val (hex _ _ h1) (hI.nx0 o.dst (cellR (.ptr _ _ h2) rfl rfl))
        · rename_i cs e
          obtain rfl := Option.some.inj hd
          have h1 := s2 _ e
          generalize hq : a.eval y = q at h1
          have h1' := h1
          cases h1 with
          | cp _ b o' vals h hr =>
            refine wp_val (hex _ _ hq) (hI.nx0 o.dst (cellR (h1'.cpDrop f.offset) rfl rfl))
        · rename_i b o' e
          split at hd
          · rename_i cs hb
            obtain rfl := Option.some.inj hd
            obtain ⟨k, k1, k2⟩ := s4 _ _ e cs hb
            refine wp_val (hex _ _ k2) ⟨g, ow, hI.refl, ?_⟩
            cases hdst : o.dst with
            | none => exact ⟨hI.defers, hI.len, hI.slot, hI.box, hI.bd, hI.base⟩
            | some i => exact hI.putLp i b (o' + f.offset) (fun cs' hb' => ⟨k, k1, rfl⟩)
          · cases hd
        · cases hd
      · cases hc
    · cases hc
  · cases hc
theorem snd_nilc {x : Src} {d : Dl} (hc : chkOp P o.op (.nilc x) = true) (hI : Inv w g ow st a) {call : CallF} (hd : delta call st (.nilc x) = some d) {Q : Exit → Act → World → Prop} :
    o.wp P a w (Nxt w g ow st.h.length (d.ap o.dst st)) Q := by
  cases hop : o.op <;> rw [hop] at hc <;> try (simp [chkOp] at hc; done)
  rename_i y
  simp only [chkOp] at hc
  obtain ⟨s1, s2, s3, s4⟩ := ad_spec hI hc
  have hex : ∀ b, a.eval y = .pointer (some b) → (execOp a.eval o).run P w = .ok (.value (.pointer (some b))) w := by
    intro b h
    unfold execOp; rw [hop]; simp only [h]; rfl
  simp only [delta] at hd
  split at hd
  · rename_i j o' e
    obtain rfl := Option.some.inj hd
    obtain ⟨h1, h2⟩ := s1 _ _ e
    exact wp_val (hex _ h1) (hI.nx0 o.dst (cellR (.ptr _ _ h2) rfl rfl))
  · rename_i cs e
    obtain rfl := Option.some.inj hd
    have h1 := s2 _ e
    generalize hq : a.eval y = q at h1
    have h1' := h1
    cases h1 with
    | cp _ b o' vals h hr => exact wp_val (hex _ hq) (hI.nx0 o.dst (cellR h1' rfl rfl))
  · rename_i b o' e
    split at hd
    · rename_i cs hb
      obtain rfl := Option.some.inj hd
      obtain ⟨k, k1, k2⟩ := s4 _ _ e cs hb
      refine wp_val (hex _ k2) ⟨g, ow, hI.refl, ?_⟩
      cases hdst : o.dst with
      | none => exact ⟨hI.defers, hI.len, hI.slot, hI.box, hI.bd, hI.base⟩
      | some i => exact hI.putLp i b o' (fun cs' hb' => ⟨k, k1, rfl⟩)
    · cases hd
  · rename_i f cs e
    obtain rfl := Option.some.inj hd
    have h1 := s3 _ _ e
    generalize hq : a.eval y = q at h1
    have h1' := h1
    cases h1 with
    | fn _ _ vs hl h hr =>
      refine wp_val (v := .func (.func f) #[] vs) (w' := w) ?_ (hI.nx0 o.dst (cellR h1' rfl rfl))
      unfold execOp; rw [hop]; simp only [hq]; rfl
  · cases hd
theorem run_ia {t e : TypeId} {sz : Nat} (ht : P.underlying t = some (.slice e)) (hs : szOf P e = some sz) (b o n c : Nat) (k : IntKind) (i : Int) (h0 : 0 ≤ i) (h1 : i < n) :
    (Instr.indexAt t (.slice (some (at_ b o)) n c) (.int k i)).run P w = .ok (.pointer (some (at_ b (o + i.toNat * sz)))) w := by
  obtain ⟨ti, h2, h3⟩ := info_of hs
  have h1' : i < (n : Int) := h1
  simp [Instr.indexAt, asIntOf, run_underlying ht, h0, h1', sizeOf, typeInfo, h2, h3, at_add]
theorem snd_ia {sz : Nat} {x i : Src} {d : Dl} (hc : chkOp P o.op (.ia sz x i) = true) (hI : Inv w g ow st a) {call : CallF} (hd : delta call st (.ia sz x i) = some d) {Q : Exit → Act → World → Prop} :
    o.wp P a w (Nxt w g ow st.h.length (d.ap o.dst st)) Q := by
  cases hop : o.op <;> rw [hop] at hc <;> try (simp [chkOp] at hc; done)
  rename_i t y z
  simp only [chkOp] at hc
  split at hc
  · rename_i el hel
    have ht := elem_of hel
    simp at hc
    obtain ⟨⟨⟨hs, hz⟩, c1⟩, c2⟩ := hc
    simp only [delta] at hd
    split at hd
    · rename_i tg l k n e1 e2
      split at hd
      · rename_i h0
        split at hd
        · rename_i e he
          split at hd
          · rename_i hw
            obtain rfl := Option.some.inj hd
            have h1 := (ev_spec hI c1 e1).1
            have h2 := (ev_spec hI c2 e2).1.int_inv
            generalize hq : a.eval y = q at h1
            have hlt : n.toNat < l.length := (List.getElem?_eq_some_iff.1 he).1
            cases h1 with
            | sl _ _ A c sz0 vals hz0 hcap hmm hA hn hE h' hr =>
              cases A with
              | none => have := hn rfl; subst this; simp at he
              | some ad =>
                obtain ⟨b, off, sp⟩ := ad
                obtain rfl : sp = none := hA _ rfl (by have := (List.getElem?_eq_some_iff.1 he).1; omega)
                have hs0 : sz0 = sz := by rw [← hE e (List.mem_of_getElem? he)]; exact hw
                subst hs0
                have hrun := run_ia (P := P) (w := w) ht hs b off l.length c k n h0 (by omega)
                refine wp_val (w' := w) (v := .pointer (some (at_ b (off + n.toNat * sz0)))) ?_ (hI.nx0 o.dst (cellR (.cp _ _ _ (fun j => vals n.toNat j) (fun j x hx => ?_) (fun j x hx => hr _ e j x he hx)) rfl rfl))
                · unfold execOp; rw [hop]
                  simp only [hq, h2, Sem.run_bind, hrun, Result.andThen_ok]
                  rfl
                · obtain ⟨k1, k2, k3⟩ := h' _ _ e j x rfl he hx
                  rw [← Nat.add_assoc] at k2 k3
                  exact ⟨k1, k2, k3⟩
          · cases hd
        · cases hd
      · cases hd
    · rename_i ag s b off m k n e1 e2
      split at hd
      · rename_i hb
        obtain ⟨h0, hlt, rfl⟩ := hb
        obtain rfl := Option.some.inj hd
        have h1 := (ev_spec hI c1 e1).1
        have h2 := (ev_spec hI c2 e2).1.int_inv
        generalize hq : a.eval y = q at h1
        cases h1 with
        | asl _ _ _ _ _ c hi2 hcn hmm hrow =>
          have hrun := run_ia (P := P) (w := w) ht hs (g.nu b) off m c k n h0 hlt
          refine wp_val (w' := w) (v := .pointer (some (at_ (g.nu b) (off + n.toNat * s)))) ?_ (hI.nx0 o.dst (cellR (.ptr _ _ hi2) rfl rfl))
          unfold execOp; rw [hop]
          simp only [hq, h2, Sem.run_bind, hrun, Result.andThen_ok]
          rfl
      · cases hd
    · cases hd
  · cases hc
theorem snd_sx {x i : Src} {d : Dl} (hc : chkOp P o.op (.sx x i) = true) (hI : Inv w g ow st a) {call : CallF} (hd : delta call st (.sx x i) = some d) {Q : Exit → Act → World → Prop} :
    o.wp P a w (Nxt w g ow st.h.length (d.ap o.dst st)) Q := by
  cases hop : o.op <;> rw [hop] at hc <;> try (simp [chkOp] at hc; done)
  rename_i t y z
  simp [chkOp] at hc
  obtain ⟨⟨hs, c1⟩, c2⟩ := hc
  have ht := isStr_of hs
  simp only [delta] at hd
  split at hd
  · rename_i s k n e1 e2
    split at hd
    · rename_i h0
      split at hd
      · rename_i b hb
        obtain rfl := Option.some.inj hd
        have h1 := (ev_spec hI c1 e1).1.str_inv
        have h2 := (ev_spec hI c2 e2).1.int_inv
        have hlt : n.toNat < s.size := (Array.getElem?_eq_some_iff.1 hb).1
        have hg : s[n.toNat]? = some b := by
          have := (Array.getElem?_eq_some_iff.1 hb).2
          rw [getElem?_pos s n.toNat hlt]
          exact congrArg some this
        refine wp_val (w' := w) (v := .int .u8 b.toNat) ?_ (hI.nx0 o.dst (cellR (.int _ _) rfl rfl))
        unfold execOp; rw [hop]
        simp [h1, h2, Instr.index, asIntOf, run_underlying ht, h0, hg]
      · cases hd
    · cases hd
  · cases hd
theorem chkSs_get {os : List Operand} {xs : List Src} (h : chkSs os xs = true) : os.length = xs.length ∧ ∀ (j : Nat) (x : Operand) (s : Src), os[j]? = some x → xs[j]? = some s → chkS x s = true := by
  induction os generalizing xs with
  | nil => cases xs <;> simp [chkSs] at h ⊢
  | cons o os ih =>
    cases xs with
    | nil => simp [chkSs] at h
    | cons x xs =>
      simp [chkSs] at h
      obtain ⟨h1, h2⟩ := ih h.2
      refine ⟨by simp [h1], fun j y s hy hs => ?_⟩
      cases j with
      | zero => simp at hy hs; subst hy; subst hs; exact h.1
      | succ j => simp at hy hs; exact h2 j y s hy hs
theorem evs_spec (hI : Inv w g ow st a) : ∀ {os : List Operand} {xs : List Src} {vs : List TV}, chkSs os xs = true → evs st.t xs = some vs →
    vs.length = os.length ∧ ∀ (j : Nat) (x : TV) (v : Value), vs[j]? = some x → (os.map a.eval)[j]? = some v → VR w g st.h.length x v ∧ plainV x = true ∧ ∀ w' g' ow' q, Owns w' g' ow' q x v := by
  intro os
  induction os with
  | nil =>
    intro xs vs hc h
    cases xs <;> simp [chkSs] at hc
    simp [evs] at h
    subst h
    exact ⟨rfl, by simp⟩
  | cons o os ih =>
    intro xs vs hc h
    cases xs with
    | nil => simp [chkSs] at hc
    | cons x xs =>
      simp [chkSs] at hc
      simp only [evs] at h
      split at h
      · rename_i v us e1 e2
        obtain rfl := Option.some.inj h
        obtain ⟨h1, h2⟩ := ih hc.2 e2
        refine ⟨by simp [h1], fun j y u hy hu => ?_⟩
        cases j with
        | zero => simp at hy hu; subst hy; subst hu; exact ev_spec hI hc.1 e1
        | succ j => simp only [List.getElem?_cons_succ, List.map_cons] at hy hu; exact h2 j y u hy hu
      · cases h
end
end Go.T
