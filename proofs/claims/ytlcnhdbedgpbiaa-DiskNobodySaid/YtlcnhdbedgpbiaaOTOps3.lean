/- Operations of the small machine that only look, further: what the model's do. -/
import Derived.Test.YtlcnhdbedgpbiaaOTOps2
set_option linter.unusedVariables false
set_option linter.unusedSimpArgs false
set_option maxRecDepth 10000
namespace Go.T
section
variable {P : Program} {w : World} {g : Gh} {ow : Ow} {st : St} {a : Act} {o : Oper} {dst : Option Nat}
/-- What a bound is. -/
def IsBd (v : Option Value) (dflt n : Nat) : Prop := match v with
  | none => n = dflt
  | some v => ∃ k i, v = Value.int k i ∧ 0 ≤ i ∧ i.toNat = n
theorem bound_spec (hI : Inv w g ow st a) {o : Option Operand} {x : Option Src} {dflt most n : Nat} (hc : chkSO o x = true) (h : bound st.t x dflt most = some n) : IsBd (o.map a.eval) dflt n ∧ (o.isSome = true → n ≤ most) := by
  cases o <;> cases x <;> simp [chkSO] at hc
  · simp only [bound, Option.some.injEq] at h
    exact ⟨h.symm, by simp⟩
  · simp only [bound] at h
    split at h
    · rename_i k i e
      split at h
      · rename_i hb
        obtain rfl : i.toNat = n := by simpa using h
        exact ⟨⟨k, i, (ev_spec hI hc e).1.int_inv, hb.1, rfl⟩, fun _ => by omega⟩
      · cases h
    · cases h
theorem run_bounds {len cap : Nat} {lo hi mx : Option Value} {l h m : Nat} (b : Bool) (hlo : IsBd lo 0 l) (hhi : IsBd hi len h) (hmx : IsBd mx cap m) (h1 : l ≤ h) (h2 : h ≤ m) (h3 : m ≤ cap) (hm : mx.isSome = true → hi.isSome = true) :
    (Instr.sliceBounds b len cap lo hi mx).run P w = .ok (l, h, m) w := by
  cases lo <;> cases hi <;> cases mx <;> simp [IsBd] at hlo hhi hmx hm
  all_goals
    (try (obtain ⟨k1, i1, rfl, p1, q1⟩ := hlo))
    (try (obtain ⟨k2, i2, rfl, p2, q2⟩ := hhi))
    (try (obtain ⟨k3, i3, rfl, p3, q3⟩ := hmx))
    subst_vars
    simp (disch := omega) [Instr.sliceBounds, run_sliceBound]
theorem run_slc {t e : TypeId} {sz : Nat} (ht : P.underlying t = some (.slice e)) (hs : szOf P e = some sz) (A : Option Addr) {len cap : Nat} {lo hi mx : Option Value} {l h m : Nat} (hlo : IsBd lo 0 l) (hhi : IsBd hi len h) (hmx : IsBd mx cap m) (h1 : l ≤ h) (h2 : h ≤ m) (h3 : m ≤ cap) (hm : mx.isSome = true → hi.isSome = true) :
    (Instr.sliceAt t (.slice A len cap) lo hi mx).run P w = .ok (.slice (if m = l then A else A.map (·.add (l * sz))) (h - l) (m - l)) w := by
  unfold szOf at hs
  cases hi' : P.info? e with
  | none => rw [hi'] at hs; cases hs
  | some i =>
    rw [hi'] at hs
    have hs' : i.size = sz := by simpa using hs
    simp [Instr.sliceAt, Instr.slice, run_underlying ht, run_bounds (P := P) (w := w) true hlo hhi hmx h1 h2 h3 hm, sizeOf, typeInfo, hi', hs']
theorem okW_get {sz : Nat} {l : List TV} (h : okW sz l = true) {e : TV} (he : e ∈ l) : e.cells.length = sz := by
  have := List.all_eq_true.1 h e he
  simpa using this
/-- A piece of a slice. -/
theorem VR.piece {m : Nat} {tg : Tag} {l : List TV} {A : Option Addr} {c sz lo hi M : Nat} (tg' : Tag) (h : VR w g m (.sl tg l) (.slice A l.length c)) (hw : okW sz l = true) (hz : 0 < sz) (h1 : lo ≤ hi) (h2 : hi ≤ l.length) (h3 : hi ≤ M) (hMc : M ≤ c) :
    VR w g m (.sl tg' ((l.take hi).drop lo)) (.slice (if M = lo then A else A.map (·.add (lo * sz))) (hi - lo) (M - lo)) := by
  have hlen : ((l.take hi).drop lo).length = hi - lo := by simp; omega
  have hget : ∀ i, ((l.take hi).drop lo)[i]? = if i < hi - lo then l[lo + i]? else none := by
    intro i
    rw [List.getElem?_drop, List.getElem?_take]
    by_cases h : i < hi - lo
    · rw [if_pos (by omega), if_pos h]
    · rw [if_neg (by omega), if_neg h]
  rw [← hlen]
  cases h with
  | sl _ _ _ _ sz0 vals hz0 hcap hm hA hn hE h hr =>
    have hsz : l ≠ [] → sz0 = sz := by
      intro hl
      obtain ⟨e, he⟩ := List.exists_mem_of_ne_nil _ hl
      rw [← hE e he]; exact okW_get hw he
    have hm' : (List.drop lo (List.take hi l)).length ≤ 9223372036854775807 := by rw [hlen]; omega
    refine .sl _ _ _ _ sz (fun i j => vals (lo + i) j) hz (by rw [hlen]; omega) hm' ?_ ?_ ?_ ?_ ?_
    · intro ad hh hc0
      split at hh
      · exact hA _ hh (by omega)
      · cases A with
        | none => cases hh
        | some b =>
          simp at hh
          subst hh
          have := hA _ rfl (by omega)
          unfold Addr.add; split <;> simp [this]
    · intro hh
      split at hh
      · have := hn hh
        simp [this]
      · cases A with
        | none => simp [hn rfl]
        | some b => simp at hh
    · intro e he
      obtain ⟨i, hi'⟩ := List.getElem?_of_mem he
      rw [hget] at hi'
      split at hi'
      · exact okW_get hw (List.mem_of_getElem? hi')
      · cases hi'
    · intro ad i e j x hh hi' hj
      rw [hget] at hi'
      split at hi'
      · rename_i hlt
        have hne : l ≠ [] := by rintro rfl; simp at hi'
        have hs := hsz hne
        rw [if_neg (by omega)] at hh
        cases A with
        | none => cases hh
        | some b =>
          simp at hh
          have hb := hA b rfl (by have := (List.getElem?_eq_some_iff.1 hi').1; omega)
          obtain ⟨bb, bo, bs⟩ := b
          simp at hb
          subst hb
          rw [show (⟨bb, bo, none⟩ : Addr) = at_ bb bo from rfl, at_add] at hh
          subst hh
          obtain ⟨k1, k2, k3⟩ := h _ (lo + i) e j x rfl hi' hj
          rw [hs] at k2 k3
          have e1 : bo + lo * sz + (i * sz + j) = bo + ((lo + i) * sz + j) := by rw [Nat.add_mul]; omega
          show x.isElt = true ∧ bo + lo * sz + (i * sz + j) < g.imm bb ∧ w.cell? (at_ bb (bo + lo * sz + (i * sz + j))) = _
          rw [e1]
          exact ⟨k1, k2, k3⟩
      · cases hi'
    · intro i e j x hi' hj
      rw [hget] at hi'
      split at hi'
      · exact hr _ e j x hi' hj
      · cases hi'
theorem snd_slc {sz : Nat} {x : Src} {lo hi mx : Option Src} {d : Dl} (hc : chkOp P o.op (.slc sz x lo hi mx) = true) (hI : Inv w g ow st a) {call : CallF} (hd : delta call st (.slc sz x lo hi mx) = some d) {Q : Exit → Act → World → Prop} :
    o.wp P a w (Nxt w g ow st.h.length (d.ap o.dst st)) Q := by
  cases hop : o.op <;> rw [hop] at hc <;> try (simp [chkOp] at hc; done)
  rename_i t y lo' hi' mx'
  simp only [chkOp] at hc
  split at hc
  · rename_i e he
    simp at hc
    obtain ⟨⟨⟨⟨⟨⟨hs, hz⟩, c1⟩, c2⟩, c3⟩, c4⟩, c5⟩ := hc
    have ht := elem_of he
    have hmi : (mx'.map a.eval).isSome = true → (hi'.map a.eval).isSome = true := by
      cases mx' <;> cases hi' <;> simp at c5 ⊢
    simp only [delta] at hd
    split at hd
    · rename_i tg l ex
      split at hd
      · rename_i hw
        split at hd
        · rename_i m hm
          split at hd
          · rename_i h hh
            split at hd
            · rename_i b hb
              obtain rfl := Option.some.inj hd
              have h1 := (ev_spec hI c1 ex).1
              generalize hq : a.eval y = q at h1
              obtain ⟨bm, km⟩ := bound_spec hI c4 hm
              obtain ⟨bh, kh⟩ := bound_spec hI c3 hh
              obtain ⟨bb, kb⟩ := bound_spec hI c2 hb
              have hVR := h1
              cases h1 with
              | sl _ _ A c sz0 vals hz0 hcap hmm hA hn hE h' hr =>
                -- the real bound of the capacity
                obtain ⟨M, hM, hM1, hM2, hM3⟩ : ∃ M, IsBd (mx'.map a.eval) c M ∧ h ≤ M ∧ M ≤ c ∧ (mx'.isSome = true → M = m) := by
                  cases mx' with
                  | none =>
                    have hm0 : m = l.length := bm
                    refine ⟨c, rfl, ?_, Nat.le_refl _, by simp⟩
                    cases hi' with
                    | none => have : h = l.length := bh; omega
                    | some z => have := kh rfl; omega
                  | some z =>
                    have hle : m ≤ l.length := km rfl
                    refine ⟨m, bm, ?_, by omega, fun _ => rfl⟩
                    cases hi' with
                    | none => simp at c5
                    | some z => exact kh rfl
                have hbh : b ≤ h := by
                  cases lo' with
                  | none => have : b = 0 := bb; omega
                  | some z => exact kb rfl
                have hhl : h ≤ l.length := by
                  cases hi' with
                  | none => have : h = l.length := bh; omega
                  | some z =>
                    have := kh rfl
                    cases mx' with
                    | none => have : m = l.length := bm; omega
                    | some z => have := km rfl; omega
                have hrun := run_slc (P := P) (w := w) ht hs A bb bh hM hbh hM1 hM2 hmi
                refine wp_val (w' := w) (v := .slice (if M = b then A else A.map (·.add (b * sz))) (h - b) (M - b)) ?_ (hI.nx0 o.dst ⟨hVR.piece _ hw hz hbh hhl hM1 hM2, rfl, ?_⟩)
                · unfold execOp; rw [hop]
                  simp only [hq, Sem.run_bind, hrun, Result.andThen_ok]
                  rfl
                · intro w' g' ow' q p sz' s l' A' n' c' hs'
                  by_cases hown : mx.isSome = true ∧ m = h
                  · rw [if_pos hown] at hs'
                    cases hs'
                    refine ⟨hz, fun hh' => ?_⟩
                    exfalso
                    have hms : mx'.isSome = true := by cases mx' <;> cases mx <;> simp [chkSO] at c4 hown ⊢
                    have := hM3 hms
                    rcases hh' with hh' | hh'
                    · omega
                    · cases hh'
                  · rw [if_neg hown] at hs'
                    cases hs'
            · cases hd
          · cases hd
        · cases hd
      · cases hd
    · rename_i ag s i off n ex
      split at hd
      · rename_i hs2
        subst hs2
        split at hd
        · rename_i m hm
          split at hd
          · rename_i h hh
            split at hd
            · rename_i b hb
              have h1 := (ev_spec hI c1 ex).1
              generalize hq : a.eval y = q at h1
              obtain ⟨bm, km⟩ := bound_spec hI c4 hm
              obtain ⟨bh, kh⟩ := bound_spec hI c3 hh
              obtain ⟨bb, kb⟩ := bound_spec hI c2 hb
              cases h1 with
              | asl _ _ _ _ _ c hi2 hcn hmm hrow =>
                have hmn : m ≤ n := by
                  cases mx' with
                  | none => have : m = n := bm; omega
                  | some z => exact km rfl
                have hhm : h ≤ m := by
                  cases hi' with
                  | none =>
                    have h0 : h = n := bh
                    cases mx' with
                    | none => have : m = n := bm; omega
                    | some z => simp at c5
                  | some z => exact kh rfl
                have hbh : b ≤ h := by
                  cases lo' with
                  | none => have : b = 0 := bb; omega
                  | some z => exact kb rfl
                obtain ⟨M, hM, hM1, hM2⟩ : ∃ M, IsBd (mx'.map a.eval) c M ∧ h ≤ M ∧ M ≤ c := by
                  cases mx' with
                  | none => exact ⟨c, rfl, by omega, Nat.le_refl _⟩
                  | some z => exact ⟨m, bm, hhm, by omega⟩
                have hrun := run_slc (P := P) (w := w) ht hs (some (at_ (g.nu i) off)) bb bh hM hbh hM1 hM2 hmi
                have hexec : (execOp a.eval o).run P w = .ok (.value (.slice (if M = b then some (at_ (g.nu i) off) else (some (at_ (g.nu i) off)).map (·.add (b * s))) (h - b) (M - b))) w := by
                  unfold execOp; rw [hop]
                  simp only [hq, Sem.run_bind, hrun, Result.andThen_ok]
                  rfl
                split at hd
                · obtain rfl := Option.some.inj hd
                  exact wp_val hexec (hI.nx0 o.dst ⟨.junk _, rfl, fun w' g' ow' q p sz s l A n c hs => by cases hs⟩)
                · rename_i hmx
                  have hmx' : mx' = none := by cases mx' <;> cases mx <;> simp [chkSO] at c4 hmx ⊢
                  subst hmx'
                  have hMc : M = c := hM
                  subst hMc
                  split at hd
                  · rename_i hemp
                    obtain rfl := Option.some.inj hd
                    refine wp_val hexec (hI.nx0 o.dst (cellR ?_ rfl rfl))
                    have e0 : h - b = 0 := hemp.1
                    rw [e0]
                    refine .sl .shr [] _ (M - b) 1 (fun _ _ => default) (by decide) (by simp) (by simp) (fun ad had _ => ?_) (fun _ => rfl) (by simp) (by simp) (by simp)
                    split at had
                    · cases had; rfl
                    · simp only [Option.map_some, at_add] at had; cases had; rfl
                  · rename_i hne
                    obtain rfl := Option.some.inj hd
                    have hval : (if M = b then some (at_ (g.nu i) off) else (some (at_ (g.nu i) off)).map (·.add (b * s))) = some (at_ (g.nu i) (off + b * s)) := by
                      split
                      · rename_i hMb
                        have : b = 0 := by
                          rcases Nat.eq_zero_or_pos b with h0 | h0
                          · exact h0
                          · exact absurd ⟨by omega, by omega⟩ hne
                        subst this
                        simp
                      · simp only [Option.map_some, at_add]
                    rw [hval] at hexec
                    refine wp_val hexec (hI.nx0 o.dst (cellR (.asl ag s i _ _ (M - b) hi2 (by omega) (by omega) ?_) rfl rfl))
                    obtain ⟨vs, ty, fr, r1, r2⟩ := hrow
                    refine ⟨vs, ty, fr, r1, ?_⟩
                    have : b * s + (M - b) * s = M * s := by rw [← Nat.add_mul]; congr 1; omega
                    omega
            · cases hd
          · cases hd
        · cases hd
      · cases hd
    · cases hd
  · cases hc
end
end Go.T
