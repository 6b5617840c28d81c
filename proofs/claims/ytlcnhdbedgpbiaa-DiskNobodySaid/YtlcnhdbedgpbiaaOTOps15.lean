/- Operations of the small machine: copy, of one-cell elements. -/
import Derived.Test.YtlcnhdbedgpbiaaOTOps14
import Derived.Laws.IdiomCopy
set_option linter.unusedVariables false
set_option linter.unusedSimpArgs false
set_option maxRecDepth 10000
namespace Go.T
section
variable {P : Program} {w : World} {g : Gh} {ow : Ow} {st : St} {a : Act} {o : Oper} {dst : Option Nat}
theorem flat_one : ∀ (l : List TV), okW 1 l = true → (flat l).length = l.length ∧ ∀ (j : Nat) (e : TV), l[j]? = some e → ∃ x, e.cells = [x] ∧ (flat l)[j]? = some x := by
  intro l
  induction l with
  | nil => intro _; exact ⟨rfl, by simp⟩
  | cons e l ih =>
    intro h
    simp only [okW, List.all_cons, Bool.and_eq_true, beq_iff_eq] at h
    obtain ⟨h1, h2⟩ := ih h.2
    obtain ⟨x, hx⟩ := List.length_eq_one_iff.1 h.1
    have hf : flat (e :: l) = x :: flat l := by simp [flat, hx]
    refine ⟨by rw [hf]; simp [h1], fun j e' hj => ?_⟩
    cases j with
    | zero => simp at hj; subst hj; exact ⟨x, hx, by rw [hf]; rfl⟩
    | succ j => simp at hj; obtain ⟨y, k1, k2⟩ := h2 j e' hj; exact ⟨y, k1, by rw [hf]; simpa using k2⟩
theorem okW_take {sz n : Nat} {l : List TV} (h : okW sz l = true) : okW sz (l.take n) = true := List.all_eq_true.2 (fun e he => List.all_eq_true.1 h e (List.mem_of_mem_take he))
theorem cpy_core {p q : Operand} {t u e : TypeId} {x y : Src} (ht : P.underlying t = some (.slice e)) (hsz : szOf P e = some 1) (hcx : chkS p x = true) (hcy : chkS q y = true) (hI : Inv w g ow st a) {ag : Bool} {i off n : Nat} {vy : TV} {cs l : List TV}
    (hx : ev st.t x = some (.asl ag 1 i off n)) (hy : ev st.t y = some vy) (hl : elS st.h vy = some l) (hcs : live st.h i = some cs) (hle : off + n ≤ cs.length) (hw : okW 1 l = true) (ty : TypeId) :
    ∃ w', (Builtin.copy_ #[t, u] ty #[a.eval p, a.eval q]).run P w = .ok (.int .i64 (min l.length n : Nat)) w' ∧ Stp w g ow st.h.length w' g ow ∧ Inv w' g ow { st with h := st.h.set i (splice cs off (flat (l.take n))), keep := keeps st i l } a := by
  obtain ⟨vx, _, _⟩ := ev_spec hI hcx hx
  obtain ⟨A, c2, news, hq, fl, _, _, fA, fN, fc⟩ := els_flat (P := P) hI (ev_spec hI hcy hy).1 hl hw (by decide : 0 < 1)
  rw [hq]
  generalize a.eval p = rp at vx
  obtain ⟨hcs, hdd⟩ := live_some hcs
  cases vx with
  | asl _ _ _ _ _ c hi hcap hm hrow =>
    obtain ⟨row, ty', fr, r1, r2, r3, r4, r5, r6⟩ := hI.box i cs hcs hdd
    have hs' : (P.info? e).map (·.size) = some 1 := hsz
    obtain ⟨k, hk⟩ : ∃ k, k = min l.length n := ⟨_, rfl⟩
    obtain ⟨f1, f2⟩ := flat_one (l.take n) (okW_take hw)
    have hfl : (flat (l.take n)).length = k := by rw [f1, hk]; simp; omega
    have hnl : news.length = l.length := by rw [fl.1, Nat.mul_one]
    have hvalid : ∀ (j : Nat) (x : TV) (v : Value), (flat (l.take n))[j]? = some x → (news.take k)[j]? = some v → x.isElt = true ∧ VR w g st.h.length x v := by
      intro j x v hxj hvj
      have hj : j < k := by have := (List.getElem?_eq_some_iff.1 hxj).1; omega
      have hjl : j < l.length := by omega
      have hlj : l[j]? = some l[j] := by simp
      obtain ⟨x', e1, e2⟩ := f2 j l[j] (by rw [List.getElem?_take, if_pos (by omega)]; exact hlj)
      rw [e2] at hxj
      obtain rfl := Option.some.inj hxj
      obtain ⟨z1, u', z2, z3⟩ := fl.2 j l[j] 0 x' hlj (by rw [e1]; rfl)
      rw [List.getElem?_take, if_pos hj] at hvj
      simp only [Nat.mul_one, Nat.add_zero] at z2
      rw [hvj] at z2
      obtain rfl := Option.some.inj z2
      exact ⟨z1, z3⟩
    have hwr := hI.wrH (i := i) (off := off) (cs := cs) (us := flat (l.take n)) (vs := news.take k) hcs hdd (by rw [hfl]; omega) (by rw [hfl]; simp; omega) (fun j x v hxj hvj => by
      obtain ⟨z1, z4⟩ := hvalid j x v hxj hvj
      exact ⟨isElt_isCell z1, z4, owns_cell (isElt_isCell z1) (by cases x <;> first | rfl | (rename_i tg _; cases tg <;> first | rfl | simp [TV.isElt] at z1))⟩) (keeps st i l)
    refine ⟨_, ?_, hwr.1, hwr.2⟩
    rw [← hk]
    by_cases hk0 : k = 0
    · have := run_copy_none (P := P) w t u ty e (some (at_ (g.nu i) off)) A n c l.length c2 ht hs' (by rw [← hk0, hk])
      rw [this, hk0]; rfl
    · cases hA : A with
      | none => rw [fN hA] at hk; simp at hk; omega
      | some ad =>
        obtain ⟨hsp, hcell⟩ := fA ad hA
        have hsp := hsp (by omega)
        obtain ⟨b, oo, sp⟩ := ad
        simp only at hsp
        subst hsp
        have := run_copy_cells (P := P) w t u ty e (g.nu i) off n c ⟨b, oo, none⟩ l.length c2 (news.take k) ht hs' (by rw [List.length_take, hnl, hk]; show min _ _ = min _ _; omega) (fun j v hv => by
          have hj : j < k := by have := (List.getElem?_eq_some_iff.1 hv).1; simp at this; omega
          rw [List.getElem?_take, if_pos hj] at hv
          have := hcell j v hv
          rw [show (Addr.mk b oo none).add j = at_ b (oo + j) from at_add b oo j]
          exact this) (fun j hj => by
          simp at hj
          have := cell_of_row (o := off + j) r1
          rw [show (⟨g.nu i, off + j, none⟩ : Addr) = at_ (g.nu i) (off + j) from rfl, this]
          simp; omega) (fun j hj => by
          simp at hj
          exact NF_frozen r1 r3 (by omega)) (fun v hv => by
          obtain ⟨j, hj⟩ := List.getElem?_of_mem hv
          have hjk : j < k := by have := (List.getElem?_eq_some_iff.1 hj).1; simp at this; omega
          obtain ⟨z1, z4⟩ := hvalid j ((flat (l.take n))[j]'(by omega)) v (by simp [hfl, hjk]) hj
          exact z4.oneCell (isElt_isCell z1))
        rw [this]
        simp [goInt]
        omega
theorem snd_cpy {sz : Nat} {x y : Src} {d : Dl} (hc : chkOp P o.op (.cpy sz x y) = true) (hI : Inv w g ow st a) {call : CallF} (hd : delta call st (.cpy sz x y) = some d) {Q : Exit → Act → World → Prop} :
    o.wp P a w (Nxt w g ow st.h.length (d.ap o.dst st)) Q := by
  cases hop : o.op <;> rw [hop] at hc <;> try (simp [chkOp] at hc; done)
  rename_i cl
  obtain ⟨cal, as, ts⟩ := cl
  cases cal <;> try (simp [chkOp] at hc; done)
  rename_i bu
  cases bu <;> simp only [chkOp] at hc <;> try (cases hc; done)
  split at hc
  · rename_i p q t u has hts
    obtain rfl : as = #[p, q] := Array.toList_inj.1 has
    obtain rfl : ts = #[t, u] := Array.toList_inj.1 hts
    simp only [Bool.and_eq_true, beq_iff_eq] at hc
    obtain ⟨⟨⟨rfl, hce⟩, c1⟩, c2⟩ := hc
    split at hce
    · rename_i e he
      have ht := elem_of he
      have hsz : szOf P e = some 1 := of_decide_eq_true hce
      simp only [delta] at hd
      split at hd
      · rename_i ag s i off n l e1 e2
        obtain ⟨vy, e3, e4⟩ := Option.bind_eq_some_iff.1 e2
        split at hd
        · rename_i cs hcs
          split at hd
          · rename_i hcond
            obtain ⟨rfl, hle, hw⟩ := hcond
            obtain rfl := Option.some.inj hd
            obtain ⟨w', k1, k2, k3⟩ := cpy_core (P := P) (u := u) ht hsz c1 c2 hI e1 e3 e4 hcs (by omega) hw o.type
            have hrun : (execOp a.eval o).run P w = .ok (.value (.int .i64 (min l.length n : Nat))) w' := by
              unfold execOp; rw [hop]
              simp [resolve, invoke, builtin, k1]
            refine wp_val hrun ⟨g, ow, k2, ?_⟩
            cases hdst : o.dst with
            | none => exact ⟨k3.defers, k3.len, k3.slot, k3.box, k3.bd, k3.base⟩
            | some j =>
              have := k3.put j (x := .int .i64 (min l.length n : Nat)) rfl (.int _ _) (owns_cell rfl rfl)
              exact ⟨this.defers, this.len, this.slot, this.box, this.bd, this.base⟩
          · cases hd
        · cases hd
      · cases hd
    · cases hce
  · cases hc
end
end Go.T
