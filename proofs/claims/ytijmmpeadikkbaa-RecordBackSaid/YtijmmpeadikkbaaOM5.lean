/- A part of the proofs: the small machine. -/
import Derived.Test.YtijmmpeadikkbaaOM4
import Derived.Laws.IdiomCopy
/- Operations of the small machine: bytes as other bytes. -/
set_option linter.unusedVariables false
set_option linter.unusedSimpArgs false
set_option maxRecDepth 10000
namespace Go.T
section
variable {P : Program} {w : World} {g : Gh} {ow : Ow} {st : St} {a : Act} {o : Oper} {dst : Option Nat}
theorem freeze_row {b n : Nat} {vs : Array Value} {ty : TypeId} {fr : Nat × Nat} (h : RowOf w b vs ty fr) (hf : NF fr vs.size) : ∃ fr', RowOf (w.freeze ⟨b, vs.size, none⟩ 1) b vs ty fr' ∧ NF fr' vs.size := by
  unfold RowOf at *
  obtain ⟨lo, hi⟩ := fr
  unfold NF at hf
  simp only at hf
  refine ⟨if lo == hi then (vs.size, vs.size + 1) else (min lo vs.size, max hi (vs.size + 1)), ?_, ?_⟩
  · unfold World.freeze
    rw [if_neg (by decide)]
    simp only [Array.getElem?_modify, if_true, h, Option.map_some]
  · unfold NF
    by_cases hh : lo = hi
    · simp [hh]
    · right
      simp [hh]
      rcases hf with hf | hf
      · exact absurd hf hh
      · omega
theorem freeze_other {b c off n : Nat} (h : c ≠ b) : (w.freeze ⟨b, off, none⟩ n).heap[c]? = w.heap[c]? := by
  unfold World.freeze
  split
  · rfl
  · simp only [Array.getElem?_modify]
    rw [if_neg (fun e => h e.symm)]
theorem freeze_same {b off n : Nat} : (w.freeze ⟨b, off, none⟩ n).os = w.os ∧ (w.freeze ⟨b, off, none⟩ n).tape = w.tape ∧ (w.freeze ⟨b, off, none⟩ n).output = w.output ∧ (w.freeze ⟨b, off, none⟩ n).heap.size = w.heap.size := by
  unfold World.freeze
  split
  · exact ⟨rfl, rfl, rfl, rfl⟩
  · exact ⟨rfl, rfl, rfl, by simp⟩
theorem snd_cvx {x : Src} {d : Dl} (hc : chkOp P o.op (.cvx x) = true) (hI : Inv w g ow st a) {call : CallF} (hd : delta call st (.cvx x) = some d) {Q : Exit → Act → World → Prop} :
    o.wp P a w (Nxt w g ow st.h.length (d.ap o.dst st)) Q := by
  cases hop : o.op <;> rw [hop] at hc <;> simp [chkOp] at hc
  rename_i sr t y
  obtain ⟨⟨rfl, he⟩, hc⟩ := hc
  split at he
  · rename_i e hel
    have ht := elem_of hel
    have hu := isU8_of he
    simp only [delta] at hd
    split at hd
    · rename_i n l i hx
      obtain rfl := Option.some.inj hd
      obtain ⟨v1, v2, v3⟩ := tak_spec hI hc hx
      obtain ⟨ow1, i1, i2, i3⟩ := hI.aside v2 v3
      generalize hq : a.eval y = rv at v1 i3
      have v1' := v1
      cases v1 with
      | sl _ _ A c sz vals hz hcap hmx hA hn hE hh hr =>
        obtain ⟨z0, z1⟩ := i3 [] n true l A _ c (.here _ _)
        obtain ⟨ad, rfl, ho, vs, ty, fr, hrow, e1, e2, e3⟩ := z1 (.inr rfl)
        simp only [List.append_nil] at ho
        obtain ⟨fr', f1, f2⟩ := freeze_row hrow e3 (n := 1)
        obtain ⟨s1, s2, s3, s4⟩ := freeze_same (w := w) (b := ad.block) (off := vs.size) (n := 1)
        have hoth : ∀ c, c ≠ ad.block → (w.freeze ⟨ad.block, vs.size, none⟩ 1).heap[c]? = w.heap[c]? := fun c hc => freeze_other hc
        have hrun : (execOp a.eval o).run P w = .ok (.value (.slice (some ad) l.length c)) (w.freeze ⟨ad.block, vs.size, none⟩ 1) := by
          have hshape : w.shape? ad.block = some (ty, vs.size) := by
            unfold World.shape?; unfold RowOf at hrow; simp [hrow]
          unfold execOp; rw [hop]
          simp [hq, convert, run_underlying ht, run_underlying hu, markStringish, hshape]
        generalize w.freeze ⟨ad.block, vs.size, none⟩ 1 = w' at *
        refine wp_val hrun ?_
        have hstp : Stp w g ow1 st.h.length w' g ow1 := by
          refine ⟨s1, s2, s3, by rw [s4]; exact Nat.le_refl _, fun b off hb _ => ?_, fun _ _ => Nat.le_refl _, fun _ _ => rfl, fun b us ty' fr2 hr2 => ?_, fun b hb hf => ⟨hoth b ?_, rfl, rfl⟩, fun b q hq => ⟨i1.bd b _ hq, hq⟩⟩
          · by_cases hbb : b = ad.block
            · subst hbb
              rw [cell_of_row hrow, cell_of_row f1]
            · unfold World.cell?
              simp only [hoth b hbb]
          · by_cases hbb : b = ad.block
            · subst hbb
              have : us = vs ∧ ty' = ty := by
                unfold RowOf at hr2 hrow
                rw [hrow] at hr2
                simp at hr2
                exact ⟨hr2.1.symm, hr2.2.1.symm⟩
              obtain ⟨rfl, rfl⟩ := this
              exact ⟨_, _, f1, rfl⟩
            · exact ⟨us, fr2, by unfold RowOf at *; rw [hoth b hbb]; exact hr2, rfl⟩
          · rintro rfl
            rcases hf with hf | ⟨q, hf⟩
            · rw [hf] at ho; cases ho
            · rw [hf] at ho; simp at ho
        have hne : ∀ b q, ow1 b = some q → q.head? = some 0 ∨ q.head? = some 1 → b ≠ ad.block := by
          rintro b q hb hq rfl
          rw [ho] at hb
          obtain rfl := Option.some.inj hb
          simp at hq
        have h2 : Inv w' g ow1 { st with t := downs i st.t } a := i1.mono hstp (fun b q hb hq => ⟨hoth b (hne b q hb hq), rfl, rfl⟩) (fun b q hb => by rw [s4]; exact i1.bd b q hb)
        obtain ⟨dd, hdd⟩ : ∃ dd, dd = o.dst.getD 0 := ⟨_, rfl⟩
        have h3 := h2.scratch [dd] 0
        refine ⟨g, mvO ow1 [4] [0, dd], (i2.trans hstp (Nat.le_refl _)).trans (m1 := st.h.length) (Stp.free h2.bd [4] 0 [dd] (by simp) (by simp) (by simp)) (Nat.le_refl _), ?_⟩
        cases hdst : o.dst with
        | none => exact ⟨h3.defers, h3.len, h3.slot, h3.box, h3.bd, h3.base⟩
        | some j =>
          obtain rfl : dd = j := by rw [hdd, hdst]; rfl
          have := h3.put dd (x := .sl (.own n true) l) rfl (v1'.mono (i2.trans hstp (Nat.le_refl _)) (Nat.le_refl _)) (by
            intro p sz' s' l' A' n' c' hs
            cases hs
            refine ⟨z0, fun _ => ⟨ad, rfl, ?_, vs, ty, fr', f1, e1, e2, f2⟩⟩
            exact mvO_at (p := []) (by simpa using ho))
          exact ⟨this.defers, this.len, this.slot, this.box, this.bd, this.base⟩
    · cases hd
  · cases he
end
end Go.T
/- Operations of the small machine: copy, of one-cell elements. -/
set_option linter.unusedVariables false
set_option linter.unusedSimpArgs false
set_option maxRecDepth 10000
namespace Go.T
section
variable {P : Program} {w : World} {g : Gh} {ow : Ow} {st : St} {a : Act} {o : Oper} {dst : Option Nat}
theorem flat_one : ∀ (l : List TV), okW 1 l = true → (flat l).length = l.length ∧ ∀ (j : Nat) (e : TV), l[j]? = some e → ∃ x, e.cells = [x] ∧ (flat l)[j]? = some x := by
  intro l
  induction l with
  | nil => intro _; exact ⟨rfl, by simp⟩
  | cons e l ih =>
    intro h
    simp only [okW, List.all_cons, Bool.and_eq_true, beq_iff_eq] at h
    obtain ⟨h1, h2⟩ := ih h.2
    obtain ⟨x, hx⟩ := List.length_eq_one_iff.1 h.1
    have hf : flat (e :: l) = x :: flat l := by simp [flat, hx]
    refine ⟨by rw [hf]; simp [h1], fun j e' hj => ?_⟩
    cases j with
    | zero => simp at hj; subst hj; exact ⟨x, hx, by rw [hf]; rfl⟩
    | succ j => simp at hj; obtain ⟨y, k1, k2⟩ := h2 j e' hj; exact ⟨y, k1, by rw [hf]; simpa using k2⟩
theorem okW_take {sz n : Nat} {l : List TV} (h : okW sz l = true) : okW sz (l.take n) = true := List.all_eq_true.2 (fun e he => List.all_eq_true.1 h e (List.mem_of_mem_take he))
theorem cpy_core {p q : Operand} {t u e : TypeId} {x y : Src} (ht : P.underlying t = some (.slice e)) (hsz : szOf P e = some 1) (hcx : chkS p x = true) (hcy : chkS q y = true) (hI : Inv w g ow st a) {ag : Bool} {i off n : Nat} {vy : TV} {cs l : List TV}
    (hx : ev st.t x = some (.asl ag 1 i off n)) (hy : ev st.t y = some vy) (hl : elS st.h vy = some l) (hcs : live st.h i = some cs) (hle : off + n ≤ cs.length) (hw : okW 1 l = true) (ty : TypeId) :
    ∃ w', (Builtin.copy_ #[t, u] ty #[a.eval p, a.eval q]).run P w = .ok (.int .i64 (min l.length n : Nat)) w' ∧ Stp w g ow st.h.length w' g ow ∧ Inv w' g ow { st with h := st.h.set i (splice cs off (flat (l.take n))), keep := keeps st i l } a := by
  obtain ⟨vx, _, _⟩ := ev_spec hI hcx hx
  obtain ⟨A, c2, news, hq, fl, _, _, fA, fN, fc⟩ := els_flat (P := P) hI (ev_spec hI hcy hy).1 hl hw (by decide : 0 < 1)
  rw [hq]
  generalize a.eval p = rp at vx
  obtain ⟨hcs, hdd⟩ := live_some hcs
  cases vx with
  | asl _ _ _ _ _ c hi hcap hm hrow =>
    obtain ⟨row, ty', fr, r1, r2, r3, r4, r5, r6⟩ := hI.box i cs hcs hdd
    have hs' : (P.info? e).map (·.size) = some 1 := hsz
    obtain ⟨k, hk⟩ : ∃ k, k = min l.length n := ⟨_, rfl⟩
    obtain ⟨f1, f2⟩ := flat_one (l.take n) (okW_take hw)
    have hfl : (flat (l.take n)).length = k := by rw [f1, hk]; simp; omega
    have hnl : news.length = l.length := by rw [fl.1, Nat.mul_one]
    have hvalid : ∀ (j : Nat) (x : TV) (v : Value), (flat (l.take n))[j]? = some x → (news.take k)[j]? = some v → x.isElt = true ∧ VR w g st.h.length x v := by
      intro j x v hxj hvj
      have hj : j < k := by have := (List.getElem?_eq_some_iff.1 hxj).1; omega
      have hjl : j < l.length := by omega
      have hlj : l[j]? = some l[j] := by simp
      obtain ⟨x', e1, e2⟩ := f2 j l[j] (by rw [List.getElem?_take, if_pos (by omega)]; exact hlj)
      rw [e2] at hxj
      obtain rfl := Option.some.inj hxj
      obtain ⟨z1, u', z2, z3⟩ := fl.2 j l[j] 0 x' hlj (by rw [e1]; rfl)
      rw [List.getElem?_take, if_pos hj] at hvj
      simp only [Nat.mul_one, Nat.add_zero] at z2
      rw [hvj] at z2
      obtain rfl := Option.some.inj z2
      exact ⟨z1, z3⟩
    have hwr := hI.wrH (i := i) (off := off) (cs := cs) (us := flat (l.take n)) (vs := news.take k) hcs hdd (by rw [hfl]; omega) (by rw [hfl]; simp; omega) (fun j x v hxj hvj => by
      obtain ⟨z1, z4⟩ := hvalid j x v hxj hvj
      exact ⟨isElt_isCell z1, z4, owns_cell (isElt_isCell z1) (by cases x <;> first | rfl | (rename_i tg _; cases tg <;> first | rfl | simp [TV.isElt] at z1))⟩) (keeps st i l)
    refine ⟨_, ?_, hwr.1, hwr.2⟩
    rw [← hk]
    by_cases hk0 : k = 0
    · have := run_copy_none (P := P) w t u ty e (some (at_ (g.nu i) off)) A n c l.length c2 ht hs' (by rw [← hk0, hk])
      rw [this, hk0]; rfl
    · cases hA : A with
      | none => rw [fN hA] at hk; simp at hk; omega
      | some ad =>
        obtain ⟨hsp, hcell⟩ := fA ad hA
        have hsp := hsp (by omega)
        obtain ⟨b, oo, sp⟩ := ad
        simp only at hsp
        subst hsp
        have := run_copy_cells (P := P) w t u ty e (g.nu i) off n c ⟨b, oo, none⟩ l.length c2 (news.take k) ht hs' (by rw [List.length_take, hnl, hk]; show min _ _ = min _ _; omega) (fun j v hv => by
          have hj : j < k := by have := (List.getElem?_eq_some_iff.1 hv).1; simp at this; omega
          rw [List.getElem?_take, if_pos hj] at hv
          have := hcell j v hv
          rw [show (Addr.mk b oo none).add j = at_ b (oo + j) from at_add b oo j]
          exact this) (fun j hj => by
          simp at hj
          have := cell_of_row (o := off + j) r1
          rw [show (⟨g.nu i, off + j, none⟩ : Addr) = at_ (g.nu i) (off + j) from rfl, this]
          simp; omega) (fun j hj => by
          simp at hj
          exact NF_frozen r1 r3 (by omega)) (fun v hv => by
          obtain ⟨j, hj⟩ := List.getElem?_of_mem hv
          have hjk : j < k := by have := (List.getElem?_eq_some_iff.1 hj).1; simp at this; omega
          obtain ⟨z1, z4⟩ := hvalid j ((flat (l.take n))[j]'(by omega)) v (by simp [hfl, hjk]) hj
          exact z4.oneCell (isElt_isCell z1))
        rw [this]
        simp [goInt]
        omega
theorem snd_cpy {sz : Nat} {x y : Src} {d : Dl} (hc : chkOp P o.op (.cpy sz x y) = true) (hI : Inv w g ow st a) {call : CallF} (hd : delta call st (.cpy sz x y) = some d) {Q : Exit → Act → World → Prop} :
    o.wp P a w (Nxt w g ow st.h.length (d.ap o.dst st)) Q := by
  cases hop : o.op <;> rw [hop] at hc <;> try (simp [chkOp] at hc; done)
  rename_i cl
  obtain ⟨cal, as, ts⟩ := cl
  cases cal <;> try (simp [chkOp] at hc; done)
  rename_i bu
  cases bu <;> simp only [chkOp] at hc <;> try (cases hc; done)
  split at hc
  · rename_i p q t u has hts
    obtain rfl : as = #[p, q] := Array.toList_inj.1 has
    obtain rfl : ts = #[t, u] := Array.toList_inj.1 hts
    simp only [Bool.and_eq_true, beq_iff_eq] at hc
    obtain ⟨⟨⟨rfl, hce⟩, c1⟩, c2⟩ := hc
    split at hce
    · rename_i e he
      have ht := elem_of he
      have hsz : szOf P e = some 1 := of_decide_eq_true hce
      simp only [delta] at hd
      split at hd
      · rename_i ag s i off n l e1 e2
        obtain ⟨vy, e3, e4⟩ := Option.bind_eq_some_iff.1 e2
        split at hd
        · rename_i cs hcs
          split at hd
          · rename_i hcond
            obtain ⟨rfl, hle, hw⟩ := hcond
            obtain rfl := Option.some.inj hd
            obtain ⟨w', k1, k2, k3⟩ := cpy_core (P := P) (u := u) ht hsz c1 c2 hI e1 e3 e4 hcs (by omega) hw o.type
            have hrun : (execOp a.eval o).run P w = .ok (.value (.int .i64 (min l.length n : Nat))) w' := by
              unfold execOp; rw [hop]
              simp [resolve, invoke, builtin, k1]
            refine wp_val hrun ⟨g, ow, k2, ?_⟩
            cases hdst : o.dst with
            | none => exact ⟨k3.defers, k3.len, k3.slot, k3.box, k3.bd, k3.base⟩
            | some j =>
              have := k3.put j (x := .int .i64 (min l.length n : Nat)) rfl (.int _ _) (owns_cell rfl rfl)
              exact ⟨this.defers, this.len, this.slot, this.box, this.bd, this.base⟩
          · cases hd
        · cases hd
      · cases hd
    · cases hce
  · cases hc
end
end Go.T
/- Operations of the small machine: rows that may be written. -/
set_option linter.unusedVariables false
set_option linter.unusedSimpArgs false
set_option maxRecDepth 10000
namespace Go.T
section
variable {P : Program} {w : World} {g : Gh} {ow : Ow} {st : St} {a : Act} {o : Oper} {dst : Option Nat}
theorem VR.shrK {m : Nat} {x : TV} {v : Value} (h : VR w g m x v) (hc : x.isCell = true) : VR w g m x.shrK v ∧ x.shrK.isCell = true ∧ x.shrK.noOwn = true := by
  cases x <;> first | exact ⟨h, hc, rfl⟩ | (simp [TV.isCell] at hc; done) | exact ⟨h.shr0, rfl, rfl⟩
/-- What is shared of cells; what is nil is still known to be. -/
theorem pack_shrK {m : Nat} {ag : Bool} {us : List TV} {vs : List Value} (hl : us.length = vs.length) (hag : ag = true ∨ us.length = 1) (h : ∀ (j : Nat) (x : TV) (v : Value), us[j]? = some x → vs[j]? = some v → x.isCell = true ∧ VR w g m x v) :
    VR w g m (pack ag (us.map TV.shrK)) (packV ag vs) ∧ plainV (pack ag (us.map TV.shrK)) = true ∧ ∀ w' g' ow' q, Owns w' g' ow' q (pack ag (us.map TV.shrK)) (packV ag vs) := by
  have h' : ∀ (j : Nat) (x : TV) (v : Value), (us.map TV.shrK)[j]? = some x → vs[j]? = some v → x.isCell = true ∧ VR w g m x v := by
    intro j x v hx hv
    obtain ⟨y, hy, rfl⟩ := getElem?_map_some hx
    obtain ⟨c1, c2⟩ := h j y v hy hv
    exact ⟨(c2.shrK c1).2.1, (c2.shrK c1).1⟩
  obtain ⟨p1, p2, p3⟩ := VR.pack (by simpa using hl) (by simpa using hag) h'
  refine ⟨p1, p2, fun w' g' ow' q => ?_⟩
  cases ag with
  | true =>
    refine owns_agg (fun x hx => ?_)
    obtain ⟨y, hy, rfl⟩ := List.mem_map.1 hx
    obtain ⟨j, hj⟩ := List.getElem?_of_mem hy
    have hlt : j < vs.length := by rw [← hl]; exact (List.getElem?_eq_some_iff.1 hj).1
    obtain ⟨c1, c2⟩ := h j y vs[j] hj (by simp [hlt])
    exact (c2.shrK c1).2
  | false =>
    have h1 : us.length = 1 := hag.resolve_left (by simp)
    match us, vs, hl, h1 with
    | [x], [v], _, _ =>
      obtain ⟨c1, c2⟩ := h 0 x v rfl rfl
      exact owns_cell (c2.shrK c1).2.1 (c2.shrK c1).2.2
theorem snd_mvk {x : Src} {d : Dl} (hc : chkOp P o.op (.mvk x) = true) (hI : Inv w g ow st a) {call : CallF} (hd : delta call st (.mvk x) = some d) {Q : Exit → Act → World → Prop} :
    o.wp P a w (Nxt w g ow st.h.length (d.ap o.dst st)) Q := by
  simp only [delta] at hd
  split at hd
  · rename_i v i ht
    obtain rfl := Option.some.inj hd
    have key : ∀ (y : Operand), chkS y x = true → VR w g st.h.length v.shrKA (a.eval y) ∧ plainV v.shrKA = true ∧
        ∀ w' g' ow' q, Owns w' g' ow' q v.shrKA (a.eval y) := by
      intro y hc
      obtain ⟨h1, h2, _⟩ := tak_spec hI hc ht
      generalize a.eval y = q at h1
      cases h1 with
      | agg cs vs hl hcell hr =>
        refine ⟨.agg _ _ (by simpa using hl) (fun j x v hx hv => ?_) (fun j x v hx hv => ?_), rfl, fun w' g' ow' q => owns_agg (fun x hx => ?_)⟩
        · obtain ⟨y, hy, rfl⟩ := getElem?_map_some hx
          exact ((hr j y v hy hv).shrK (hcell j y v hy hv)).2.1
        · obtain ⟨y, hy, rfl⟩ := getElem?_map_some hx
          exact ((hr j y v hy hv).shrK (hcell j y v hy hv)).1
        · obtain ⟨y, hy, rfl⟩ := List.mem_map.1 hx
          obtain ⟨j, hj⟩ := List.getElem?_of_mem hy
          have hjl : j < vs.size := by rw [← hl]; exact (List.getElem?_eq_some_iff.1 hj).1
          exact ((hr j y vs[j] hj (by simp [hjl])).shrK (hcell j y vs[j] hj (by simp [hjl]))).2
      | tup => exact ⟨.junk _, rfl, fun w' g' ow' q p sz s l A n c hs => by cases hs⟩
      | junk => exact ⟨.junk _, rfl, fun w' g' ow' q p sz s l A n c hs => by cases hs⟩
      | sl t l A c sz vals hz hc hm hA hn he h hr => exact ⟨.sl .shr l A c sz vals hz hc hm hA hn he h hr, rfl, fun _ _ _ _ => owns_cell rfl rfl⟩
      | bool b => exact ⟨.bool b, rfl, fun _ _ _ _ => owns_cell rfl rfl⟩
      | int k n => exact ⟨.int k n, rfl, fun _ _ _ _ => owns_cell rfl rfl⟩
      | str s => exact ⟨.str s, rfl, fun _ _ _ _ => owns_cell rfl rfl⟩
      | ptr i o h => exact ⟨.ptr i o h, rfl, fun _ _ _ _ => owns_cell rfl rfl⟩
      | nilp => exact ⟨.nilp, rfl, fun _ _ _ _ => owns_cell rfl rfl⟩
      | nils A hA => exact ⟨.nils A hA, rfl, fun _ _ _ _ => owns_cell rfl rfl⟩
      | cp cs b o vals h hr => exact ⟨.cp cs b o vals h hr, rfl, fun _ _ _ _ => owns_cell rfl rfl⟩
      | asl ag sz i o n c h hc hm hrow => exact ⟨.asl ag sz i o n c h hc hm hrow, rfl, fun _ _ _ _ => owns_cell rfl rfl⟩
      | fn f cs vs hl h hr => exact ⟨.fn f cs vs hl h hr, rfl, fun _ _ _ _ => owns_cell rfl rfl⟩
      | nilf => exact ⟨.nilf, rfl, fun _ _ _ _ => owns_cell rfl rfl⟩
    cases hop : o.op <;> rw [hop] at hc <;> simp [chkOp] at hc
    all_goals
      rename_i y
      exact wp_val (by unfold execOp; rw [hop]; rfl) (hI.nx0 o.dst (key y hc))
  · cases hd
/-- A read that takes nothing; what is nil is still known to be. -/
theorem ld_plainK {t : TypeId} {y : Operand} {ag : Bool} {n b off : Nat} {us : List TV} {vs : List Value} (hop : o.op = .load t y) (hI : Inv w g ow st a) (hl : lay P t ag n = true) (hy : a.eval y = .pointer (some (at_ b off))) (hr : w.rangeAt b off vs) (h1 : vs.length = n) (h2 : us.length = n)
    (h : ∀ (j : Nat) (x : TV) (v : Value), us[j]? = some x → vs[j]? = some v → x.isCell = true ∧ VR w g st.h.length x v) {Q : Exit → Act → World → Prop} :
    o.wp P a w (Nxt w g ow st.h.length (({ v := pack ag (us.map TV.shrK) } : Dl).ap o.dst st)) Q := by
  have hag := (lay_of hl).2.2
  refine wp_val (w' := w) (v := packV ag vs) ?_ (hI.nx0 o.dst (pack_shrK (by omega) (by rw [h2]; exact hag) h))
  unfold execOp; rw [hop]
  simp only [hy, Sem.run_bind, run_ld hl hr h1, Result.andThen_ok]
  rfl
theorem ldK_core {t : TypeId} {y : Operand} {ag : Bool} {n : Nat} {p : Src} (hop : o.op = .load t y) (hl : lay P t ag n = true) (hc : chkS y p = true) (hI : Inv w g ow st a) {us : List TV} (hget : getH st.h (ad st.t p) n = some us) {Q : Exit → Act → World → Prop} :
    o.wp P a w (Nxt w g ow st.h.length (({ v := pack ag (us.map TV.shrK) } : Dl).ap o.dst st)) Q := by
  unfold getH at hget
  split at hget
  · rename_i i off e
    split at hget
    · rename_i cs hb
      obtain ⟨k2, k3⟩ := (ad_spec hI hc).1 _ _ e
      obtain ⟨hb, hdb⟩ := live_some hb
      obtain ⟨vs, r1, r2, r3, r4⟩ := (hI.box i cs hb hdb).cut hget
      exact ld_plainK hop hI hl k2 r1 r2 r3 (fun j x v hx hv => ⟨(r4 j x v hx hv).1, (r4 j x v hx hv).2.1⟩)
    · cases hget
  · rename_i cs e
    obtain ⟨b, off, vs, h2, h3, h4, h5, h6⟩ := cp_range ((ad_spec hI hc).2.1 _ e) hget
    exact ld_plainK hop hI hl h2 h3 h4 h5 h6
  · cases hget
theorem snd_ldk {ag : Bool} {n : Nat} {p : Src} {d : Dl} (hc : chkOp P o.op (.ldk ag n p) = true) (hI : Inv w g ow st a) {call : CallF} (hd : delta call st (.ldk ag n p) = some d) {Q : Exit → Act → World → Prop} :
    o.wp P a w (Nxt w g ow st.h.length (d.ap o.dst st)) Q := by
  cases hop : o.op <;> rw [hop] at hc <;> try (simp [chkOp] at hc; done)
  simp [chkOp] at hc
  simp only [delta] at hd
  split at hd
  · rename_i us hget
    obtain rfl := Option.some.inj hd
    exact ldK_core hop hc.1 hc.2 hI hget
  · cases hd
theorem snd_ldr {ag : Bool} {n : Nat} {r p : Src} {d : Dl} (hc : chkOp P o.op (.ldr ag n r p) = true) (hI : Inv w g ow st a) {call : CallF} (hd : delta call st (.ldr ag n r p) = some d) {Q : Exit → Act → World → Prop} :
    o.wp P a w (Nxt w g ow st.h.length (d.ap o.dst st)) Q := by
  cases hop : o.op <;> rw [hop] at hc <;> try (simp [chkOp] at hc; done)
  simp [chkOp] at hc
  simp only [delta] at hd
  split at hd
  · split at hd
    · split at hd
      · rename_i e1 e2 _ us hget
        obtain rfl := Option.some.inj hd
        exact ldK_core hop hc.1 hc.2 hI hget
      · cases hd
    · cases hd
  · cases hd
theorem snd_slx {sz : Nat} {x : Src} {lo hi : Option Src} {d : Dl} (hc : chkOp P o.op (.slx sz x lo hi) = true) (hI : Inv w g ow st a) {call : CallF} (hd : delta call st (.slx sz x lo hi) = some d) {Q : Exit → Act → World → Prop} :
    o.wp P a w (Nxt w g ow st.h.length (d.ap o.dst st)) Q := by
  cases hop : o.op <;> rw [hop] at hc <;> try (simp [chkOp] at hc; done)
  rename_i t y lo' hi' mx'
  cases mx' with
  | some z => simp [chkOp] at hc
  | none =>
  simp only [chkOp] at hc
  split at hc
  · rename_i e he
    simp at hc
    obtain ⟨⟨⟨⟨hs, hz⟩, c1⟩, c2⟩, c3⟩ := hc
    have ht := elem_of he
    simp only [delta] at hd
    split at hd
    · rename_i ag s i off n ex
      split at hd
      · rename_i cs hcs
        split at hd
        · rename_i hcond
          obtain ⟨rfl, hoff, hs0, hncs⟩ := hcond
          split at hd
          · rename_i h hh
            split at hd
            · rename_i b hb
              have h1 := (ev_spec hI c1 ex).1
              generalize hq : a.eval y = q at h1
              obtain ⟨bh, kh⟩ := bound_spec hI c3 hh
              obtain ⟨bb, kb⟩ := bound_spec hI c2 hb
              obtain ⟨hb1, hb2⟩ := live_some hcs
              obtain ⟨row, ty0, fr0, r1, r2, r3, r4, r5, r6⟩ := hI.box i cs hb1 hb2
              cases h1 with
              | asl _ _ _ _ _ c hi2 hcn hmm hrow =>
                obtain ⟨row', ty1, fr1, r1', r2'⟩ := hrow
                have hrr : row' = row := by unfold RowOf at r1 r1'; rw [r1] at r1'; simp at r1'; exact r1'.1.symm
                subst hrr
                have hM : (cs.length - off) / s ≤ c := by
                  have e1 : (cs.length - off) / s * s ≤ cs.length - off := Nat.div_mul_le_self _ _
                  have e2 : (cs.length - off) / s * s ≤ c * s := by omega
                  exact Nat.le_of_mul_le_mul_right e2 hs0
                have hhc : h ≤ c := by
                  cases hi' with
                  | none => have : h = n := bh; omega
                  | some z => have := kh rfl; omega
                have hbh : b ≤ h := by
                  cases lo' with
                  | none => have : b = 0 := bb; omega
                  | some z => exact kb rfl
                have hrun := run_slc (P := P) (w := w) (m := c) ht hs (some (at_ (g.nu i) off)) bb bh (mx := none) rfl hbh hhc (Nat.le_refl _) (by simp)
                have hexec : (execOp a.eval o).run P w = .ok (.value (.slice (if c = b then some (at_ (g.nu i) off) else (some (at_ (g.nu i) off)).map (·.add (b * s))) (h - b) (c - b))) w := by
                  unfold execOp; rw [hop]
                  simp only [hq, Option.map_none, Sem.run_bind, hrun, Result.andThen_ok]
                  rfl
                have hcbig : c ≤ 9223372036854775807 ∨ h - b ≤ n ∨ True := .inr (.inr trivial)
                split at hd
                · rename_i hemp
                  obtain rfl := Option.some.inj hd
                  refine wp_val hexec (hI.nx0 o.dst (cellR ?_ rfl rfl))
                  have e0 : h - b = 0 := hemp.1
                  rw [e0]
                  refine .sl .shr [] _ (c - b) 1 (fun _ _ => default) (by decide) (by simp) (by simp) (fun ad had _ => ?_) (fun _ => rfl) (by simp) (by simp) (by simp)
                  split at had
                  · cases had; rfl
                  · simp only [Option.map_some, at_add] at had; cases had; rfl
                · rename_i hne
                  split at hd
                  · rename_i hbig
                    obtain rfl := Option.some.inj hd
                    have hval : (if c = b then some (at_ (g.nu i) off) else (some (at_ (g.nu i) off)).map (·.add (b * s))) = some (at_ (g.nu i) (off + b * s)) := by
                      split
                      · rename_i hMb
                        have : b = 0 := by
                          rcases Nat.eq_zero_or_pos b with h0 | h0
                          · exact h0
                          · exact absurd ⟨by omega, by omega⟩ hne
                        subst this
                        simp
                      · simp only [Option.map_some, at_add]
                    rw [hval] at hexec
                    refine wp_val hexec (hI.nx0 o.dst (cellR (.asl ag s i _ _ (c - b) hi2 (by omega) (by unfold roomB at hbig; omega) ?_) rfl rfl))
                    refine ⟨row', ty1, fr1, r1', ?_⟩
                    have : b * s + (c - b) * s = c * s := by rw [← Nat.add_mul]; congr 1; omega
                    omega
                  · cases hd
            · cases hd
          · cases hd
        · cases hd
      · cases hd
    · rename_i tg ex
      split at hd
      · rename_i h hh
        split at hd
        · rename_i b hb
          obtain rfl := Option.some.inj hd
          have h1 := (ev_spec hI c1 ex).1
          generalize hq : a.eval y = q at h1
          obtain ⟨bh, kh⟩ := bound_spec hI c3 hh
          obtain ⟨bb, kb⟩ := bound_spec hI c2 hb
          have hVR := h1
          cases h1 with
          | sl _ _ A c sz0 vals hz0 hcap hmm hA hn hE h' hr =>
            have hh0 : h = 0 := by
              cases hi' with
              | none => exact bh
              | some z => have := kh rfl; omega
            have hb0 : b = 0 := by
              cases lo' with
              | none => exact bb
              | some z => have := kb rfl; omega
            subst hh0
            subst hb0
            have hrun := run_slc (P := P) (w := w) (m := c) ht hs A bb bh (mx := none) rfl (Nat.le_refl _) (Nat.zero_le _) (Nat.le_refl _) (by simp)
            refine wp_val (w' := w) (v := .slice (if c = 0 then A else A.map (·.add (0 * sz))) (0 - 0) (c - 0)) ?_ (hI.nx0 o.dst (cellR ?_ rfl rfl))
            · unfold execOp; rw [hop]
              simp only [hq, List.length_nil, Option.map_none, Sem.run_bind]
              rw [show (Instr.sliceAt t (Value.slice A 0 c) (lo'.map a.eval) (hi'.map a.eval) none).run P w = _ from hrun]
              rfl
            · refine .sl .shr [] _ (c - 0) 1 (fun _ _ => default) (by decide) (by simp) (by simp) (fun ad had hc0 => ?_) (fun _ => rfl) (by simp) (by simp) (by simp)
              split at had
              · omega
              · cases A with
                | none => simp at had
                | some z =>
                  have hz := hA z rfl (by omega)
                  obtain ⟨zb, zo, zs⟩ := z
                  simp only at hz
                  subst hz
                  simp only [Option.map_some] at had
                  rw [show (⟨zb, zo, none⟩ : Addr) = at_ zb zo from rfl, at_add] at had
                  cases had; rfl
        · cases hd
      · cases hd
    · cases hd
  · cases hc
theorem snd_bsr {ag : Bool} {sz n : Nat} {z : List TV} {ps : List (Nat × Src)} {d : Dl} (hc : chkOp P o.op (.bsr ag sz n z ps) = true) (hI : Inv w g ow st a) {call : CallF} (hd : delta call st (.bsr ag sz n z ps) = some d) {Q : Exit → Act → World → Prop} :
    o.wp P a w (Nxt w g ow st.h.length (d.ap o.dst st)) Q := by
  cases hop : o.op <;> rw [hop] at hc <;> try (simp [chkOp] at hc; done)
  rename_i t n' parts
  simp only [chkOp] at hc
  split at hc
  · rename_i e he
    have ht := elem_of he
    simp at hc
    obtain ⟨⟨⟨⟨⟨⟨⟨⟨rfl, hn0⟩, hl⟩, hz⟩, hsmall⟩, hlz⟩, hzl⟩, hzelt⟩, hps⟩ := hc
    obtain ⟨zv, hzr, ⟨ti, hi, hiz⟩, hcv⟩ := layZ_of hlz
    obtain ⟨hs1, hs2, hs3⟩ := lay_of hl
    have hisz : ti.size = sz := by unfold szOf at hs1; rw [hi] at hs1; simpa using hs1
    have hpc : (pack ag z).cells = z := pack_cells (by rw [hzl]; exact hs3) hcv
    obtain ⟨k1, k2⟩ := cvals_cells (w := w) (g := g) (m := st.h.length) hcv
    have hzs : zv.cells.size = sz := by omega
    have h0 : ElR w g st.h.length sz (zeros ag z n') ((Array.range (n' * sz)).map (zv.cells[· % zv.cells.size]!)) := by
      refine ⟨by simp [zeros], fun e he => ?_, fun i e j x hi hj => ?_⟩
      · obtain rfl := List.eq_of_mem_replicate he
        rw [hpc, hzl]
      · have hil : i < n' := by have := (List.getElem?_eq_some_iff.1 hi).1; simpa [zeros] using this
        have : e = pack ag z := by
          simp [zeros, List.getElem?_replicate, hil] at hi
          exact hi.symm
        subst this
        rw [hpc] at hj
        have hjl : j < sz := by have := (List.getElem?_eq_some_iff.1 hj).1; omega
        refine ⟨hzelt x (List.mem_of_getElem? hj), zv.cells[j], ?_, (k2 j x zv.cells[j] hj (by simp)).2.1⟩
        have hlt := idx_of hil hjl
        have hmod : (i * sz + j) % sz = j := by rw [Nat.mul_comm, Nat.mul_add_mod, Nat.mod_eq_of_lt hjl]
        simp [hlt, hzs, hmod]
        have : j < zv.cells.size := by omega
        simp [this]
    simp only [delta] at hd
    split at hd
    · rename_i es hf
      obtain rfl := Option.some.inj hd
      obtain ⟨cells', r1, r2, r3, r4, r5⟩ := fillE_spec hI hz parts.toList ps (zeros ag z n') es _ hps hf h0
      have hlen : es.length = n' := by rw [r2]; simp [zeros]
      have hrun := run_buildSlice w t e n' (parts.map fun (i, x) => (i, a.eval x)) cells' ti zv ht hi hiz (by rw [hisz]; omega) (by rw [hisz]; exact fun h => by rcases Nat.mul_eq_zero.1 h with h | h <;> omega) (by
        rw [hisz, Array.toList_map]; exact r1)
      have hheap : (w.alloc (.cells cells' e)).heap = w.heap.push (.cells cells' e) := rfl
      have hrun2 : (execOp a.eval o).run P w = .ok (.value (.slice (some (at_ w.heap.size 0)) n' n')) (w.alloc (.cells cells' e)) := by
        unfold execOp; rw [hop]
        simp only [Sem.run_bind, hrun, Result.andThen_ok]; rfl
      refine wp_val hrun2 ?_
      have hw : okW sz es = true := List.all_eq_true.2 (fun e he => by simp [r4 e he])
      obtain ⟨f1, f2⟩ := flat_idx hz es hw
      have hsize : cells'.size = n' * sz := by rw [r3, hlen]
      obtain ⟨hs, hI1⟩ := hI.mkBox (w' := w.alloc (.cells cells' e)) (cs := flat es) hheap rfl rfl rfl (by rw [f1, hsize, hlen]; exact Nat.le_refl _) (fun j x u hx hu => by
        obtain ⟨e', e1, e2⟩ := f2 j x hx
        obtain ⟨z1, u', z2, z3⟩ := r5 _ e' _ x e1 e2
        have hj : j < n' * sz := by have := (Array.getElem?_eq_some_iff.1 hu).1; omega
        rw [(idx_lt hj).2.2] at z2
        rw [hu] at z2
        obtain rfl := Option.some.inj z2
        exact ⟨isElt_isCell z1, z3, owns_cell (isElt_isCell z1) (by cases x <;> first | rfl | (rename_i tg _; cases tg <;> first | rfl | simp [TV.isElt] at z1))⟩)
      refine ⟨_, _, hs, ?_⟩
      cases hdst : o.dst with
      | none => exact ⟨hI1.defers, hI1.len, hI1.slot, hI1.box, hI1.bd, hI1.base⟩
      | some i =>
        have hnu : (gBox g w.heap.size st.h.length).nu st.h.length = w.heap.size := by simp [gBox]
        have hn16 : n' ≤ 16777216 := Nat.le_trans (Nat.le_mul_of_pos_right _ hz) hsmall
        have hp : VR (w.alloc (.cells cells' e)) (gBox g w.heap.size st.h.length) (st.h ++ [flat es]).length (.asl ag sz st.h.length 0 n') (.slice (some (at_ ((gBox g w.heap.size st.h.length).nu st.h.length) 0)) n' n') :=
          .asl _ _ _ _ _ _ (by simp) (Nat.le_refl _) (by omega) ⟨_, _, _, by rw [hnu]; exact row_push hheap, by omega⟩
        rw [hnu] at hp
        exact hI1.put i rfl hp (owns_cell rfl rfl)
    · cases hd
  · cases hc
end
end Go.T
/- Operations of the small machine: rows that are cleared, rows that are appended to. -/
set_option linter.unusedVariables false
set_option linter.unusedSimpArgs false
set_option maxRecDepth 10000
namespace Go.T
section
variable {P : Program} {w : World} {g : Gh} {ow : Ow} {st : St} {a : Act} {o : Oper} {dst : Option Nat}
theorem zeroCells_get (z : Array Value) (n k : Nat) (hk : k < n * z.size) : (Builtin.zeroCells z n).toList[k]? = z[k % z.size]? := by
  have hz : 0 < z.size := by
    rcases Nat.eq_zero_or_pos z.size with h | h
    · rw [h] at hk; simp at hk
    · exact h
  have hm : k % z.size < z.size := Nat.mod_lt _ hz
  simp [Builtin.zeroCells, hk, hm]
theorem snd_clr {z : List TV} {x : Src} {d : Dl} (hc : chkOp P o.op (.clr z x) = true) (hI : Inv w g ow st a) {call : CallF} (hd : delta call st (.clr z x) = some d) {Q : Exit → Act → World → Prop} :
    o.wp P a w (Nxt w g ow st.h.length (d.ap o.dst st)) Q := by
  cases hop : o.op <;> rw [hop] at hc <;> try (simp [chkOp] at hc; done)
  rename_i cl
  obtain ⟨cal, as, ts⟩ := cl
  cases cal <;> try (simp [chkOp] at hc; done)
  rename_i bu
  cases bu <;> simp only [chkOp] at hc <;> try (cases hc; done)
  split at hc
  · rename_i p t has hts
    obtain rfl : as = #[p] := Array.toList_inj.1 has
    obtain rfl : ts = #[t] := Array.toList_inj.1 hts
    simp only [Bool.and_eq_true] at hc
    obtain ⟨hce, c1⟩ := hc
    split at hce
    · rename_i e he
      have ht := elem_of he
      simp only [Bool.and_eq_true, decide_eq_true_eq] at hce
      obtain ⟨⟨hs, hz⟩, hlz⟩ := hce
      obtain ⟨zv, hzr, ⟨ti, hi, hiz⟩, hcv⟩ := layZ_of hlz
      obtain ⟨k1, k2⟩ := cvals_cells (w := w) (g := g) (m := st.h.length) hcv
      simp only [delta] at hd
      split at hd
      · rename_i tg ex
        obtain rfl := Option.some.inj hd
        have h1 := (ev_spec hI c1 ex).1
        generalize hq : a.eval p = q at h1
        cases h1 with
        | sl _ _ A c sz0 vals hz0 hcap hmm hA hn hE h' hr =>
          have hrun : (Builtin.clear_ #[t] o.type #[.slice A ([] : List TV).length c]).run P w = .ok (.tuple #[]) w := by
            cases A <;> simp [Builtin.clear_, run_underlying ht]
          refine wp_val (v := .tuple #[]) (w' := w) ?_ (hI.nx0 o.dst ⟨.tup [] #[] rfl (by simp) (by simp), rfl, fun w' g' ow' q p sz s l A n c hs => by cases hs; rename_i hx hv h; simp at hx⟩)
          unfold execOp; rw [hop]
          simp only [resolve, invoke, builtin, List.map_cons]
          simp [hq] at hrun ⊢
          simp [hrun]
      · rename_i ag s i off n ex
        split at hd
        · rename_i cs hcs
          split at hd
          · rename_i hcond
            obtain ⟨rfl, hle, hlz0⟩ := hcond
            obtain rfl := Option.some.inj hd
            have h1 := (ev_spec hI c1 ex).1
            generalize hq : a.eval p = q at h1
            obtain ⟨hb1, hb2⟩ := live_some hcs
            obtain ⟨row, ty0, fr0, r1, r2, r3, r4, r5, r6⟩ := hI.box i cs hb1 hb2
            cases h1 with
            | asl _ _ _ _ _ c hi2 hcn hmm hrow =>
              have hzs : zv.cells.size = z.length := k1.symm
              obtain ⟨f1, f2⟩ := flat_rep (.agg z) n
              rw [show (TV.agg z).cells = z from rfl] at f1 f2
              have hzl : (Builtin.zeroCells zv.cells n).toList.length = n * z.length := by simp [Builtin.zeroCells, hzs]
              have hvr : ∀ (j : Nat) (x : TV) (u : Value), (flat (List.replicate n (.agg z)))[j]? = some x → (Builtin.zeroCells zv.cells n).toList[j]? = some u → x.isCell = true ∧ VR w g st.h.length x u ∧ ∀ w' g' ow' q, Owns w' g' ow' q x u := by
                intro j x u hx hu
                have hj : j < n * z.length := by rw [← hzl]; exact (List.getElem?_eq_some_iff.1 hu).1
                rw [f2 j hj] at hx
                rw [zeroCells_get _ _ _ (by rw [hzs]; exact hj), hzs] at hu
                exact k2 _ x u hx hu
              obtain ⟨hstp, hinv⟩ := hI.wrH (i := i) (off := off) (cs := cs) (us := flat (List.replicate n (.agg z))) (vs := (Builtin.zeroCells zv.cells n).toList) hb1 hb2 (by rw [f1]; exact hle) (by rw [f1, hzl]) (fun j x u hx hu => ⟨(hvr j x u hx hu).1, (hvr j x u hx hu).2.1, (hvr j x u hx hu).2.2 _ _ _ _⟩) st.keep
              have hrun : (Builtin.clear_ #[t] o.type #[.slice (some (at_ (g.nu i) off)) n c]).run P w = .ok (.tuple #[]) (w.setCells (g.nu i) off (Builtin.zeroCells zv.cells n).toList) := by
                have hst := run_storeCells_cells (P := P) (g.nu i) off (Builtin.zeroCells zv.cells n).toList 0 w (fun j hj => by
                  rw [hzl] at hj
                  have := cell_of_row (o := off + j) r1
                  rw [show (⟨g.nu i, off + 0 + j, none⟩ : Addr) = at_ (g.nu i) (off + j) from rfl, this]
                  simp; omega) (fun j hj => by
                  rw [hzl] at hj
                  exact NF_frozen r1 r3 (by omega)) (fun v hv => by
                  obtain ⟨j, hj⟩ := List.getElem?_of_mem hv
                  have hjl : j < n * z.length := by rw [← hzl]; exact (List.getElem?_eq_some_iff.1 hj).1
                  obtain ⟨z1, z2, _⟩ := hvr j _ v (List.getElem?_eq_getElem (by rw [f1]; exact hjl)) hj
                  exact z2.oneCell z1)
                simp only [Nat.add_zero] at hst
                cases n with
                | zero => simp [Builtin.clear_, run_underlying ht, Builtin.zeroCells, World.setCells]
                | succ n => simp [Builtin.clear_, run_underlying ht, hzr, hst]
              refine wp_val (v := .tuple #[]) (w' := w.setCells (g.nu i) off (Builtin.zeroCells zv.cells n).toList) ?_ ⟨g, ow, hstp, ?_⟩
              · unfold execOp; rw [hop]
                simp [resolve, invoke, builtin, hq, hrun]
              · cases hdst : o.dst with
                | none => exact ⟨hinv.defers, hinv.len, hinv.slot, hinv.box, hinv.bd, hinv.base⟩
                | some j =>
                  have := hinv.put j (x := .tup []) (v := .tuple #[]) rfl (.tup [] #[] rfl (by simp) (by simp)) (by intro p sz s l A n' c hs'; cases hs'; rename_i hx hv h; simp at hx)
                  exact ⟨this.defers, this.len, this.slot, this.box, this.bd, this.base⟩
          · cases hd
        · cases hd
      · cases hd
    · cases hce
  · cases hc
/-- A box that nobody may look into any more. -/
theorem Inv.killBox (hI : Inv w g ow st a) (b : Nat) : Inv w g ow { st with h := st.h.set b [.tup []] } a where
  defers := hI.defers
  len := hI.len
  bd := hI.bd
  base := by simpa using hI.base
  box i ds hi := by
    rw [show ({ st with h := st.h.set b [.tup []] } : St).h.length = st.h.length by simp]
    have hi' : (st.h.set b [.tup []])[i]? = some ds := hi
    rw [List.getElem?_set] at hi'
    split at hi'
    · intro hdd
      split at hi'
      · obtain rfl := Option.some.inj hi'
        cases hdd
      · cases hi'
    · exact hI.box i ds hi'
  slot j := by
    rw [show ({ st with h := st.h.set b [.tup []] } : St).h.length = st.h.length by simp]
    exact hI.slot j
/-- A block that is no box's any more, as a new box. -/
theorem Inv.adopt (hI : Inv w g ow st a) {m : Nat} (hm : st.h.length = m) {b B : Nat} (hB : ow B = some [1, b]) (hdead : ∀ cs, st.h[b]? = some cs → dead cs = true) {cs : List TV} {vs : Array Value} {ty : TypeId} {fr : Nat × Nat} (hrow : RowOf w B vs ty fr) (hl : cs.length ≤ vs.size) (hfr : NF fr vs.size) (himm : g.imm B = 0)
    (hc : ∀ (j : Nat) (x : TV) (u : Value), cs[j]? = some x → vs[j]? = some u → x.isCell = true ∧ VR w g m x u ∧ x.noOwn = true) :
    Stp w g ow m w ⟨g.imm, fun i => if i = m then B else g.nu i⟩ (fun c => if c = B then some [1, m] else ow c) ∧
    Inv w ⟨g.imm, fun i => if i = m then B else g.nu i⟩ (fun c => if c = B then some [1, m] else ow c) { st with h := st.h ++ [cs] } a := by
  subst hm
  have hs : Stp w g ow st.h.length w ⟨g.imm, fun i => if i = st.h.length then B else g.nu i⟩ (fun c => if c = B then some [1, st.h.length] else ow c) := by
    refine ⟨rfl, rfl, rfl, Nat.le_refl _, fun _ _ _ _ => rfl, fun _ _ => Nat.le_refl _, fun i hi => ?_, fun b vs ty fr hh => ⟨vs, fr, hh, rfl⟩, fun c _ hf => ?_, fun c q hq => ?_⟩
    · show (if i = st.h.length then B else g.nu i) = _
      rw [if_neg (by omega)]
    · have hcb : c ≠ B := by
        rintro rfl
        rw [hB] at hf
        rcases hf with hf | ⟨q, hf⟩ <;> simp at hf
      simp [hcb]
    · change (if c = B then some [1, st.h.length] else ow c) = _ at hq
      split at hq
      · simp at hq
      · exact ⟨hI.bd c _ hq, hq⟩
  have hk : ∀ (c : Nat) (q : List Nat), ow c = some q → (q ≠ [1, b]) → (fun c => if c = B then some [1, st.h.length] else ow c) c = ow c := by
    intro c q hq hne
    have : c ≠ B := by
      rintro rfl
      rw [hB] at hq
      exact hne (Option.some.inj hq).symm
    simp [this]
  refine ⟨hs, hI.defers, hI.len, fun j => ?_, fun i ds hi => ?_, fun c q hq => ?_, by have := hI.base; simp; omega⟩
  · have hlen : ({ st with h := st.h ++ [cs] } : St).h.length = st.h.length + 1 := by simp
    rw [hlen]
    have hj := hI.slot j
    have hkk : ∀ c p, ow c = some ([0, j] ++ p) → w.heap[c]? = w.heap[c]? ∧ g.imm c = g.imm c ∧ (fun c => if c = B then some [1, st.h.length] else ow c) c = ow c := fun c p hcp => ⟨rfl, rfl, hk c _ hcp (by simp)⟩
    show SlotR w _ _ _ st.t a.tmps j (sl st.t j) _
    generalize sl st.t j = x at hj ⊢
    cases x <;> first | exact ⟨hj.1.mono hs (Nat.le_succ _), hj.2.mono hkk⟩ | skip
    case lbox ds =>
      obtain ⟨b', h1, h2⟩ := hj
      exact ⟨b', h1, h2.mono hs (Nat.le_succ _) hkk⟩
    case lp b o => exact hj
  · have hlen : ({ st with h := st.h ++ [cs] } : St).h.length = st.h.length + 1 := by simp
    rw [hlen]
    have hi' : (st.h ++ [cs])[i]? = some ds := hi
    rw [List.getElem?_append] at hi'
    split at hi'
    · rename_i hlt
      by_cases hib : i = b
      · subst hib
        intro hdd
        rw [hdead ds hi'] at hdd
        cases hdd
      · have hne : i ≠ st.h.length := by omega
        show BoxD w _ _ _ [1, i] ds (if i = st.h.length then B else g.nu i)
        rw [if_neg hne]
        exact (hI.box i ds hi').mono hs (Nat.le_succ _) (fun c p hcp => ⟨rfl, rfl, hk c _ hcp (by simp [hib])⟩)
    · rename_i hge
      have : i = st.h.length := by
        rcases Nat.lt_or_ge (i - st.h.length) 1 with h | h
        · omega
        · rw [List.getElem?_eq_none (by simp; omega)] at hi'; cases hi'
      subst this
      simp at hi'
      subst hi'
      show BoxD w _ _ _ [1, st.h.length] cs (if st.h.length = st.h.length then B else g.nu st.h.length)
      rw [if_pos rfl]
      refine fun _ => ⟨vs, ty, fr, hrow, hl, hfr, himm, by simp, fun j x u hx hu => ?_⟩
      obtain ⟨c1, c2, c3⟩ := hc j x u hx hu
      exact ⟨c1, c2.mono hs (Nat.le_succ _), owns_cell c1 c3⟩
  · change (if c = B then some [1, st.h.length] else ow c) = _ at hq
    split at hq
    · rename_i hcb; rw [hcb]; exact hI.bd _ _ hB
    · exact hI.bd c q hq
theorem isElt_noOwn {x : TV} (h : x.isElt = true) : x.isCell = true ∧ x.noOwn = true :=
  ⟨isElt_isCell h, by cases x <;> first | rfl | (rename_i tg _; cases tg <;> first | rfl | simp [TV.isElt] at h)⟩
/-- Cells of elements as cells of a box. -/
theorem flat_cells {m sz : Nat} (hz : 0 < sz) {l : List TV} (hw : okW sz l = true) {news : List Value} (hf : Flat w g m sz l news) {k : Nat} {x : TV} (hx : (flat l)[k]? = some x) : ∃ u, news[k]? = some u ∧ x.isCell = true ∧ VR w g m x u ∧ x.noOwn = true := by
  obtain ⟨f1, f2⟩ := flat_idx hz l hw
  obtain ⟨e, e1, e2⟩ := f2 k x hx
  have hk : k < l.length * sz := by rw [← f1]; exact (List.getElem?_eq_some_iff.1 hx).1
  obtain ⟨z1, u, z2, z3⟩ := hf.2 _ e _ x e1 e2
  rw [(idx_lt hk).2.2] at z2
  exact ⟨u, z2, (isElt_noOwn z1).1, z3, (isElt_noOwn z1).2⟩
/-- A fresh row: what stands at its beginning. -/
theorem Inv.freshRow (hI : Inv w g ow st a) {w' : World} {cs : List TV} {vs : Array Value} {ty : TypeId} (hh : w'.heap = w.heap.push (.cells vs ty (0, 0))) (e1 : w'.os = w.os) (e2 : w'.tape = w.tape) (e3 : w'.output = w.output) (h4 : cs.length ≤ vs.size)
    (h5 : ∀ (j : Nat) (x : TV) (u : Value), cs[j]? = some x → vs[j]? = some u → x.isCell = true ∧ VR w g st.h.length x u ∧ x.noOwn = true) {ag : Bool} {sz n c : Nat} (hc : n ≤ c) (hm : n ≤ 9223372036854775807) (hsz : c * sz = vs.size) (dst : Option Nat) (kk : Bool) :
    ∃ g' ow', Stp w g ow st.h.length w' g' ow' ∧ Inv w' g' ow' (({ v := .asl ag sz st.h.length 0 n, hw := some (st.h ++ [cs], kk) } : Dl).ap dst st) (a.put dst (.slice (some (at_ w.heap.size 0)) n c)) := by
  obtain ⟨hs, hI1⟩ := hI.mkBox (w' := w') hh e1 e2 e3 h4 (fun j x u hx hu => by
    obtain ⟨c1, c2, c3⟩ := h5 j x u hx hu
    exact ⟨c1, c2, owns_cell c1 c3⟩)
  refine ⟨_, _, hs, ?_⟩
  cases hdst : dst with
  | none => exact ⟨hI1.defers, hI1.len, hI1.slot, hI1.box, hI1.bd, hI1.base⟩
  | some i =>
    have hnu : (gBox g w.heap.size st.h.length).nu st.h.length = w.heap.size := by simp [gBox]
    have hp : VR w' (gBox g w.heap.size st.h.length) (st.h ++ [cs]).length (.asl ag sz st.h.length 0 n) (.slice (some (at_ ((gBox g w.heap.size st.h.length).nu st.h.length) 0)) n c) :=
      .asl _ _ _ _ _ _ (by simp) hc hm ⟨_, _, _, by rw [hnu]; exact row_push hh, by omega⟩
    rw [hnu] at hp
    have := hI1.put i rfl hp (owns_cell rfl rfl)
    exact ⟨this.defers, this.len, this.slot, this.box, this.bd, this.base⟩
theorem snd_apr {ag : Bool} {sz bytes : Nat} {x y : Src} {d : Dl} (hc : chkOp P o.op (.apr ag sz bytes x y) = true) (hI : Inv w g ow st a) {call : CallF} (hd : delta call st (.apr ag sz bytes x y) = some d) {Q : Exit → Act → World → Prop} :
    o.wp P a w (Nxt w g ow st.h.length (d.ap o.dst st)) Q := by
  cases hop : o.op <;> rw [hop] at hc <;> try (simp [chkOp] at hc; done)
  rename_i cl
  obtain ⟨cal, as, ts⟩ := cl
  cases cal <;> try (simp [chkOp] at hc; done)
  rename_i bu
  cases bu <;> simp only [chkOp] at hc <;> try (cases hc; done)
  split at hc
  · rename_i p q t u has hts
    obtain rfl : as = #[p, q] := Array.toList_inj.1 has
    obtain rfl : ts = #[t, u] := Array.toList_inj.1 hts
    simp only [Bool.and_eq_true] at hc
    obtain ⟨⟨⟨hce, c1⟩, c2⟩, c3⟩ := hc
    split at hce
    · rename_i e he
      have ht := elem_of he
      simp only [Bool.and_eq_true, decide_eq_true_eq] at hce
      obtain ⟨⟨⟨⟨hlay, hz⟩, hby⟩, hb0⟩, hzv⟩ := hce
      have hs := (lay_of hlay).1
      split at hzv
      · rename_i zv hze
        have hzs : zv.cells.size = sz := by simpa using hzv
        have hkind : (∃ e', P.underlying u = some (.slice e')) ∨ P.underlying u = some .string := by
          simp only [Bool.or_eq_true] at c3
          rcases c3 with c3 | c3
          · exact .inr (isStr_of c3)
          · obtain ⟨e', he'⟩ := some_of c3
            exact .inl ⟨e', elem_of he'⟩
        obtain ⟨ti, hi, hisz⟩ := info_of hs
        have hiby : ti.bytes = bytes := by unfold byOf at hby; rw [hi] at hby; simpa using hby
        have hiz : ti.zero = some zv := by unfold zeOf at hze; rw [hi] at hze; simpa using hze
        have hexec : ∀ (rv : Value) (w' : World), (Builtin.append_ #[t, u] o.type #[a.eval p, a.eval q]).run P w = .ok rv w' → (execOp a.eval o).run P w = .ok (.value rv) w' := by
          intro rv w' hr
          unfold execOp; rw [hop]
          simp [resolve, invoke, builtin, hr]
        -- a slice from another place, appended to: a new row
        have grow : ∀ (st1 : St) (ow1 : Ow) (A : Option Addr) (n c : Nat) (olds : List Value) (l2 : List TV) (news : List Value) (cs0 : List TV), Inv w g ow1 st1 a → Stp w g ow st.h.length w g ow1 → st1.h.length = st.h.length → a.eval p = .slice A n c → (Builtin.firstCells sz n (.slice A n c)).run P w.drew = .ok olds.toArray w.drew →
            olds.length = n * sz → cs0.length = n * sz → (∀ (j : Nat) (x : TV) (u : Value), cs0[j]? = some x → olds[j]? = some u → x.isCell = true ∧ VR w g st.h.length x u ∧ x.noOwn = true) →
            okW sz l2 = true → _root_.Go.Src P sz u (a.eval q) l2.length news w → Flat w g st.h.length sz l2 news → c < n + l2.length → (n + l2.length) * bytes ≤ roomB → n + l2.length ≤ roomB → ∀ kk,
            o.wp P a w (Nxt w g ow st.h.length (({ v := .asl ag sz st1.h.length 0 (n + l2.length), hw := some (st1.h ++ [cs0 ++ flat l2], kk) } : Dl).ap o.dst st1)) Q := by
          intro st1 ow1 A n c olds l2 news cs0 hI1 hst1 hlen1 hp hfirst hol hcl hcs0 hw2 hsrc hfl hgrow hb1 hb2 kk
          have h63 : ((n + l2.length : Nat) : Int) ≤ 9223372036854775807 := by unfold roomB at hb2; omega
          have hfit : Builtin.nextslicecap (n + l2.length) c * ti.bytes ≤ 281474976710656 := growslice_fits hgrow (by rw [hiby]; unfold roomB at hb1; exact hb1)
          have hsrc' : _root_.Go.Src P ti.size u (a.eval q) l2.length news w := by rw [hisz]; exact hsrc
          have hrun := run_append_grow_src (P := P) w t u o.type e ti zv ht hi hiz A n c olds (by rw [hisz]; exact hfirst) (a.eval q) l2.length news hsrc' hgrow h63 hfit
          rw [← hp] at hrun
          obtain ⟨nc, hnc⟩ : ∃ nc, nc = grownCap w (n + l2.length) c e := ⟨_, rfl⟩
          have hge := grownCap_ge w (n + l2.length) c e
          rw [← hnc] at hrun hge
          obtain ⟨cells, hcells⟩ : ∃ cells, cells = (olds ++ news).toArray ++ Builtin.zeroCells zv.cells (nc - (n + l2.length)) := ⟨_, rfl⟩
          rw [← hcells] at hrun
          have hnl : news.length = l2.length * sz := hfl.1
          have hsize : cells.size = nc * sz := by
            rw [hcells]
            simp only [Array.size_append, List.size_toArray, List.length_append, Builtin.zeroCells, Array.size_map, Array.size_range, hzs]
            rw [hol, hnl, ← Nat.add_mul, ← Nat.add_mul]
            congr 1; omega
          have hheap : (w.drew.alloc (.cells cells e)).heap = w.heap.push (.cells cells e) := rfl
          obtain ⟨f1, f2⟩ := flat_idx hz l2 hw2
          have hclen : (cs0 ++ flat l2).length = (n + l2.length) * sz := by rw [List.length_append, hcl, f1, Nat.add_mul]
          obtain ⟨g', ow', s1, s2⟩ := hI1.freshRow (w' := w.drew.alloc (.cells cells e)) (cs := cs0 ++ flat l2) (ag := ag) (sz := sz) (n := n + l2.length) (c := nc) hheap rfl rfl rfl (by rw [hclen, hsize]; exact Nat.mul_le_mul_right _ hge) (fun j x u hx hu => by
            rw [hlen1]
            rw [hcells] at hu
            have hjl : j < (n + l2.length) * sz := by rw [← hclen]; exact (List.getElem?_eq_some_iff.1 hx).1
            have hadd : (n + l2.length) * sz = n * sz + l2.length * sz := Nat.add_mul _ _ _
            rw [Array.getElem?_append_left (by simp [hol, hnl]; omega)] at hu
            simp only [List.getElem?_toArray] at hu
            rw [List.getElem?_append] at hx hu
            split at hx
            · rename_i hlt
              rw [if_pos (by omega)] at hu
              exact hcs0 j x u hx hu
            · rename_i hge2
              rw [if_neg (by omega)] at hu
              rw [hcl] at hx
              rw [hol] at hu
              obtain ⟨u', z1, z2, z3, z4⟩ := flat_cells hz hw2 hfl hx
              rw [z1] at hu
              obtain rfl := Option.some.inj hu
              exact ⟨z2, z3, z4⟩) hge (by unfold roomB at hb2; omega) hsize.symm o.dst kk
          refine wp_val (hexec _ _ hrun) ⟨g', ow', (hst1.trans (by rw [← hlen1]; exact s1) (Nat.le_refl _)), s2⟩
        simp only [delta] at hd
        split at hd
        · rename_i is l2 e1 e2
          split at hd
          · rename_i hcond
            obtain ⟨k1, k3, k4⟩ := hcond
            obtain ⟨news, f1, f2⟩ := src_spec (P := P) hI hkind c2 e2 k1 hz
            obtain ⟨v1, v2, v3⟩ := tak_spec hI c1 e1
            generalize hq : a.eval p = rp at v1 v3
            cases v1 with
            | nils A hA =>
            split at hd
            · rename_i hl0
              obtain rfl := Option.some.inj hd
              have hl2 : l2 = [] := List.eq_nil_of_length_eq_zero hl0
              subst hl2
              have hnews : news = [] := List.eq_nil_of_length_eq_zero (by rw [f2.1]; simp)
              subst hnews
              have hsrc' : _root_.Go.Src P ti.size u (a.eval q) ([] : List TV).length [] w := by rw [hisz]; exact f1
              have hrun := run_append_nothing (P := P) w t u o.type e ti ht hi A 0 0 (Nat.le_refl _) (a.eval q) hsrc'
              rw [← hq] at hrun
              refine wp_val (hexec _ _ hrun) ?_
              rw [hq]
              exact hI.apT o.dst (.nils A hA) rfl v3
            · rename_i hl0
              obtain rfl := Option.some.inj hd
              obtain ⟨ow1, h1, h2, _⟩ := hI.aside v2 v3
              have hcap : (0 : Nat) < 0 + l2.length := by omega
              have := grow { st with t := downs is st.t } ow1 A 0 0 [] l2 news [] h1 h2 rfl hq (by
                cases A with
                | none => exact run_firstCells_none w.drew sz 0 0 0
                | some ad => exact run_firstCells_some w.drew sz 0 ad 0 0 [] (by simp) (by simp)) (by simp) (by simp) (by simp) k1 f1 f2 hcap (by simpa using k3) (by simpa using k4) st.keep
              simp only [Nat.zero_add, List.nil_append] at this
              exact this
          · cases hd
        · rename_i ag0 s b off n is l2 e1 e2
          split at hd
          · rename_i cs hcs
            split at hd
            · rename_i hcond
              obtain ⟨rfl, rfl, hncs, k1, k3, k4⟩ := hcond
              obtain ⟨hb1, hb2⟩ := live_some hcs
              obtain ⟨news, f1, f2⟩ := src_spec (P := P) hI hkind c2 e2 k1 hz
              obtain ⟨v1, v2, v3⟩ := tak_spec hI c1 e1
              obtain ⟨ow1, h1, h2, _⟩ := hI.aside v2 v3
              obtain ⟨row, ty0, fr0, r1, r2, r3, r4, r5, r6⟩ := h1.box b cs hb1 hb2
              have hblt : b < st.h.length := (List.getElem?_eq_some_iff.1 hb1).1
              generalize hq : a.eval p = rp at v1 v3
              have v1' := v1
              cases v1 with
              | asl _ _ _ _ _ c hi2 hcn hmm hrow =>
              obtain ⟨row', ty1, fr1, r1', r2'⟩ := hrow
              have hrr : row' = row := by unfold RowOf at r1 r1'; rw [r1] at r1'; simp at r1'; exact r1'.1.symm
              subst hrr
              have hcsz : c * s = row'.size := by omega
              split at hd
              · rename_i hl0
                obtain rfl := Option.some.inj hd
                have hl2 : l2 = [] := List.eq_nil_of_length_eq_zero hl0
                subst hl2
                have hnews : news = [] := List.eq_nil_of_length_eq_zero (by rw [f2.1]; simp)
                subst hnews
                have hsrc' : _root_.Go.Src P ti.size u (a.eval q) ([] : List TV).length [] w := by rw [hisz]; exact f1
                have hrun := run_append_nothing (P := P) w t u o.type e ti ht hi (some (at_ (g.nu b) 0)) n c hcn (a.eval q) hsrc'
                rw [← hq] at hrun
                refine wp_val (hexec _ _ hrun) ?_
                rw [hq]
                exact ⟨g, ow1, h2, by
                  have hv : VR w g st.h.length (.asl ag s b 0 n) (.slice (some (at_ (g.nu b) 0)) n c) := .asl _ _ _ _ _ _ hi2 hcn hmm ⟨_, _, _, r1, r2'⟩
                  cases hdst : o.dst with
                  | none => exact ⟨h1.defers, h1.len, h1.slot, h1.box, h1.bd, h1.base⟩
                  | some i =>
                    have := h1.put i (x := .asl ag s b 0 n) rfl hv (owns_cell rfl rfl)
                    exact ⟨this.defers, this.len, this.slot, this.box, this.bd, this.base⟩⟩
              · rename_i hl0
                obtain ⟨fl1, fl2⟩ := flat_idx hz l2 k1
                have hnl : news.length = l2.length * s := f2.1
                have hadd : (n + l2.length) * s = n * s + l2.length * s := Nat.add_mul _ _ _
                have room : n + l2.length ≤ c → (Builtin.append_ #[t, u] o.type #[a.eval p, a.eval q]).run P w = .ok (.slice (some (at_ (g.nu b) 0)) (n + l2.length) c) (w.setCells (g.nu b) (n * s) news) := by
                  intro hroom
                  have hle : (n + l2.length) * s ≤ c * s := Nat.mul_le_mul_right _ hroom
                  have hsrc' : _root_.Go.Src P ti.size u (a.eval q) l2.length news w := by rw [hisz]; exact f1
                  have hrun := run_append_room_src (P := P) w t u o.type e ti ht hi (g.nu b) 0 n c (a.eval q) l2.length news hsrc' hroom (fun j hj => by
                    rw [hisz, show (⟨g.nu b, 0 + n * s + j, none⟩ : Addr) = at_ (g.nu b) (0 + n * s + j) from rfl, cell_of_row r1]
                    simp; omega) (fun j hj => by
                    rw [hisz]
                    exact NF_frozen r1 r3 (by omega))
                  rw [hisz, Nat.zero_add] at hrun
                  rw [hq]
                  exact hrun
                split at hd
                · rename_i hfit
                  obtain rfl := Option.some.inj hd
                  have hroom : n + l2.length ≤ c := by
                    have : (n + l2.length) * s ≤ c * s := by omega
                    exact Nat.le_of_mul_le_mul_right this hz
                  obtain ⟨hstp, hinv⟩ := h1.wrH (i := b) (off := n * s) (cs := cs) (us := flat l2) (vs := news) hb1 hb2 (by rw [fl1]; omega) (by rw [fl1, hnl]) (fun j x u hx hu => by
                    obtain ⟨u', z1, z2, z3, z4⟩ := flat_cells hz k1 f2 hx
                    rw [z1] at hu
                    obtain rfl := Option.some.inj hu
                    exact ⟨z2, z3, owns_cell z2 z4⟩) (keeps st b l2)
                  refine wp_val (hexec _ _ (room hroom)) ⟨g, ow1, h2.trans hstp (Nat.le_refl _), ?_⟩
                  obtain ⟨vs', q1, q2, _⟩ := setCells_row news (n * s) w row' ty0 fr0 r1 (by omega)
                  have hv : VR (w.setCells (g.nu b) (n * s) news) g st.h.length (.asl ag s b 0 (n + l2.length)) (.slice (some (at_ (g.nu b) 0)) (n + l2.length) c) := .asl _ _ _ _ _ _ hi2 hroom (by unfold roomB at k4; omega) ⟨_, _, _, q1, by omega⟩
                  cases hdst : o.dst with
                  | none => exact ⟨hinv.defers, hinv.len, hinv.slot, hinv.box, hinv.bd, hinv.base⟩
                  | some i =>
                    have := hinv.put i (x := .asl ag s b 0 (n + l2.length)) rfl (by simpa using hv) (owns_cell rfl rfl)
                    exact ⟨this.defers, this.len, this.slot, this.box, this.bd, this.base⟩
                · rename_i hfit
                  obtain rfl := Option.some.inj hd
                  have hold : ∀ (j : Nat) (x : TV), ((cs.take (n * s)).map TV.shr0)[j]? = some x → j < n * s ∧ ∃ y, cs[j]? = some y ∧ x = y.shr0 := by
                    intro j x hx
                    obtain ⟨y, hy, rfl⟩ := getElem?_map_some hx
                    have hj : j < n * s := by have := (List.getElem?_eq_some_iff.1 hy).1; simp at this; omega
                    rw [List.getElem?_take, if_pos hj] at hy
                    exact ⟨hj, y, hy, rfl⟩
                  by_cases hroom : n + l2.length ≤ c
                  · -- the block goes over to the new box
                    have hle : (n + l2.length) * s ≤ c * s := Nat.mul_le_mul_right _ hroom
                    have hstp := Stp.write (m := st.h.length) h1.bd r5 (by simp) r1 (k := n * s) (us := news) (by omega) (by omega) 0 (.inl r4.symm)
                    rw [gSame r4] at hstp
                    have hk1 := h1.killBox b
                    have hinv1 : Inv (w.setCells (g.nu b) (n * s) news) g ow1 { st with t := downs is st.t, h := st.h.set b [.tup []] } a := by
                      have hoth : ∀ (c : Nat) (q : List Nat), ow1 c = some q → q ≠ [1, b] → (w.setCells (g.nu b) (n * s) news).heap[c]? = w.heap[c]? := by
                        intro c q hcq hne
                        refine setCells_other ?_ _ _ _
                        rintro rfl
                        rw [r5] at hcq
                        exact hne (Option.some.inj hcq).symm
                      have hlen2 : (st.h.set b [.tup []]).length = st.h.length := by simp
                      refine ⟨h1.defers, h1.len, fun j => ?_, fun k ds hk => ?_, fun c q hq => by rw [(setCells_same _ _ _).2.2.2]; exact h1.bd c q hq, by have := h1.base; simpa using this⟩
                      · have hj := hk1.slot j
                        have hkk : ∀ c p, ow1 c = some ([0, j] ++ p) → (w.setCells (g.nu b) (n * s) news).heap[c]? = w.heap[c]? ∧ g.imm c = g.imm c ∧ ow1 c = ow1 c := fun c p hcp => ⟨hoth c _ hcp (by simp), rfl, rfl⟩
                        have hS : Stp w g ow1 (st.h.set b [.tup []]).length (w.setCells (g.nu b) (n * s) news) g ow1 := by rw [hlen2]; exact hstp
                        show SlotR _ g (st.h.set b [.tup []]).length ow1 (downs is st.t) a.tmps j (sl (downs is st.t) j) _
                        change SlotR w g (st.h.set b [.tup []]).length ow1 (downs is st.t) a.tmps j (sl (downs is st.t) j) _ at hj
                        generalize sl (downs is st.t) j = y at hj ⊢
                        cases y <;> first | exact ⟨hj.1.mono hS (Nat.le_refl _), hj.2.mono hkk⟩ | skip
                        case lbox ds =>
                          obtain ⟨k3, e3, e4⟩ := hj
                          exact ⟨k3, e3, e4.mono hS (Nat.le_refl _) hkk⟩
                        case lp b2 off2 => exact hj
                      · show BoxD _ g (st.h.set b [.tup []]).length ow1 [1, k] ds (g.nu k)
                        have hk' : (st.h.set b [.tup []])[k]? = some ds := hk
                        rw [List.getElem?_set] at hk'
                        split at hk'
                        · first
                            | (obtain rfl := Option.some.inj hk'; intro hdd; cases hdd)
                            | (split at hk' <;> first | (obtain rfl := Option.some.inj hk'; intro hdd; cases hdd) | cases hk')
                        · rename_i hik
                          rw [hlen2]
                          exact (h1.box k ds hk').mono hstp (Nat.le_refl _) (fun c p hcp => ⟨hoth c _ hcp (by simp; intro h; exact absurd h.symm hik), rfl, rfl⟩)
                    obtain ⟨vs', q1, q2, q3⟩ := setCells_row news (n * s) w row' ty0 fr0 r1 (by omega)
                    have hcl : ((cs.take (n * s)).map TV.shr0).length = n * s := by simp; omega
                    obtain ⟨hs3, hinv3⟩ := hinv1.adopt (m := st.h.length) (by simp) (b := b) (B := g.nu b) r5 (fun ds hds => by
                      have hds' : (st.h.set b [.tup []])[b]? = some ds := hds
                      rw [List.getElem?_set, if_pos rfl] at hds'
                      first
                        | (obtain rfl := Option.some.inj hds'; rfl)
                        | (split at hds' <;> first | (obtain rfl := Option.some.inj hds'; rfl) | cases hds')) (cs := (cs.take (n * s)).map TV.shr0 ++ flat l2) q1 (by rw [List.length_append, hcl, fl1, q2]; omega) (by rw [q2]; exact r3) r4 (fun j x u hx hu => by
                      rw [q3] at hu
                      rw [List.getElem?_append] at hx
                      split at hx
                      · rename_i hlt
                        rw [hcl] at hlt
                        rw [if_neg (by omega)] at hu
                        obtain ⟨hj, y, hy, rfl⟩ := hold j x hx
                        obtain ⟨z1, z2, z3⟩ := r6 j y u hy hu
                        exact ⟨by rw [shr0_isCell]; exact z1, (z2.mono hstp (Nat.le_refl _)).shr0, shr0_noOwn y⟩
                      · rename_i hge
                        rw [hcl] at hge hx
                        have hjl : j - n * s < l2.length * s := by rw [← fl1]; exact (List.getElem?_eq_some_iff.1 hx).1
                        rw [if_pos (by omega)] at hu
                        obtain ⟨u', z1, z2, z3, z4⟩ := flat_cells hz k1 f2 hx
                        rw [z1] at hu
                        obtain rfl := Option.some.inj hu
                        exact ⟨z2, z3.mono hstp (Nat.le_refl _), z4⟩)
                    have hlen2 : (st.h.set b [.tup []]).length = st.h.length := by simp
                    refine wp_val (hexec _ _ (room hroom)) ⟨_, _, (h2.trans hstp (Nat.le_refl _)).trans hs3 (Nat.le_refl _), ?_⟩
                    have hv : VR (w.setCells (g.nu b) (n * s) news) ⟨g.imm, fun i => if i = st.h.length then g.nu b else g.nu i⟩ (st.h.set b [.tup []] ++ [(cs.take (n * s)).map TV.shr0 ++ flat l2]).length (.asl ag s st.h.length 0 (n + l2.length)) (.slice (some (at_ ((fun i => if i = st.h.length then g.nu b else g.nu i) st.h.length) 0)) (n + l2.length) c) :=
                      .asl _ _ _ _ _ _ (by simp) hroom (by unfold roomB at k4; omega) ⟨vs', ty0, fr0, by simpa using q1, by omega⟩
                    simp only [if_true] at hv
                    cases hdst : o.dst with
                    | none =>
                      exact ⟨hinv3.defers, hinv3.len, hinv3.slot, hinv3.box, hinv3.bd, hinv3.base⟩
                    | some i =>
                      have := hinv3.put i (x := .asl ag s st.h.length 0 (n + l2.length)) (v := .slice (some (at_ (g.nu b) 0)) (n + l2.length) c) rfl hv (owns_cell rfl rfl)
                      exact ⟨this.defers, this.len, this.slot, this.box, this.bd, this.base⟩
                  · -- a new block
                    have hfc := run_firstCells_some (P := P) w.drew s n (at_ (g.nu b) 0) n c (row'.toList.take (n * s)) (by simp; omega) (fun j v hj => by
                      rw [at_add]
                      have hjl : j < n * s := by have := (List.getElem?_eq_some_iff.1 hj).1; simp at this; omega
                      rw [List.getElem?_take, if_pos hjl] at hj
                      have := cell_of_row (o := 0 + j) r1
                      have e5 : w.drew.cell? (at_ (g.nu b) (0 + j)) = w.cell? (at_ (g.nu b) (0 + j)) := rfl
                      rw [e5, this]
                      simpa using hj)
                    have := grow { st with t := downs is st.t, h := st.h.set b [.tup []] } ow1 (some (at_ (g.nu b) 0)) n c (row'.toList.take (n * s)) l2 news ((cs.take (n * s)).map TV.shr0) (h1.killBox b) h2 (by simp) hq hfc (by simp; omega) (by simp; omega) (fun j x u hx hu => by
                      obtain ⟨hj, y, hy, rfl⟩ := hold j x hx
                      rw [List.getElem?_take, if_pos hj] at hu
                      obtain ⟨z1, z2, z3⟩ := r6 j y u hy (by simpa using hu)
                      exact ⟨by rw [shr0_isCell]; exact z1, z2.shr0, shr0_noOwn y⟩) k1 f1 f2 (by omega) k3 k4 st.keep
                    simp only [List.length_set] at this
                    exact this
            · cases hd
          · cases hd
        · cases hd
      · cases hzv
    · cases hce
  · cases hc
end
end Go.T
/- Laws of the small machine by itself: equality that is computed; boxes that values lead to. -/
set_option linter.unusedVariables false
set_option linter.unusedSimpArgs false
set_option maxRecDepth 10000
namespace Go.T
mutual
theorem TV.beq_eq : ∀ (a b : TV), TV.beq a b = true → a = b
  | .bool a, b, h => by cases b <;> simp_all [TV.beq]
  | .int k n, b, h => by cases b <;> simp_all [TV.beq]
  | .str a, b, h => by cases b <;> simp_all [TV.beq]
  | .ptr i o, b, h => by cases b <;> simp_all [TV.beq]
  | .nilp, b, h => by cases b <;> simp_all [TV.beq]
  | .nils, b, h => by cases b <;> simp_all [TV.beq]
  | .nilf, b, h => by cases b <;> simp_all [TV.beq]
  | .junk, b, h => by cases b <;> simp_all [TV.beq]
  | .lp i o, b, h => by cases b <;> simp_all [TV.beq]
  | .asl a s i o n, b, h => by cases b <;> simp_all [TV.beq]
  | .cp l, b, h => by cases b <;> simp [TV.beq] at h; rw [TV.beqs_eq l _ h]
  | .lbox l, b, h => by cases b <;> simp [TV.beq] at h; rw [TV.beqs_eq l _ h]
  | .agg l, b, h => by cases b <;> simp [TV.beq] at h; rw [TV.beqs_eq l _ h]
  | .tup l, b, h => by cases b <;> simp [TV.beq] at h; rw [TV.beqs_eq l _ h]
  | .sl g l, b, h => by cases b <;> simp [TV.beq] at h; rw [TV.beqs_eq l _ h.2, h.1]
  | .fn f l, b, h => by cases b <;> simp [TV.beq] at h; rw [TV.beqs_eq l _ h.2, h.1]
theorem TV.beqs_eq : ∀ (a b : List TV), TV.beqs a b = true → a = b
  | [], b, h => by cases b <;> simp [TV.beqs] at h; rfl
  | x :: a, b, h => by
    cases b with
    | nil => simp [TV.beqs] at h
    | cons y b => simp [TV.beqs] at h; rw [TV.beq_eq x y h.1, TV.beqs_eq a b h.2]
end
theorem Heap.beq_eq : ∀ (a b : Heap), Heap.beq a b = true → a = b
  | [], b, h => by cases b <;> simp [Heap.beq] at h; rfl
  | x :: a, b, h => by
    cases b with
    | nil => simp [Heap.beq] at h
    | cons y b => simp [Heap.beq] at h; rw [TV.beqs_eq x y h.1, Heap.beq_eq a b h.2]
theorem lts_iff {n : Nat} {l : List TV} : TV.lts n l = true ↔ ∀ x ∈ l, TV.lt n x = true := by
  induction l with
  | nil => simp [TV.lts]
  | cons x l ih => simp [TV.lts, ih]
theorem lts_get {n : Nat} {l : List TV} (h : TV.lts n l = true) {j : Nat} {x : TV} (hx : l[j]? = some x) : TV.lt n x = true := lts_iff.1 h x (List.mem_of_getElem? hx)
mutual
theorem TV.lt_mono {n m : Nat} (h : n ≤ m) : ∀ (a : TV), TV.lt n a = true → TV.lt m a = true
  | .bool a, _ => rfl
  | .int k _, _ => rfl
  | .str a, _ => rfl
  | .ptr i o, hh => by simp [TV.lt] at hh ⊢; omega
  | .nilp, _ => rfl
  | .nils, _ => rfl
  | .nilf, _ => rfl
  | .junk, hh => by simp [TV.lt] at hh
  | .lp i o, hh => by simp [TV.lt] at hh
  | .lbox l, hh => by simp [TV.lt] at hh
  | .asl a s i o n, hh => by simp [TV.lt] at hh ⊢; omega
  | .cp l, hh => by simp only [TV.lt] at hh ⊢; exact TV.lts_mono h l hh
  | .agg l, hh => by simp only [TV.lt] at hh ⊢; exact TV.lts_mono h l hh
  | .tup l, hh => by simp only [TV.lt] at hh ⊢; exact TV.lts_mono h l hh
  | .sl g l, hh => by simp only [TV.lt] at hh ⊢; exact TV.lts_mono h l hh
  | .fn f l, hh => by simp only [TV.lt] at hh ⊢; exact TV.lts_mono h l hh
theorem TV.lts_mono {n m : Nat} (h : n ≤ m) : ∀ (a : List TV), TV.lts n a = true → TV.lts m a = true
  | [], _ => rfl
  | x :: a, hh => by simp [TV.lts] at hh ⊢; exact ⟨TV.lt_mono h x hh.1, TV.lts_mono h a hh.2⟩
end
theorem cells_lt {n : Nat} {e x : TV} (h : TV.lt n e = true) (hx : x ∈ e.cells) : TV.lt n x = true := by
  cases e <;> first | (simp [TV.cells] at hx; subst hx; exact h) | skip
  case agg cs => exact lts_iff.1 (by simpa [TV.lt] using h) x (by simpa [TV.cells] using hx)
theorem cells_lt' {n : Nat} {e : TV} (hn : ∀ x ∈ e.cells, TV.lt n x = true) : TV.lt n e = true := by
  cases e
  case agg cs => simp only [TV.lt]; exact lts_iff.2 (fun x hx => hn x (by simpa [TV.cells] using hx))
  all_goals exact hn _ (List.mem_singleton.2 rfl)

/-- What leads to no box from number n on is told with fewer boxes, and another list of their places. -/
theorem VR.down {w : World} {g : Gh} {m n : Nat} {x : TV} {v : Value} (h : VR w g m x v) {nu' : Nat → Nat} (hnu : ∀ i, i < n → nu' i = g.nu i) (hl : TV.lt n x = true) {m' : Nat} (hm : n ≤ m') : VR w ⟨g.imm, nu'⟩ m' x v := by
  induction h with
  | bool b => exact .bool b
  | int k n => exact .int k n
  | str s => exact .str s
  | ptr i o h => simp [TV.lt] at hl; rw [← hnu i hl]; exact .ptr i o (by omega)
  | nilp => exact .nilp
  | nils A hA => exact .nils A hA
  | cp cs b o vals h hr ih => exact .cp cs b o vals h (fun j x hx => ih j x hx (lts_get hl hx))
  | sl t l A c sz vals hz hc hmx hA hn he h hr ih =>
    exact .sl t l A c sz vals hz hc hmx hA hn he h (fun i e j x hi hx => ih i e j x hi hx (cells_lt (lts_get hl hi) (List.mem_of_getElem? hx)))
  | asl ag sz i o k c h hc hmx hrow =>
    simp [TV.lt] at hl
    rw [← hnu i hl]
    exact .asl ag sz i o k c (by omega) hc hmx (by show ∃ vs ty fr, RowOf w (nu' i) vs ty fr ∧ _; rw [hnu i hl]; exact hrow)
  | fn f cs vs hl' h hr ih => exact .fn f cs vs hl' h (fun j x v hx hv => ih j x v hx hv (lts_get hl hx))
  | nilf => exact .nilf
  | agg cs vs hl' h hr ih => exact .agg cs vs hl' h (fun j x v hx hv => ih j x v hx hv (lts_get hl hx))
  | tup cs vs hl' h hr ih => exact .tup cs vs hl' h (fun j x v hx hv => ih j x v hx hv (lts_get hl hx))
  | junk v => simp [TV.lt] at hl
theorem isCell_njunk {x : TV} (h : x.isCell = true) : x ≠ .junk := by rintro rfl; simp [TV.isCell] at h
theorem argOk_njunk {x : TV} (h : argOk x = true) : x ≠ .junk := by rintro rfl; simp [argOk, TV.isCell] at h
theorem VR.lt {w : World} {g : Gh} {m : Nat} {x : TV} {v : Value} (h : VR w g m x v) (hx : x ≠ .junk) : TV.lt m x = true := by
  induction h with
  | bool b => rfl
  | int k n => rfl
  | str s => rfl
  | ptr i o h => simp [TV.lt, h]
  | nilp => rfl
  | nils A hA => rfl
  | cp cs b o vals h hr ih =>
    simp only [TV.lt]
    refine lts_iff.2 (fun x hx => ?_)
    obtain ⟨j, hj⟩ := List.getElem?_of_mem hx
    exact ih j x hj (isCell_njunk (isElt_isCell (h j x hj).1))
  | sl t l A c sz vals hz hc hmx hA hn he h hr ih =>
    simp only [TV.lt]
    refine lts_iff.2 (fun e he => cells_lt' (fun x hx => ?_))
    obtain ⟨i, hi⟩ := List.getElem?_of_mem he
    obtain ⟨j, hj⟩ := List.getElem?_of_mem hx
    cases hA' : A with
    | none => rw [hn hA'] at he; simp at he
    | some a => exact ih i e j x hi hj (isCell_njunk (isElt_isCell (h a i e j x hA' hi hj).1))
  | asl ag sz i o k c h hc hmx hrow => simp [TV.lt, h]
  | fn f cs vs hl' h hr ih =>
    simp only [TV.lt]
    refine lts_iff.2 (fun x hx => ?_)
    obtain ⟨j, hj⟩ := List.getElem?_of_mem hx
    have hlt : j < vs.size := by rw [← hl']; exact (List.getElem?_eq_some_iff.1 hj).1
    exact ih j x vs[j] hj (by simp [hlt]) (isCell_njunk (h j x vs[j] hj (by simp [hlt])).1)
  | nilf => rfl
  | agg cs vs hl' h hr ih =>
    simp only [TV.lt]
    refine lts_iff.2 (fun x hx => ?_)
    obtain ⟨j, hj⟩ := List.getElem?_of_mem hx
    have hlt : j < vs.size := by rw [← hl']; exact (List.getElem?_eq_some_iff.1 hj).1
    exact ih j x vs[j] hj (by simp [hlt]) (isCell_njunk (h j x vs[j] hj (by simp [hlt])))
  | tup cs vs hl' h hr ih =>
    simp only [TV.lt]
    refine lts_iff.2 (fun x hx => ?_)
    obtain ⟨j, hj⟩ := List.getElem?_of_mem hx
    have hlt : j < vs.size := by rw [← hl']; exact (List.getElem?_eq_some_iff.1 hj).1
    exact ih j x vs[j] hj (by simp [hlt]) (argOk_njunk (h j x vs[j] hj (by simp [hlt])))
  | junk v => exact absurd rfl hx
theorem VR.down' {w : World} {g : Gh} {m n : Nat} {x : TV} {v : Value} (h : VR w g m x v) (hl : TV.lt n x = true) : VR w g n x v := h.down (nu' := g.nu) (fun _ _ => rfl) hl (Nat.le_refl _)
end Go.T
