/- Each operation of the small machine is what the model's does. -/
import Derived.Test.YtlcnhdbedgpbiaaOTInv
import Derived.Laws.Sem
import Derived.Laws.Cells
import Derived.Laws.IdiomCopy
import Derived.Laws.Slices
import Derived.Laws.MakeOwn
import Derived.Deep.MidRow
import Derived.Deep.AppendSrc
import Derived.Laws.StructEq
set_option linter.unusedVariables false
set_option linter.unusedSimpArgs false
set_option maxRecDepth 10000
namespace Go.T

/-- What is told behind an operation. -/
def Nxt (w : World) (g : Gh) (ow : Ow) (m : Nat) (st' : St) : Act → World → Prop := fun a' w' => ∃ g' ow', Stp w g ow m w' g' ow' ∧ Inv w' g' ow' st' a'

section
variable {P : Program} {w : World} {g : Gh} {ow : Ow} {st : St} {a : Act} {o : Oper} {dst : Option Nat}
theorem wp_val {K : Act → World → Prop} {Q : Exit → Act → World → Prop} {v : Value} {w' : World} (h : (execOp a.eval o).run P w = .ok (.value v) w') (hk : K (a.put o.dst v) w') : o.wp P a w K Q := by
  unfold Oper.wp
  rw [h]
  exact hk
theorem wp_skp {K : Act → World → Prop} {Q : Exit → Act → World → Prop} {w' : World} (h : (execOp a.eval o).run P w = .ok .skip w') (hk : K (a.put o.dst undef) w') : o.wp P a w K Q := by
  unfold Oper.wp
  rw [h]
  exact hk
theorem Inv.refl (hI : Inv w g ow st a) : Stp w g ow st.h.length w g ow := Stp.refl w g ow _ hI.bd
theorem Inv.ap0 (hI : Inv w g ow st a) (dst : Option Nat) {x : TV} {v : Value} (hv : VR w g st.h.length x v) (hx : plainV x = true) (ho : ∀ w' g' ow' q, Owns w' g' ow' q x v) : Inv w g ow (({ v := x } : Dl).ap dst st) (a.put dst v) := by
  cases dst with
  | none => exact ⟨hI.defers, hI.len, hI.slot, hI.box, hI.bd, hI.base⟩
  | some i => exact hI.put i hx hv (ho _ _ _ _)
theorem Inv.nx0 (hI : Inv w g ow st a) (dst : Option Nat) {x : TV} {v : Value} (h : VR w g st.h.length x v ∧ plainV x = true ∧ ∀ w' g' ow' q, Owns w' g' ow' q x v) : Nxt w g ow st.h.length (({ v := x } : Dl).ap dst st) (a.put dst v) w :=
  ⟨g, ow, hI.refl, hI.ap0 dst h.1 h.2.1 h.2.2⟩
/-- A cell that owns nothing. -/
theorem cellR {x : TV} {v : Value} {m : Nat} (h : VR w g m x v) (hc : x.isCell = true) (hn : x.noOwn = true) : VR w g m x v ∧ plainV x = true ∧ ∀ w' g' ow' q, Owns w' g' ow' q x v :=
  ⟨h, by cases x <;> first | rfl | simp [TV.isCell] at hc, fun _ _ _ _ => owns_cell hc hn⟩
theorem Inv.apT (hI : Inv w g ow st a) (dst : Option Nat) {x : TV} {v : Value} {is : List Nat} (hv : VR w g st.h.length x v) (hx : plainV x = true)
    (ho : (is = [] ∧ ∀ w' g' ow' q, Owns w' g' ow' q x v) ∨ ∃ i, is = [i] ∧ x = sl st.t i ∧ Owns w g ow [0, i] x v) : Nxt w g ow st.h.length (({ v := x, tk := is } : Dl).ap dst st) (a.put dst v) w := by
  rcases ho with ⟨rfl, ho⟩ | ⟨i, rfl, hxi, ho⟩
  · exact hI.nx0 dst ⟨hv, hx, ho⟩
  · have hp : plainV (sl st.t i) = true := hxi ▸ hx
    have h1 := hI.down i hp
    have hsl : ∀ j, sl (st.t.set i (sl st.t i).shrT) j = if i = j ∧ j < st.t.length then (sl st.t i).shrT else sl st.t j := fun j => sl_set _ _ _ _
    have hpi : plainV (sl (st.t.set i (sl st.t i).shrT) i) = true := by
      rw [hsl]; split
      · exact plain_shrT _ hp
      · exact hp
    cases dst with
    | none => exact ⟨g, ow, hI.refl, h1.defers, h1.len, h1.slot, h1.box, h1.bd, h1.base⟩
    | some j =>
      have hpoor : ∀ ow', Owns w g ow' [0, i] (sl (st.t.set i (sl st.t i).shrT) i) (a.tmps.getD i undef) := by
        intro ow'
        rw [hsl]
        split
        · exact (hI.plain hp).1.owns_shrT
        · rename_i hn
          have hlt : ¬ i < st.t.length := fun h => hn ⟨rfl, h⟩
          have : sl st.t i = .junk := by simp [sl, List.getElem?_eq_none (Nat.le_of_not_lt hlt)]
          rw [this]
          intro p sz s l A n c hs
          cases hs
      have h2 := h1.free i 0 [j] hpi hpoor
      refine ⟨g, mvO ow [0, i] [0, j], Stp.free hI.bd [0, i] 0 [j] (by simp) (by simp) (by simp), ?_⟩
      exact h2.put j hx hv (ho.move (fun b p hb => ⟨rfl, rfl, mvO_at hb⟩))

theorem snd_mv {tk : Bool} {x : Src} {d : Dl} (hc : chkOp P o.op (.mv tk x) = true) (hI : Inv w g ow st a) {call : CallF} (hd : delta call st (.mv tk x) = some d) {Q : Exit → Act → World → Prop} :
    o.wp P a w (Nxt w g ow st.h.length (d.ap o.dst st)) Q := by
  simp only [delta] at hd
  split at hd
  · rename_i v i ht
    obtain rfl : ({ v := v, tk := i } : Dl) = d := by simpa using hd
    cases hop : o.op <;> rw [hop] at hc <;> simp [chkOp] at hc
    all_goals
      rename_i y
      obtain ⟨h1, h2, h3⟩ := tak_spec hI hc ht
      exact wp_val (by unfold execOp; rw [hop]; rfl) (hI.apT o.dst h1 h2 h3)
  · cases hd
theorem snd_pick {c x y : Src} {d : Dl} (hc : chkOp P o.op (.pick c x y) = true) (hI : Inv w g ow st a) {call : CallF} (hd : delta call st (.pick c x y) = some d) {Q : Exit → Act → World → Prop} :
    o.wp P a w (Nxt w g ow st.h.length (d.ap o.dst st)) Q := by
  simp only [delta] at hd
  split at hd
  · rename_i b v u e1 e2 e3
    obtain rfl : ({ v := if b then v else u } : Dl) = d := by simpa using hd
    cases hop : o.op <;> rw [hop] at hc <;> simp [chkOp] at hc
    obtain ⟨⟨c1, c2⟩, c3⟩ := hc
    have h1 := ev_spec hI c1 e1
    have h2 := ev_spec hI c2 e2
    have h3 := ev_spec hI c3 e3
    rename_i x1 x2 x3
    obtain ⟨hb, _, _⟩ := h1
    generalize hq : a.eval x1 = q at hb
    cases hb
    cases b
    · refine wp_val (v := a.eval x3) (w' := w) ?_ (hI.nx0 o.dst h3)
      unfold execOp; rw [hop]; simp [hq, asBool]
    · refine wp_val (v := a.eval x2) (w' := w) ?_ (hI.nx0 o.dst h2)
      unfold execOp; rw [hop]; simp [hq, asBool]
  · cases hd
theorem strEq (a b : ByteArray) : (a.toList == b.toList) = decide (a = b) := by
  rw [ByteArray.toList_eq, ByteArray.toList_eq]
  by_cases h : a = b
  · subst h; simp
  · have : a.data.toList ≠ b.data.toList := fun e => h (by
      obtain ⟨⟨x⟩⟩ := a
      obtain ⟨⟨y⟩⟩ := b
      simp at e
      rw [e])
    simp [h]
    exact fun e => this (by rw [e])
theorem VR.int_inv {m : Nat} {k : IntKind} {n : Int} {v : Value} (h : VR w g m (.int k n) v) : v = .int k n := by cases h; rfl
theorem VR.bool_inv {m : Nat} {b : Bool} {v : Value} (h : VR w g m (.bool b) v) : v = .bool b := by cases h; rfl
theorem VR.str_inv {m : Nat} {s : ByteArray} {v : Value} (h : VR w g m (.str s) v) : v = .string s := by cases h; rfl
theorem arith_run {op : BinOp} {tx ty tv : TV} {u v : Value} {m : Nat} (h : arith op tx ty = some tv) (hu : VR w g m tx u) (hv : VR w g m ty v) (t : TypeId) (x y : Operand) :
    ∃ r, ((do eqGuard op t x y u v; binOp op t u v) : Sem Value).run P w = .ok r w ∧ VR w g m tv r ∧ tv.isCell = true ∧ tv.noOwn = true := by
  unfold arith at h
  split at h <;> first | (cases h; done) | skip
  all_goals
    first
    | (obtain rfl := hu.int_inv; obtain rfl := hv.int_inv)
    | (obtain rfl := hu.str_inv; obtain rfl := hv.str_inv)
  all_goals
    try (split at h)
  all_goals
    first
    | (cases h; done)
    | (obtain rfl := Option.some.inj h)
  all_goals
    first
    | (refine ⟨.int _ _, ?_, .int _ _, rfl, rfl⟩)
    | (refine ⟨.bool _, ?_, .bool _, rfl, rfl⟩)
    | (refine ⟨.string _, ?_, .str _, rfl, rfl⟩)
  all_goals
    first
    | (rename_i hk; obtain ⟨rfl, hk⟩ := hk; simp [eqGuard, binOp, Op.intDiv, hk]; done)
    | (rename_i hk; subst hk; simp [eqGuard, binOp, Op.intArith, Op.intBits, Op.intCmp]; done)
    | (rename_i hk; simp [eqGuard, binOp, Op.shift, hk]; done)
    | (rename_i hk; simp only [eqGuard, binOp, Op.stringOp, if_neg hk]; rfl)
    | (simp [eqGuard, binOp, Op.stringOp, strEq]; done)
    | skip
theorem snd_ar {op : BinOp} {x y : Src} {d : Dl} (hc : chkOp P o.op (.ar op x y) = true) (hI : Inv w g ow st a) {call : CallF} (hd : delta call st (.ar op x y) = some d) {Q : Exit → Act → World → Prop} :
    o.wp P a w (Nxt w g ow st.h.length (d.ap o.dst st)) Q := by
  simp only [delta] at hd
  split at hd
  · rename_i u v e1 e2
    split at hd
    · rename_i r hr
      obtain rfl : ({ v := r } : Dl) = d := by simpa using hd
      cases hop : o.op <;> rw [hop] at hc <;> simp [chkOp] at hc
      obtain ⟨⟨rfl, c1⟩, c2⟩ := hc
      rename_i t x1 x2 t2
      obtain ⟨z, h1, h2, h3, h4⟩ := arith_run (P := P) hr (ev_spec hI c1 e1).1 (ev_spec hI c2 e2).1 t x1 x2
      refine wp_val (v := z) (w' := w) ?_ (hI.nx0 o.dst (cellR h2 h3 h4))
      unfold execOp; rw [hop]
      simp only [Sem.run_bind] at h1 ⊢
      rw [h1]; rfl
    · cases hd
  · cases hd
theorem snd_eqb {neg : Bool} {x y : Src} {d : Dl} (hc : chkOp P o.op (.eqb neg x y) = true) (hI : Inv w g ow st a) {call : CallF} (hd : delta call st (.eqb neg x y) = some d) {Q : Exit → Act → World → Prop} :
    o.wp P a w (Nxt w g ow st.h.length (d.ap o.dst st)) Q := by
  simp only [delta] at hd
  split at hd
  · rename_i b c e1 e2
    obtain rfl : ({ v := .bool (if neg then !(b == c) else b == c) } : Dl) = d := by simpa using hd
    cases hop : o.op <;> rw [hop] at hc <;> simp [chkOp] at hc
    obtain ⟨⟨⟨rfl, ht⟩, c1⟩, c2⟩ := hc
    rename_i t x1 x2 t2
    have h1 := (ev_spec hI c1 e1).1.bool_inv
    have h2 := (ev_spec hI c2 e2).1.bool_inv
    have hu : P.underlying t = some .bool := by split at ht <;> first | assumption | cases ht
    refine wp_val (v := .bool (if neg then !(b == c) else b == c)) (w' := w) ?_ (hI.nx0 o.dst (cellR (.bool _) rfl rfl))
    unfold execOp; rw [hop]
    cases neg <;> simp [h1, h2, eqGuard, binOp, Op.equal, Op.maxDepth, run_equalIn_bool' w 9999 t b c hu]
  · cases hd
theorem run_eqp_nil {t : TypeId} {e : TypeId} (ht : P.underlying t = some (.pointer e)) (p q : Option Addr) (h : p = none ∨ q = none) : (Op.equal t (.pointer p) (.pointer q)).run P w = .ok (decide (p = none ∧ q = none)) w := by
  have key : ∀ d, (Op.equalIn (d + 1) t (.pointer p) (.pointer q)).run P w = .ok (decide (p = none ∧ q = none)) w := by
    intro d
    rcases h with rfl | rfl
    · cases q <;> simp [Op.equalIn, run_underlying ht]
    · cases p <;> simp [Op.equalIn, run_underlying ht]
  exact key 9999
theorem snd_eqp {neg : Bool} {x y : Src} {d : Dl} (hc : chkOp P o.op (.eqp neg x y) = true) (hI : Inv w g ow st a) {call : CallF} (hd : delta call st (.eqp neg x y) = some d) {Q : Exit → Act → World → Prop} :
    o.wp P a w (Nxt w g ow st.h.length (d.ap o.dst st)) Q := by
  cases hop : o.op <;> rw [hop] at hc <;> simp [chkOp] at hc
  obtain ⟨⟨⟨rfl, ht⟩, c1⟩, c2⟩ := hc
  rename_i t x1 x2 t2
  obtain ⟨e, hu⟩ : ∃ e, P.underlying t = some (.pointer e) := by split at ht <;> first | exact ⟨_, by assumption⟩ | cases ht
  have key : ∀ (p q : Option Addr) (b : Bool), a.eval x1 = .pointer p → a.eval x2 = .pointer q → (p = none ∨ q = none) → b = decide (p = none ∧ q = none) → o.wp P a w (Nxt w g ow st.h.length (({ v := .bool (if neg then !b else b) } : Dl).ap o.dst st)) Q := by
    intro p q b h1 h2 h3 hb
    refine wp_val (v := .bool (if neg then !b else b)) (w' := w) ?_ (hI.nx0 o.dst (cellR (.bool _) rfl rfl))
    unfold execOp; rw [hop]
    have hr := run_eqp_nil (w := w) hu p q h3
    subst hb
    cases neg <;> simp [h1, h2, eqGuard, binOp, hr]
  simp only [delta] at hd
  split at hd
  · rename_i e1 e2
    have h1 := (ev_spec hI c1 e1).1; have h2 := (ev_spec hI c2 e2).1
    generalize hq1 : a.eval x1 = q1 at h1; generalize hq2 : a.eval x2 = q2 at h2
    cases h1; cases h2
    have := key none none true hq1 hq2 (.inl rfl) rfl
    obtain rfl : ({ v := .bool (if neg then false else true) } : Dl) = d := by simpa using hd
    cases neg <;> exact this
  all_goals first | (cases hd; done) | skip
  all_goals
    rename_i e1 e2
    have h1 := (ev_spec hI c1 e1).1; have h2 := (ev_spec hI c2 e2).1
    generalize hq1 : a.eval x1 = q1 at h1; generalize hq2 : a.eval x2 = q2 at h2
    cases h1; cases h2
    have := key _ _ false hq1 hq2 (by simp) (by simp)
    obtain rfl : ({ v := .bool (if neg then true else false) } : Dl) = d := by simpa using hd
    cases neg <;> exact this
/-- The cell of a struct's field. -/
theorem part_scalar {t : TypeId} (hg : aggB P t = some false) (cs : Array Value) (off : Nat) (v : Value) (h : cs[off]? = some v) : (part t cs off).run P w = .ok v w := by
  unfold aggB at hg
  split at hg <;> first | (cases hg; done) | skip
  rename_i d h1 h2 hd
  have : (isAgg t).run P w = .ok false w := by
    unfold isAgg
    rw [Sem.run_bind, run_underlying hd]
    cases d <;> first | rfl | exact (h1 _ rfl).elim | exact (h2 _ _ rfl).elim
  simp [part, this, h]
theorem eqCell_run {k : Nat} {x y : TV} {u v : Value} {m : Nat} {b : Bool} {t : TypeId} (d : Nat) (h : eqCell k x y = some b) (hx : VR w g m x u) (hy : VR w g m y v)
    (ht : (k = 0 ∧ ∃ ik, P.underlying t = some (.int ik)) ∨ (k = 1 ∧ P.underlying t = some .bool) ∨ (k = 2 ∧ P.underlying t = some .string)) : (Op.equalIn (d + 1) t u v).run P w = .ok b w := by
  unfold eqCell at h
  split at h
  · obtain rfl := hx.int_inv; obtain rfl := hy.int_inv
    rcases ht with ⟨_, ik, ht⟩ | ⟨h0, _⟩ | ⟨h0, _⟩ <;> first | cases h0 | skip
    split at h
    · rename_i hk; subst hk
      obtain rfl := Option.some.inj h
      exact run_equalIn_int w d _ _ ik _ _ ht
    · cases h
  · obtain rfl := hx.bool_inv; obtain rfl := hy.bool_inv
    rcases ht with ⟨h0, _⟩ | ⟨_, ht⟩ | ⟨h0, _⟩ <;> first | cases h0 | skip
    obtain rfl := Option.some.inj h
    exact run_equalIn_bool' w d _ _ _ ht
  · obtain rfl := hx.str_inv; obtain rfl := hy.str_inv
    rcases ht with ⟨h0, _⟩ | ⟨h0, _⟩ | ⟨_, ht⟩ <;> first | cases h0 | skip
    obtain rfl := Option.some.inj h
    rw [← strEq]
    exact run_equalIn_string w d _ _ _ ht
  · cases h
theorem run_eqFields (d : Nat) : ∀ (fs : List Field) (l : List (Nat × Nat)) (cs ds : List TV) (xs ys : Array Value) (m : Nat) (r : Bool), eqPlaces P fs = some l → VR w g m (.agg cs) (.agg xs) → VR w g m (.agg ds) (.agg ys) → eqCells cs ds l = some r →
    (Op.eqFields (d + 1) xs ys fs).run P w = .ok r w := by
  intro fs
  induction fs with
  | nil =>
    intro l cs ds xs ys m r hl hx hy hr
    simp only [eqPlaces, Option.some.injEq] at hl
    subst hl
    simp only [eqCells, Option.some.injEq] at hr
    subst hr
    rfl
  | cons f fs ih =>
    intro l cs ds xs ys m r hl hx hy hr
    simp only [eqPlaces] at hl
    split at hl
    · rename_i l' hl'
      split at hl
      · rename_i hname
        obtain rfl : l' = l := by simpa using hl
        have hname' : f.name = "_" := by simpa using hname
        simp only [Op.eqFields, hname', ne_eq, not_true_eq_false, if_false]
        exact ih _ cs ds xs ys m r hl' hx hy hr
      · rename_i hname
        have hname' : f.name ≠ "_" := by simpa using hname
        obtain ⟨k, hk, rfl⟩ : ∃ k, ((k = 0 ∧ ∃ ik, P.underlying f.type = some (.int ik)) ∨ (k = 1 ∧ P.underlying f.type = some .bool) ∨ (k = 2 ∧ P.underlying f.type = some .string)) ∧ (f.offset, k) :: l' = l := by
          split at hl <;> first | (cases hl; done) | skip
          · exact ⟨0, .inl ⟨rfl, _, by assumption⟩, by simpa using hl⟩
          · exact ⟨1, .inr (.inl ⟨rfl, by assumption⟩), by simpa using hl⟩
          · exact ⟨2, .inr (.inr ⟨rfl, by assumption⟩), by simpa using hl⟩
        simp only [eqCells] at hr
        split at hr
        · rename_i x y ex ey
          have hx' := hx
          have hy' := hy
          cases hx with
          | agg _ _ hlx hcx hrx =>
          cases hy with
          | agg _ _ hly hcy hry =>
          obtain ⟨u, hu⟩ : ∃ u, xs[f.offset]? = some u := by
            have := (List.getElem?_eq_some_iff.1 ex).1
            exact ⟨xs[f.offset]'(by omega), by simp⟩
          obtain ⟨v, hv⟩ : ∃ v, ys[f.offset]? = some v := by
            have := (List.getElem?_eq_some_iff.1 ey).1
            exact ⟨ys[f.offset]'(by omega), by simp⟩
          have hagg : aggB P f.type = some false := by
            unfold aggB
            rcases hk with ⟨_, ik, h⟩ | ⟨_, h⟩ | ⟨_, h⟩ <;> rw [h]
          have p1 := part_scalar (w := w) hagg xs f.offset u hu
          have p2 := part_scalar (w := w) hagg ys f.offset v hv
          cases hb : eqCell k x y with
          | none => rw [hb] at hr; cases hr
          | some b =>
            have p3 := eqCell_run (P := P) d hb (hrx _ _ _ ex hu) (hry _ _ _ ey hv) hk
            rw [hb] at hr
            simp only [Op.eqFields, hname', ne_eq, not_false_eq_true, if_true, Sem.run_bind, p1, p2, p3, Result.andThen_ok]
            cases b
            · simp only [Option.some.injEq] at hr
              subst hr
              rfl
            · simp only [Bool.not_true, Bool.false_eq_true, if_false]
              exact ih _ cs ds xs ys m r hl' hx' hy' hr
        · cases hr
    · cases hl
theorem snd_eqs {neg : Bool} {fs : List (Nat × Nat)} {x y : Src} {d : Dl} (hc : chkOp P o.op (.eqs neg fs x y) = true) (hI : Inv w g ow st a) {call : CallF} (hd : delta call st (.eqs neg fs x y) = some d) {Q : Exit → Act → World → Prop} :
    o.wp P a w (Nxt w g ow st.h.length (d.ap o.dst st)) Q := by
  simp only [delta] at hd
  split at hd
  · rename_i cs ds e1 e2
    split at hd
    · rename_i r hr
      obtain rfl : ({ v := .bool (if neg then !r else r) } : Dl) = d := by simpa using hd
      cases hop : o.op <;> rw [hop] at hc <;> simp [chkOp] at hc
      obtain ⟨⟨⟨⟨⟨rfl, ht⟩, hg1⟩, hg2⟩, c1⟩, c2⟩ := hc
      rename_i t x1 x2 t2
      have h1 := (ev_spec hI c1 e1).1
      have h2 := (ev_spec hI c2 e2).1
      split at ht <;> first | (cases ht; done) | skip
      rename_i fields hu
      have hl : eqPlaces P fields.toList = some fs := by simpa using ht
      generalize hq1 : a.eval x1 = q1 at h1; generalize hq2 : a.eval x2 = q2 at h2
      cases h1 with
      | agg _ xs hlx hcx hrx =>
      cases h2 with
      | agg _ ys hly hcy hry =>
      have hf : Program.fieldsOf P t = fields := by simp [Program.fieldsOf, hu]
      have hrun := run_eqFields (P := P) (w := w) (g := g) 9998 fields.toList fs cs ds xs ys _ r hl (.agg _ _ hlx hcx hrx) (.agg _ _ hly hcy hry) hr
      have hstr := run_equalIn_struct (P := P) w 9999 t xs ys (by rw [hf]; exact hu) hg2
      rw [hf, hrun] at hstr
      refine wp_val (v := .bool (if neg then !r else r)) (w' := w) ?_ (hI.nx0 o.dst (cellR (.bool _) rfl rfl))
      unfold execOp; rw [hop]
      have hg := run_eqGuard_agg (P := P) w (if neg then BinOp.neq else .eql) t x1 x2 xs ys hg1
      cases neg
      · simp only [Bool.false_eq_true, if_false] at hg ⊢
        simp only [hq1, hq2, Sem.run_bind, hg, Result.andThen_ok, run_eql_struct, hstr]
        rfl
      · simp only [if_true] at hg ⊢
        simp only [hq1, hq2, Sem.run_bind, hg, Result.andThen_ok, run_neq_struct, hstr]
        rfl
    · cases hd
  · cases hd
end
end Go.T
