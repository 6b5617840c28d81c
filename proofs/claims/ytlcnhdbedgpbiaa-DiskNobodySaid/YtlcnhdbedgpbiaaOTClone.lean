/- slices.Clone, of whatever elements: it says of a slice whether it is nil, which the small machine does not know. -/
import Derived.Test.YtlcnhdbedgpbiaaOTRun
import Derived.Lib.LazyBuf
set_option linter.unusedVariables false
set_option linter.unusedSimpArgs false
set_option maxRecDepth 10000
namespace Go.T
def chkNilq (P : Program) (o : Oper) (x d : Nat) : Bool := decide (o.dst = some d) && decide (o.guard = none) && (match o.op with
  | .binOp .eql t (.tmp y) (.const (.slice none 0 0)) _ => y == x && (elemOf? P t).isSome
  | _ => false)
def chkEmpty (P : Program) (o : Oper) (d sz : Nat) : Bool := decide (o.dst = some d) && decide (o.guard = none) && (match o.op with
  | .buildSlice t 0 ps => ps.size == 0 && (match elemOf? P t with
    | some e => decide (szOf P e = some sz) && (zeOf P e).isSome
    | none => false)
  | _ => false)
def chkClone (P : Program) (f : Nat) (ag : Bool) (sz bytes : Nat) : Bool :=
  match P.funcs[f]? with
  | some fn => fn.name != "runtime.NumGoroutine" && fn.ntmps == 8 && chkR P fn.results.toList [.tmp 2] && decide (0 < sz) && (match fn.body with
    | some (.seq (.region _ ops0 false) (.seq (.seq (.region _ ops1 false) (.cond (.tmp 4) (.seq (.region _ ops2 false) .ret) .skip)) (.seq (.region _ ops3 false) .ret))) =>
      chkOpers P ops0 ops0.toList [⟨some 2, .mv true (.c .nils), none⟩] &&
      chkOpers P ops2 ops2.toList [⟨some 2, .mv true (.c .nils), none⟩] &&
      (match ops1.toList with
        | [o1, o2] => chkOper P ops1 o1 ⟨some 3, .mv false (.s 0), none⟩ && chkNilq P o2 3 4
        | _ => false) &&
      (match ops3.toList with
        | [o1, o2, o3, o4] => chkEmpty P o1 5 sz && chkOper P ops3 o2 ⟨some 6, .mv false (.s 0), none⟩ && chkOper P ops3 o3 ⟨some 7, .apr ag sz bytes (.s 5) (.s 6), none⟩ && chkOper P ops3 o4 ⟨some 2, .mv true (.s 7), none⟩
        | _ => false)
    | _ => false)
  | none => false
/-- A copy in memory of its own. -/
def cloneC (ag : Bool) (sz bytes : Nat) : CallF := fun _ as h => match as with
  | [x] => match elS h x with
    | some l => if okW sz l = true ∧ l.length * bytes ≤ roomB ∧ l.length ≤ roomB ∧ argOk x = true then
        (if l.length = 0 then some ⟨.nils, h, false⟩ else some ⟨.asl ag sz h.length 0 l.length, h ++ [flat l], false⟩) else none
    | none => none
  | _ => none
section
variable {P : Program} {w : World} {g : Gh} {ow : Ow} {st : St} {a : Act} {o : Oper} {call : CallF}
theorem inv_init {as : List TV} {h : Heap} {vs : Array Value} {n : Nat} (hsz : as.length = vs.size)
    (hargs : ∀ (k : Nat) (x : TV) (v : Value), as[k]? = some x → vs[k]? = some v → argOk x = true ∧ VR w g h.length x v ∧ Owns w g ow [0, k] x v)
    (hbox : ∀ (i : Nat) cs, h[i]? = some cs → BoxD w g h.length ow [1, i] cs (g.nu i)) (hbd : ∀ b q, ow b = some q → b < w.heap.size) :
    Inv w g ow ⟨as ++ List.replicate (n - as.length) (.tup []), h, h.length, false⟩ { tmps := vs ++ Array.replicate (n - vs.size) undef, defers := [] } := by
  refine ⟨rfl, by simp [hsz], fun j => ?_, hbox, hbd, Nat.le_refl _⟩
  show SlotR _ _ _ _ _ _ j (sl (as ++ List.replicate (n - as.length) (.tup [])) j) _
  rw [sl_app]
  by_cases hj : j < as.length
  · rw [if_pos hj]
    have hx : as[j]? = some as[j] := by simp
    have hv : vs[j]? = some (vs[j]'(by omega)) := by simp [show j < vs.size by omega]
    obtain ⟨k1, k2, k3⟩ := hargs j _ _ hx hv
    have e1 : sl as j = as[j] := by simp [sl, hj]
    have e2 : (vs ++ Array.replicate (n - vs.size) undef).getD j undef = vs[j]'(by omega) := by
      simp only [Array.getD_eq_getD_getElem?]
      rw [Array.getElem?_append_left (by omega), hv]; rfl
    rw [e1, e2]
    exact (SlotR.plain (argOk_plain k1)).2 ⟨k2, k3⟩
  · rw [if_neg hj]
    split
    · rename_i hj2
      have e2 : (vs ++ Array.replicate (n - vs.size) undef).getD j undef = undef := by
        simp only [Array.getD_eq_getD_getElem?]
        rw [Array.getElem?_append_right (by omega), Array.getElem?_replicate]
        split <;> rfl
      rw [e2]
      refine ⟨.tup [] #[] rfl (by simp) (by simp), fun p sz s l A n c hs => ?_⟩
      cases hs with
      | tup _ _ k x v p _ _ hx hv h => simp at hx
    · exact ⟨.junk _, fun p sz s l A n c hs => by cases hs⟩
/-- Is the slice nil? -/
theorem nilq_wpOp {ops : Array Oper} {i x d : Nat} (ho : ops[i]? = some o) (hc : chkNilq P o x d = true) (hI : Inv w g ow st a) {l : List TV} (hx : elS st.h (sl st.t x) = some l) {Q : Exit → Act → World → Prop} :
    wpOp P ops Q i (fun a' w' => ∃ b : Bool, (b = true → l = []) ∧ Nxt w g ow st.h.length { st with t := st.t.set d (.bool b) } a' w') a w := by
  simp only [chkNilq, Bool.and_eq_true, decide_eq_true_eq] at hc
  obtain ⟨⟨hd, hg⟩, hop⟩ := hc
  split at hop
  · rename_i t y ty hopeq
    simp only [Bool.and_eq_true, beq_iff_eq] at hop
    obtain ⟨rfl, he⟩ := hop
    obtain ⟨e, he⟩ := Option.isSome_iff_exists.1 he
    have ht := elem_of he
    have hp := hI.plain (j := y) (by generalize sl st.t y = v at hx; cases v <;> first | rfl | simp [elS] at hx)
    obtain ⟨A, c, g', hq, h1, _⟩ := els_sl hI.box hI.bd hp.1 hx
    unfold wpOp
    simp only [ho]
    have hw : Region.wanted o (yielded ops a.tmps) = true := by simp [Region.wanted, hg]
    rw [hw]
    left
    have hn : A = none → l = [] := by
      rw [hq] at h1
      cases h1 with
      | sl _ _ _ _ _ _ _ _ _ _ hn _ _ _ => exact hn
    have hrun := run_eql_slice_nil (P := P) w t e A l.length c ht
    refine wp_val (v := .bool A.isNone) (w' := w) ?_ ?_
    · unfold execOp; rw [hopeq]
      simp [Act.eval, eqGuard, hq, hrun]
    · refine ⟨A.isNone, fun h => hn (by simpa using h), g, ow, hI.refl, ?_⟩
      rw [hd]
      exact hI.put d rfl (.bool _) (owns_cell rfl rfl)
  · cases hop
/-- An empty row. -/
theorem empty_wpOp {ops : Array Oper} {i d sz : Nat} (ho : ops[i]? = some o) (hc : chkEmpty P o d sz = true) (hz : 0 < sz) (hI : Inv w g ow st a) {Q : Exit → Act → World → Prop} :
    wpOp P ops Q i (Nxt w g ow st.h.length { st with t := st.t.set d (.nils) }) a w := by
  simp only [chkEmpty, Bool.and_eq_true, decide_eq_true_eq] at hc
  obtain ⟨⟨hd, hg⟩, hop⟩ := hc
  split at hop
  · rename_i t ps hopeq
    simp only [Bool.and_eq_true, beq_iff_eq] at hop
    obtain ⟨hps, he⟩ := hop
    split at he
    · rename_i e hel
      simp only [Bool.and_eq_true, decide_eq_true_eq] at he
      obtain ⟨hs, _⟩ := he
      have ht := elem_of hel
      obtain ⟨ti, hi, hisz⟩ := info_of hs
      have hps' : ps = #[] := Array.eq_empty_of_size_eq_zero hps
      subst hps'
      unfold wpOp
      simp only [ho]
      have hw : Region.wanted o (yielded ops a.tmps) = true := by simp [Region.wanted, hg]
      rw [hw]
      left
      have hrun : (Instr.buildSlice t 0 #[]).run P w = .ok (.slice (some (at_ w.heap.size 0)) 0 0) (w.alloc (.cells #[] e)) := by
        simp [Instr.buildSlice, run_underlying ht, sizeOf, typeInfo, hi, Instr.fill, newRow]
        congr 2
        exact Array.eq_empty_of_size_eq_zero (by simp)
      have hheap : (w.alloc (.cells #[] e)).heap = w.heap.push (.cells #[] e) := rfl
      refine wp_val (v := .slice (some (at_ w.heap.size 0)) 0 0) (w' := w.alloc (.cells #[] e)) ?_ ?_
      · unfold execOp; rw [hopeq]
        simp [hrun]
      · have hstp : Stp w g ow st.h.length (w.alloc (.cells #[] e)) (gPush g w.heap.size 0) (oPush ow w.heap.size [0, d]) :=
          Stp.push hI.bd hheap rfl rfl rfl (fun b hb => gPush_imm hb) (fun _ _ => rfl) (fun b hb => by simp [oPush, hb]) (fun q => by simp [oPush])
        have hinv := hI.push hstp hheap (fun b hb => gPush_imm hb) (fun b hb => by simp [oPush, hb])
        refine ⟨_, _, hstp, ?_⟩
        rw [hd]
        exact hinv.put d rfl (.nils _ (fun a ha _ => by cases ha; rfl)) (owns_cell rfl rfl)
    · cases he
  · cases hop
def noCall : CallF := fun _ _ _ => none
theorem noCall_sound : CallSound P noCall := fun _ _ _ _ h => by cases h
theorem noCall_ord : OrdC noCall := fun _ _ _ _ h => by cases h
theorem reg_wp {r : Nat} {ops : Array Oper} {xs : List TOper} (hc : chkOpers P ops ops.toList xs = true) (hI : Inv w g ow st a) {st' : St} (hs : steps noCall xs st = some st') {Q : Exit → Act → World → Prop} (hQ : ∀ a' w', Nxt w g ow st.h.length st' a' w' → Q .normal a' w') : (Code.region r ops false).wp P Q a w := by
  apply wp_region
  rw [List.range_eq_range']
  have := ops_wp (P := P) (Q := Q) noCall_sound noCall_ord ops.toList xs 0 w g ow st a st' rfl hc hI hs hQ
  simpa using this
theorem shr0_els {h : Heap} {x : TV} {l : List TV} (hx : elS h x = some l) : x.shrT = x.shr0 ∧ elS h x.shr0 = some l ∧ plainV x = true ∧ isLb x = false ∧ isLb x.shr0 = false := by
  cases x <;> first | (simp [elS] at hx; done) | exact ⟨rfl, hx, rfl, rfl, rfl⟩
theorem lbT {l : List TV} : isLb (.tup l) = false := rfl
theorem lbN : isLb .nils = false := rfl
theorem tak_plain {t : List TV} {tk : Bool} {i : Nat} (hp : plainV (sl t i) = true) : tak t tk (.s i) = if tk then some (sl t i, [i]) else some ((sl t i).shrT, []) := by
  simp only [tak]
  cases h : sl t i <;> first | rfl | (rw [h] at hp; simp [plainV] at hp)
theorem ev_plain {t : List TV} {i : Nat} (hp : plainV (sl t i) = true) : ev t (.s i) = some (sl t i).shrT := by
  simp only [ev]
  cases h : sl t i <;> first | rfl | (rw [h] at hp; simp [plainV] at hp)
theorem clone_at {f : Nat} {ag : Bool} {sz bytes : Nat} (hk : chkClone P f ag sz bytes = true) {as : List TV} {h : Heap} {r : Ret} (hr : cloneC ag sz bytes f as h = some r) : CallAt P f as h r := by
  unfold cloneC at hr
  split at hr
  rotate_left
  · cases hr
  rename_i x
  split at hr
  rotate_left
  · cases hr
  rename_i l hl
  split at hr
  rotate_left
  · cases hr
  rename_i hcond
  obtain ⟨hw, hb, hb2, hxok⟩ := hcond
  obtain ⟨sx1, sx2, sx3, sx4, sx5⟩ := shr0_els hl
  unfold chkClone at hk
  split at hk
  rotate_left
  · cases hk
  rename_i fn hfn
  simp only [Bool.and_eq_true, bne_iff_ne, ne_eq, beq_iff_eq, decide_eq_true_eq] at hk
  obtain ⟨⟨⟨⟨hname, hN⟩, hR⟩, hz⟩, hk⟩ := hk
  split at hk
  rotate_left
  · cases hk
  rename_i r0 ops0 r1 ops1 r2 ops2 r3 ops3 hbody
  simp only [Bool.and_eq_true] at hk
  obtain ⟨⟨⟨k0, k2⟩, k1⟩, k3⟩ := hk
  split at k1
  rotate_left
  · cases k1
  rename_i o1 o2 hops1
  simp only [Bool.and_eq_true] at k1
  split at k3
  rotate_left
  · cases k3
  rename_i p1 p2 p3 p4 hops3
  simp only [Bool.and_eq_true] at k3
  obtain ⟨⟨⟨m1, m2⟩, m3⟩, m4⟩ := k3
  have hlen : h.length ≤ r.h.length := by
    split at hr <;> (obtain rfl := Option.some.inj hr; simp)
  refine ⟨hlen, ⟨fn, hfn, by simp [hbody], by simpa using hname⟩, ?_⟩
  intro w g ow vs hsz hargs hbox hbd
  refine calls_of_wp hfn hbody ?_
  have hI0 := inv_init (n := fn.ntmps) hsz hargs hbox hbd
  have e0 : ([x] ++ List.replicate (fn.ntmps - [x].length) (.tup [])) = [x, .tup [], .tup [], .tup [], .tup [], .tup [], .tup [], .tup []] := by rw [hN]; rfl
  rw [e0] at hI0
  -- the end: slot 2 holds the answer
  have fin : ∀ (st1 : St) (a' : Act) (w' : World), st1.base = h.length → st1.keep = false → sl st1.t 2 = r.r → st1.h = r.h → Nxt w g ow h.length st1 a' w' →
      a'.defers = [] ∧ ∃ v, (results fn a'.tmps).run P w' = .ok v w' ∧ ∃ v', Ending.returned v = .returned v' ∧ CallPost w g ow h.length r v' w' := by
    rintro st1 a' w' hbs hkp hs2 hh ⟨g1, ow1, n1, n2⟩
    have hfi : finish false [.tmp 2] st1 = some r := by
      split at hr
      · obtain rfl := Option.some.inj hr
        simp only at hs2 hh
        simp [finish, ress, resOf, hs2, argOk, TV.isCell, hh, hbs, hkp, one, trim]
      · obtain rfl := Option.some.inj hr
        simp only at hs2 hh
        simp [finish, ress, resOf, hs2, argOk, TV.isCell, hh, hbs, hkp, one, trim, TV.lt]
    obtain ⟨us, u1, u2, u3⟩ := finish_spec (P := P) n2 hR rfl hfi (fun _ i hi => by
      rw [hbs] at hi ⊢
      have := box_lts hbox hi
      have e : st1.h.getD i [] = h.getD i [] := by
        rw [hh]
        split at hr
        · obtain rfl := Option.some.inj hr; rfl
        · obtain rfl := Option.some.inj hr
          simp only [List.getD_eq_getElem?_getD, List.getElem?_append_left hi]
      rw [e]; exact this)
    refine ⟨n2.defers, _, run_results u1, _, rfl, ?_⟩
    rw [hbs] at u3
    obtain ⟨g', ow', s1, s2, s3, s4, s5⟩ := u3
    exact ⟨g', ow', n1.trans s1 (Nat.le_refl _), s2, s3, s4, s5⟩
  apply wp_seq
  refine reg_wp k0 hI0 (st' := ⟨[x, .tup [], .nils, .tup [], .tup [], .tup [], .tup [], .tup []], h, h.length, false⟩) (by simp [steps, step, dlt, wanted, delta, tak, okD, isLb, sl, Dl.ap, Dl.slots]) ?_
  rintro a1 w1 ⟨g1, ow1, n1, i1⟩
  show (Code.seq _ _).wp P _ a1 w1
  apply wp_seq
  apply wp_seq
  apply wp_region
  have hsize1 : ops1.size = 2 := by rw [← Array.length_toList, hops1]; rfl
  have ho1 : ops1[0]? = some o1 := by rw [← Array.getElem?_toList, hops1]; rfl
  have ho2 : ops1[1]? = some o2 := by rw [← Array.getElem?_toList, hops1]; rfl
  rw [hsize1, show List.range 2 = [0, 1] from rfl, wpOps_cons]
  refine wpOp_mono ?_ (step_wpOp noCall_sound noCall_ord ho1 k1.1 i1 (st' := ⟨[x, .tup [], .nils, x.shr0, .tup [], .tup [], .tup [], .tup []], h, h.length, false⟩) (by
    simp only [step, dlt, wanted, delta]
    rw [tak_plain (by simpa [sl] using sx3)]
    simp [sl, sx1, okD, lbT, sx5, Dl.ap, Dl.slots]))
  rintro a2 w2 ⟨g2, ow2, n2, i2⟩
  rw [wpOps_cons]
  refine wpOp_mono ?_ (nilq_wpOp ho2 k1.2 i2 (l := l) (by simpa [sl] using sx2))
  rintro a3 w3 ⟨b, hbl, g3, ow3, n3, i3⟩
  have s13 := (n1.trans n2 (Nat.le_refl _)).trans n3 (Nat.le_refl _)
  have e3 : ([x, .tup [], .nils, x.shr0, .tup [], .tup [], .tup [], .tup []] : List TV).set 4 (.bool b) = [x, .tup [], .nils, x.shr0, .bool b, .tup [], .tup [], .tup []] := rfl
  rw [e3] at i3
  have hsl4 := i3.slot 4
  have hb4 : a3.eval (.tmp 4) = .bool b := by
    have : VR w3 g3 h.length (.bool b) (a3.tmps.getD 4 undef) := hsl4.1
    exact this.bool_inv
  show wpOps P ops1 _ [] a3 w3
  simp only [wpOps]
  show (Code.cond _ _ _).wp P _ a3 w3
  cases b with
  | true =>
    refine wp_cond_true hb4 ?_
    have hl0 : l = [] := hbl rfl
    apply wp_seq
    refine reg_wp k2 i3 (st' := ⟨[x, .tup [], .nils, x.shr0, .bool true, .tup [], .tup [], .tup []], h, h.length, false⟩) (by simp [steps, step, dlt, wanted, delta, tak, okD, isLb, sl, Dl.ap, Dl.slots]) ?_
    rintro a4 w4 ⟨g4, ow4, n4, i4⟩
    show (Code.ret).wp P _ a4 w4
    refine wp_ret ?_
    have hr' : r = ⟨.nils, h, false⟩ := by
      subst hl0
      simp at hr
      exact hr.symm
    exact fin _ _ _ rfl rfl (by rw [hr']; rfl) (by rw [hr']) ⟨g4, ow4, s13.trans n4 (Nat.le_refl _), i4⟩
  | false =>
    refine wp_cond_false hb4 (wp_skip ?_)
    show (Code.seq _ _).wp P _ a3 w3
    apply wp_seq
    apply wp_region
    have hsize3 : ops3.size = 4 := by rw [← Array.length_toList, hops3]; rfl
    have q1 : ops3[0]? = some p1 := by rw [← Array.getElem?_toList, hops3]; rfl
    have q2 : ops3[1]? = some p2 := by rw [← Array.getElem?_toList, hops3]; rfl
    have q3 : ops3[2]? = some p3 := by rw [← Array.getElem?_toList, hops3]; rfl
    have q4 : ops3[3]? = some p4 := by rw [← Array.getElem?_toList, hops3]; rfl
    rw [hsize3, show List.range 4 = [0, 1, 2, 3] from rfl, wpOps_cons]
    refine wpOp_mono ?_ (empty_wpOp q1 m1 hz i3)
    rintro a4 w4 ⟨g4, ow4, n4, i4⟩
    have e4 : ([x, .tup [], .nils, x.shr0, .bool false, .tup [], .tup [], .tup []] : List TV).set 5 .nils = [x, .tup [], .nils, x.shr0, .bool false, .nils, .tup [], .tup []] := rfl
    rw [e4] at i4
    rw [wpOps_cons]
    refine wpOp_mono ?_ (step_wpOp noCall_sound noCall_ord q2 m2 i4 (st' := ⟨[x, .tup [], .nils, x.shr0, .bool false, .nils, x.shr0, .tup []], h, h.length, false⟩) (by
      simp only [step, dlt, wanted, delta]
      rw [tak_plain (by simpa [sl] using sx3)]
      simp [sl, sx1, okD, lbT, sx5, Dl.ap, Dl.slots]))
    rintro a5 w5 ⟨g5, ow5, n5, i5⟩
    rw [wpOps_cons]
    have s15 := (s13.trans n4 (Nat.le_refl _)).trans n5 (Nat.le_refl _)
    have hsh : x.shr0.shrT = x.shr0 := by
      rw [(shr0_els sx2).1]
      exact (by cases x <;> rfl : x.shr0.shr0 = x.shr0)
    have hstep : step noCall ⟨some 7, .apr ag sz bytes (.s 5) (.s 6), none⟩ ⟨[x, .tup [], .nils, x.shr0, .bool false, .nils, x.shr0, .tup []], h, h.length, false⟩ = some ⟨[x, .tup [], .nils, x.shr0, .bool false, .sl .shr [], x.shr0, r.r], r.h, h.length, false⟩ := by
      have hev : ev [x, .tup [], .nils, x.shr0, .bool false, .nils, x.shr0, .tup []] (.s 6) = some x.shr0 := by
        rw [ev_plain (by simpa [sl] using (shr0_els sx2).2.2.1)]
        simp [sl, hsh]
      have hsrc : srcS h sz (some x.shr0) = some l := by
        cases x <;> first | (simp [elS] at hl; done) | exact sx2
      simp only [step, dlt, wanted, delta, hev, hsrc]
      rw [tak_plain (by simp [sl, plainV])]
      split at hr
      · rename_i hl0
        obtain rfl := Option.some.inj hr
        simp [sl, okD, isLb, hw, hb, hb2, hl0, Dl.ap, Dl.slots, TV.shrT, TV.shrA, TV.shr0]
      · rename_i hl0
        obtain rfl := Option.some.inj hr
        have hl1 : ¬ l = [] := fun h => hl0 (by rw [h]; rfl)
        simp [sl, okD, isLb, hw, hb, hb2, hl1, Dl.ap, Dl.slots, TV.shrT, TV.shrA, TV.shr0]
    refine wpOp_mono ?_ (step_wpOp noCall_sound noCall_ord q3 m3 i5 hstep)
    rintro a6 w6 ⟨g6, ow6, n6, i6⟩
    rw [wpOps_cons]
    have hrp : plainV r.r = true ∧ isLb r.r = false := by
      split at hr <;> (obtain rfl := Option.some.inj hr; exact ⟨rfl, rfl⟩)
    have hstep4 : ∃ t4, step noCall ⟨some 2, .mv true (.s 7), none⟩ ⟨[x, .tup [], .nils, x.shr0, .bool false, .sl .shr [], x.shr0, r.r], r.h, h.length, false⟩ = some ⟨t4, r.h, h.length, false⟩ ∧ sl t4 2 = r.r := by
      simp only [step, dlt, wanted, delta]
      rw [tak_plain (by simpa [sl] using hrp.1)]
      simp [sl, okD, lbN, hrp.2, Dl.ap, Dl.slots]
    obtain ⟨t4, hs4, ht4⟩ := hstep4
    refine wpOp_mono ?_ (step_wpOp noCall_sound noCall_ord q4 m4 i6 hs4)
    rintro a7 w7 ⟨g7, ow7, n7, i7⟩
    simp only [wpOps]
    show (Code.ret).wp P _ a7 w7
    refine wp_ret ?_
    exact fin _ _ _ rfl rfl ht4 rfl ⟨g7, ow7, (s15.trans n6 (Nat.le_refl _)).trans n7 hlen, i7⟩
end
theorem cloneC_ord {ag : Bool} {sz bytes f : Nat} {as : List TV} {h : Heap} {r : Ret} (hr : cloneC ag sz bytes f as h = some r) : h.length ≤ r.h.length ∧ (r.kp = false → HOrd h r.h) := by
  unfold cloneC at hr
  split at hr
  · split at hr
    · split at hr
      · split at hr
        · obtain rfl := Option.some.inj hr
          exact ⟨Nat.le_refl _, fun _ => .refl _⟩
        · obtain rfl := Option.some.inj hr
          exact ⟨by simp, fun _ => .app _ _⟩
      · cases hr
    · cases hr
  · cases hr
/-- Functions whose answers a proof by hand gives, one by one. -/
structure ExtOne (P : Program) (f : Nat) (c : CallF) : Prop where
  ord : ∀ as h r, c f as h = some r → h.length ≤ r.h.length ∧ (r.kp = false → HOrd h r.h)
  snd : ∀ as h r, c f as h = some r → CallAt P f as h r
theorem ExtOne.clone {P : Program} {f : Nat} {ag : Bool} {sz bytes : Nat} (hk : chkClone P f ag sz bytes = true) : ExtOne P f (cloneC ag sz bytes) :=
  ⟨fun _ _ _ h => cloneC_ord h, fun _ _ _ h => clone_at hk h⟩
end Go.T
