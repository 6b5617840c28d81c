/- Operations of the small machine: rows that may be written. -/
import Derived.Test.YtlcnhdbedgpbiaaOTOps15
set_option linter.unusedVariables false
set_option linter.unusedSimpArgs false
set_option maxRecDepth 10000
namespace Go.T
section
variable {P : Program} {w : World} {g : Gh} {ow : Ow} {st : St} {a : Act} {o : Oper} {dst : Option Nat}
theorem VR.shrK {m : Nat} {x : TV} {v : Value} (h : VR w g m x v) (hc : x.isCell = true) : VR w g m x.shrK v ∧ x.shrK.isCell = true ∧ x.shrK.noOwn = true := by
  cases x <;> first | exact ⟨h, hc, rfl⟩ | (simp [TV.isCell] at hc; done) | exact ⟨h.shr0, rfl, rfl⟩
/-- What is shared of cells; what is nil is still known to be. -/
theorem pack_shrK {m : Nat} {ag : Bool} {us : List TV} {vs : List Value} (hl : us.length = vs.length) (hag : ag = true ∨ us.length = 1) (h : ∀ (j : Nat) (x : TV) (v : Value), us[j]? = some x → vs[j]? = some v → x.isCell = true ∧ VR w g m x v) :
    VR w g m (pack ag (us.map TV.shrK)) (packV ag vs) ∧ plainV (pack ag (us.map TV.shrK)) = true ∧ ∀ w' g' ow' q, Owns w' g' ow' q (pack ag (us.map TV.shrK)) (packV ag vs) := by
  have h' : ∀ (j : Nat) (x : TV) (v : Value), (us.map TV.shrK)[j]? = some x → vs[j]? = some v → x.isCell = true ∧ VR w g m x v := by
    intro j x v hx hv
    obtain ⟨y, hy, rfl⟩ := getElem?_map_some hx
    obtain ⟨c1, c2⟩ := h j y v hy hv
    exact ⟨(c2.shrK c1).2.1, (c2.shrK c1).1⟩
  obtain ⟨p1, p2, p3⟩ := VR.pack (by simpa using hl) (by simpa using hag) h'
  refine ⟨p1, p2, fun w' g' ow' q => ?_⟩
  cases ag with
  | true =>
    refine owns_agg (fun x hx => ?_)
    obtain ⟨y, hy, rfl⟩ := List.mem_map.1 hx
    obtain ⟨j, hj⟩ := List.getElem?_of_mem hy
    have hlt : j < vs.length := by rw [← hl]; exact (List.getElem?_eq_some_iff.1 hj).1
    obtain ⟨c1, c2⟩ := h j y vs[j] hj (by simp [hlt])
    exact (c2.shrK c1).2
  | false =>
    have h1 : us.length = 1 := hag.resolve_left (by simp)
    match us, vs, hl, h1 with
    | [x], [v], _, _ =>
      obtain ⟨c1, c2⟩ := h 0 x v rfl rfl
      exact owns_cell (c2.shrK c1).2.1 (c2.shrK c1).2.2
theorem snd_mvk {x : Src} {d : Dl} (hc : chkOp P o.op (.mvk x) = true) (hI : Inv w g ow st a) {call : CallF} (hd : delta call st (.mvk x) = some d) {Q : Exit → Act → World → Prop} :
    o.wp P a w (Nxt w g ow st.h.length (d.ap o.dst st)) Q := by
  simp only [delta] at hd
  split at hd
  · rename_i v i ht
    obtain rfl := Option.some.inj hd
    have key : ∀ (y : Operand), chkS y x = true → VR w g st.h.length v.shrKA (a.eval y) ∧ plainV v.shrKA = true ∧
        ∀ w' g' ow' q, Owns w' g' ow' q v.shrKA (a.eval y) := by
      intro y hc
      obtain ⟨h1, h2, _⟩ := tak_spec hI hc ht
      generalize a.eval y = q at h1
      cases h1 with
      | agg cs vs hl hcell hr =>
        refine ⟨.agg _ _ (by simpa using hl) (fun j x v hx hv => ?_) (fun j x v hx hv => ?_), rfl, fun w' g' ow' q => owns_agg (fun x hx => ?_)⟩
        · obtain ⟨y, hy, rfl⟩ := getElem?_map_some hx
          exact ((hr j y v hy hv).shrK (hcell j y v hy hv)).2.1
        · obtain ⟨y, hy, rfl⟩ := getElem?_map_some hx
          exact ((hr j y v hy hv).shrK (hcell j y v hy hv)).1
        · obtain ⟨y, hy, rfl⟩ := List.mem_map.1 hx
          obtain ⟨j, hj⟩ := List.getElem?_of_mem hy
          have hjl : j < vs.size := by rw [← hl]; exact (List.getElem?_eq_some_iff.1 hj).1
          exact ((hr j y vs[j] hj (by simp [hjl])).shrK (hcell j y vs[j] hj (by simp [hjl]))).2
      | tup => exact ⟨.junk _, rfl, fun w' g' ow' q p sz s l A n c hs => by cases hs⟩
      | junk => exact ⟨.junk _, rfl, fun w' g' ow' q p sz s l A n c hs => by cases hs⟩
      | sl t l A c sz vals hz hc hm hA hn he h hr => exact ⟨.sl .shr l A c sz vals hz hc hm hA hn he h hr, rfl, fun _ _ _ _ => owns_cell rfl rfl⟩
      | bool b => exact ⟨.bool b, rfl, fun _ _ _ _ => owns_cell rfl rfl⟩
      | int k n => exact ⟨.int k n, rfl, fun _ _ _ _ => owns_cell rfl rfl⟩
      | str s => exact ⟨.str s, rfl, fun _ _ _ _ => owns_cell rfl rfl⟩
      | ptr i o h => exact ⟨.ptr i o h, rfl, fun _ _ _ _ => owns_cell rfl rfl⟩
      | nilp => exact ⟨.nilp, rfl, fun _ _ _ _ => owns_cell rfl rfl⟩
      | nils A hA => exact ⟨.nils A hA, rfl, fun _ _ _ _ => owns_cell rfl rfl⟩
      | cp cs b o vals h hr => exact ⟨.cp cs b o vals h hr, rfl, fun _ _ _ _ => owns_cell rfl rfl⟩
      | asl ag sz i o n c h hc hm hrow => exact ⟨.asl ag sz i o n c h hc hm hrow, rfl, fun _ _ _ _ => owns_cell rfl rfl⟩
      | fn f cs vs hl h hr => exact ⟨.fn f cs vs hl h hr, rfl, fun _ _ _ _ => owns_cell rfl rfl⟩
      | nilf => exact ⟨.nilf, rfl, fun _ _ _ _ => owns_cell rfl rfl⟩
    cases hop : o.op <;> rw [hop] at hc <;> simp [chkOp] at hc
    all_goals
      rename_i y
      exact wp_val (by unfold execOp; rw [hop]; rfl) (hI.nx0 o.dst (key y hc))
  · cases hd
/-- A read that takes nothing; what is nil is still known to be. -/
theorem ld_plainK {t : TypeId} {y : Operand} {ag : Bool} {n b off : Nat} {us : List TV} {vs : List Value} (hop : o.op = .load t y) (hI : Inv w g ow st a) (hl : lay P t ag n = true) (hy : a.eval y = .pointer (some (at_ b off))) (hr : w.rangeAt b off vs) (h1 : vs.length = n) (h2 : us.length = n)
    (h : ∀ (j : Nat) (x : TV) (v : Value), us[j]? = some x → vs[j]? = some v → x.isCell = true ∧ VR w g st.h.length x v) {Q : Exit → Act → World → Prop} :
    o.wp P a w (Nxt w g ow st.h.length (({ v := pack ag (us.map TV.shrK) } : Dl).ap o.dst st)) Q := by
  have hag := (lay_of hl).2.2
  refine wp_val (w' := w) (v := packV ag vs) ?_ (hI.nx0 o.dst (pack_shrK (by omega) (by rw [h2]; exact hag) h))
  unfold execOp; rw [hop]
  simp only [hy, Sem.run_bind, run_ld hl hr h1, Result.andThen_ok]
  rfl
theorem ldK_core {t : TypeId} {y : Operand} {ag : Bool} {n : Nat} {p : Src} (hop : o.op = .load t y) (hl : lay P t ag n = true) (hc : chkS y p = true) (hI : Inv w g ow st a) {us : List TV} (hget : getH st.h (ad st.t p) n = some us) {Q : Exit → Act → World → Prop} :
    o.wp P a w (Nxt w g ow st.h.length (({ v := pack ag (us.map TV.shrK) } : Dl).ap o.dst st)) Q := by
  unfold getH at hget
  split at hget
  · rename_i i off e
    split at hget
    · rename_i cs hb
      obtain ⟨k2, k3⟩ := (ad_spec hI hc).1 _ _ e
      obtain ⟨hb, hdb⟩ := live_some hb
      obtain ⟨vs, r1, r2, r3, r4⟩ := (hI.box i cs hb hdb).cut hget
      exact ld_plainK hop hI hl k2 r1 r2 r3 (fun j x v hx hv => ⟨(r4 j x v hx hv).1, (r4 j x v hx hv).2.1⟩)
    · cases hget
  · rename_i cs e
    obtain ⟨b, off, vs, h2, h3, h4, h5, h6⟩ := cp_range ((ad_spec hI hc).2.1 _ e) hget
    exact ld_plainK hop hI hl h2 h3 h4 h5 h6
  · cases hget
theorem snd_ldk {ag : Bool} {n : Nat} {p : Src} {d : Dl} (hc : chkOp P o.op (.ldk ag n p) = true) (hI : Inv w g ow st a) {call : CallF} (hd : delta call st (.ldk ag n p) = some d) {Q : Exit → Act → World → Prop} :
    o.wp P a w (Nxt w g ow st.h.length (d.ap o.dst st)) Q := by
  cases hop : o.op <;> rw [hop] at hc <;> try (simp [chkOp] at hc; done)
  simp [chkOp] at hc
  simp only [delta] at hd
  split at hd
  · rename_i us hget
    obtain rfl := Option.some.inj hd
    exact ldK_core hop hc.1 hc.2 hI hget
  · cases hd
theorem snd_ldr {ag : Bool} {n : Nat} {r p : Src} {d : Dl} (hc : chkOp P o.op (.ldr ag n r p) = true) (hI : Inv w g ow st a) {call : CallF} (hd : delta call st (.ldr ag n r p) = some d) {Q : Exit → Act → World → Prop} :
    o.wp P a w (Nxt w g ow st.h.length (d.ap o.dst st)) Q := by
  cases hop : o.op <;> rw [hop] at hc <;> try (simp [chkOp] at hc; done)
  simp [chkOp] at hc
  simp only [delta] at hd
  split at hd
  · split at hd
    · split at hd
      · rename_i e1 e2 _ us hget
        obtain rfl := Option.some.inj hd
        exact ldK_core hop hc.1 hc.2 hI hget
      · cases hd
    · cases hd
  · cases hd
theorem snd_slx {sz : Nat} {x : Src} {lo hi : Option Src} {d : Dl} (hc : chkOp P o.op (.slx sz x lo hi) = true) (hI : Inv w g ow st a) {call : CallF} (hd : delta call st (.slx sz x lo hi) = some d) {Q : Exit → Act → World → Prop} :
    o.wp P a w (Nxt w g ow st.h.length (d.ap o.dst st)) Q := by
  cases hop : o.op <;> rw [hop] at hc <;> try (simp [chkOp] at hc; done)
  rename_i t y lo' hi' mx'
  cases mx' with
  | some z => simp [chkOp] at hc
  | none =>
  simp only [chkOp] at hc
  split at hc
  · rename_i e he
    simp at hc
    obtain ⟨⟨⟨⟨hs, hz⟩, c1⟩, c2⟩, c3⟩ := hc
    have ht := elem_of he
    simp only [delta] at hd
    split at hd
    · rename_i ag s i off n ex
      split at hd
      · rename_i cs hcs
        split at hd
        · rename_i hcond
          obtain ⟨rfl, hoff, hs0, hncs⟩ := hcond
          split at hd
          · rename_i h hh
            split at hd
            · rename_i b hb
              have h1 := (ev_spec hI c1 ex).1
              generalize hq : a.eval y = q at h1
              obtain ⟨bh, kh⟩ := bound_spec hI c3 hh
              obtain ⟨bb, kb⟩ := bound_spec hI c2 hb
              obtain ⟨hb1, hb2⟩ := live_some hcs
              obtain ⟨row, ty0, fr0, r1, r2, r3, r4, r5, r6⟩ := hI.box i cs hb1 hb2
              cases h1 with
              | asl _ _ _ _ _ c hi2 hcn hmm hrow =>
                obtain ⟨row', ty1, fr1, r1', r2'⟩ := hrow
                have hrr : row' = row := by unfold RowOf at r1 r1'; rw [r1] at r1'; simp at r1'; exact r1'.1.symm
                subst hrr
                have hM : (cs.length - off) / s ≤ c := by
                  have e1 : (cs.length - off) / s * s ≤ cs.length - off := Nat.div_mul_le_self _ _
                  have e2 : (cs.length - off) / s * s ≤ c * s := by omega
                  exact Nat.le_of_mul_le_mul_right e2 hs0
                have hhc : h ≤ c := by
                  cases hi' with
                  | none => have : h = n := bh; omega
                  | some z => have := kh rfl; omega
                have hbh : b ≤ h := by
                  cases lo' with
                  | none => have : b = 0 := bb; omega
                  | some z => exact kb rfl
                have hrun := run_slc (P := P) (w := w) (m := c) ht hs (some (at_ (g.nu i) off)) bb bh (mx := none) rfl hbh hhc (Nat.le_refl _) (by simp)
                have hexec : (execOp a.eval o).run P w = .ok (.value (.slice (if c = b then some (at_ (g.nu i) off) else (some (at_ (g.nu i) off)).map (·.add (b * s))) (h - b) (c - b))) w := by
                  unfold execOp; rw [hop]
                  simp only [hq, Option.map_none, Sem.run_bind, hrun, Result.andThen_ok]
                  rfl
                have hcbig : c ≤ 9223372036854775807 ∨ h - b ≤ n ∨ True := .inr (.inr trivial)
                split at hd
                · rename_i hemp
                  obtain rfl := Option.some.inj hd
                  refine wp_val hexec (hI.nx0 o.dst (cellR ?_ rfl rfl))
                  have e0 : h - b = 0 := hemp.1
                  rw [e0]
                  refine .sl .shr [] _ (c - b) 1 (fun _ _ => default) (by decide) (by simp) (by simp) (fun ad had _ => ?_) (fun _ => rfl) (by simp) (by simp) (by simp)
                  split at had
                  · cases had; rfl
                  · simp only [Option.map_some, at_add] at had; cases had; rfl
                · rename_i hne
                  split at hd
                  · rename_i hbig
                    obtain rfl := Option.some.inj hd
                    have hval : (if c = b then some (at_ (g.nu i) off) else (some (at_ (g.nu i) off)).map (·.add (b * s))) = some (at_ (g.nu i) (off + b * s)) := by
                      split
                      · rename_i hMb
                        have : b = 0 := by
                          rcases Nat.eq_zero_or_pos b with h0 | h0
                          · exact h0
                          · exact absurd ⟨by omega, by omega⟩ hne
                        subst this
                        simp
                      · simp only [Option.map_some, at_add]
                    rw [hval] at hexec
                    refine wp_val hexec (hI.nx0 o.dst (cellR (.asl ag s i _ _ (c - b) hi2 (by omega) (by unfold roomB at hbig; omega) ?_) rfl rfl))
                    refine ⟨row', ty1, fr1, r1', ?_⟩
                    have : b * s + (c - b) * s = c * s := by rw [← Nat.add_mul]; congr 1; omega
                    omega
                  · cases hd
            · cases hd
          · cases hd
        · cases hd
      · cases hd
    · rename_i tg ex
      split at hd
      · rename_i h hh
        split at hd
        · rename_i b hb
          obtain rfl := Option.some.inj hd
          have h1 := (ev_spec hI c1 ex).1
          generalize hq : a.eval y = q at h1
          obtain ⟨bh, kh⟩ := bound_spec hI c3 hh
          obtain ⟨bb, kb⟩ := bound_spec hI c2 hb
          have hVR := h1
          cases h1 with
          | sl _ _ A c sz0 vals hz0 hcap hmm hA hn hE h' hr =>
            have hh0 : h = 0 := by
              cases hi' with
              | none => exact bh
              | some z => have := kh rfl; omega
            have hb0 : b = 0 := by
              cases lo' with
              | none => exact bb
              | some z => have := kb rfl; omega
            subst hh0
            subst hb0
            have hrun := run_slc (P := P) (w := w) (m := c) ht hs A bb bh (mx := none) rfl (Nat.le_refl _) (Nat.zero_le _) (Nat.le_refl _) (by simp)
            refine wp_val (w' := w) (v := .slice (if c = 0 then A else A.map (·.add (0 * sz))) (0 - 0) (c - 0)) ?_ (hI.nx0 o.dst (cellR ?_ rfl rfl))
            · unfold execOp; rw [hop]
              simp only [hq, List.length_nil, Option.map_none, Sem.run_bind]
              rw [show (Instr.sliceAt t (Value.slice A 0 c) (lo'.map a.eval) (hi'.map a.eval) none).run P w = _ from hrun]
              rfl
            · refine .sl .shr [] _ (c - 0) 1 (fun _ _ => default) (by decide) (by simp) (by simp) (fun ad had hc0 => ?_) (fun _ => rfl) (by simp) (by simp) (by simp)
              split at had
              · omega
              · cases A with
                | none => simp at had
                | some z =>
                  have hz := hA z rfl (by omega)
                  obtain ⟨zb, zo, zs⟩ := z
                  simp only at hz
                  subst hz
                  simp only [Option.map_some] at had
                  rw [show (⟨zb, zo, none⟩ : Addr) = at_ zb zo from rfl, at_add] at had
                  cases had; rfl
        · cases hd
      · cases hd
    · cases hd
  · cases hc
theorem snd_bsr {ag : Bool} {sz n : Nat} {z : List TV} {ps : List (Nat × Src)} {d : Dl} (hc : chkOp P o.op (.bsr ag sz n z ps) = true) (hI : Inv w g ow st a) {call : CallF} (hd : delta call st (.bsr ag sz n z ps) = some d) {Q : Exit → Act → World → Prop} :
    o.wp P a w (Nxt w g ow st.h.length (d.ap o.dst st)) Q := by
  cases hop : o.op <;> rw [hop] at hc <;> try (simp [chkOp] at hc; done)
  rename_i t n' parts
  simp only [chkOp] at hc
  split at hc
  · rename_i e he
    have ht := elem_of he
    simp at hc
    obtain ⟨⟨⟨⟨⟨⟨⟨⟨rfl, hn0⟩, hl⟩, hz⟩, hsmall⟩, hlz⟩, hzl⟩, hzelt⟩, hps⟩ := hc
    obtain ⟨zv, hzr, ⟨ti, hi, hiz⟩, hcv⟩ := layZ_of hlz
    obtain ⟨hs1, hs2, hs3⟩ := lay_of hl
    have hisz : ti.size = sz := by unfold szOf at hs1; rw [hi] at hs1; simpa using hs1
    have hpc : (pack ag z).cells = z := pack_cells (by rw [hzl]; exact hs3) hcv
    obtain ⟨k1, k2⟩ := cvals_cells (w := w) (g := g) (m := st.h.length) hcv
    have hzs : zv.cells.size = sz := by omega
    have h0 : ElR w g st.h.length sz (zeros ag z n') ((Array.range (n' * sz)).map (zv.cells[· % zv.cells.size]!)) := by
      refine ⟨by simp [zeros], fun e he => ?_, fun i e j x hi hj => ?_⟩
      · obtain rfl := List.eq_of_mem_replicate he
        rw [hpc, hzl]
      · have hil : i < n' := by have := (List.getElem?_eq_some_iff.1 hi).1; simpa [zeros] using this
        have : e = pack ag z := by
          simp [zeros, List.getElem?_replicate, hil] at hi
          exact hi.symm
        subst this
        rw [hpc] at hj
        have hjl : j < sz := by have := (List.getElem?_eq_some_iff.1 hj).1; omega
        refine ⟨hzelt x (List.mem_of_getElem? hj), zv.cells[j], ?_, (k2 j x zv.cells[j] hj (by simp)).2.1⟩
        have hlt := idx_of hil hjl
        have hmod : (i * sz + j) % sz = j := by rw [Nat.mul_comm, Nat.mul_add_mod, Nat.mod_eq_of_lt hjl]
        simp [hlt, hzs, hmod]
        have : j < zv.cells.size := by omega
        simp [this]
    simp only [delta] at hd
    split at hd
    · rename_i es hf
      obtain rfl := Option.some.inj hd
      obtain ⟨cells', r1, r2, r3, r4, r5⟩ := fillE_spec hI hz parts.toList ps (zeros ag z n') es _ hps hf h0
      have hlen : es.length = n' := by rw [r2]; simp [zeros]
      have hrun := run_buildSlice w t e n' (parts.map fun (i, x) => (i, a.eval x)) cells' ti zv ht hi hiz (by rw [hisz]; omega) (by rw [hisz]; exact fun h => by rcases Nat.mul_eq_zero.1 h with h | h <;> omega) (by
        rw [hisz, Array.toList_map]; exact r1)
      have hheap : (w.alloc (.cells cells' e)).heap = w.heap.push (.cells cells' e) := rfl
      have hrun2 : (execOp a.eval o).run P w = .ok (.value (.slice (some (at_ w.heap.size 0)) n' n')) (w.alloc (.cells cells' e)) := by
        unfold execOp; rw [hop]
        simp only [Sem.run_bind, hrun, Result.andThen_ok]; rfl
      refine wp_val hrun2 ?_
      have hw : okW sz es = true := List.all_eq_true.2 (fun e he => by simp [r4 e he])
      obtain ⟨f1, f2⟩ := flat_idx hz es hw
      have hsize : cells'.size = n' * sz := by rw [r3, hlen]
      obtain ⟨hs, hI1⟩ := hI.mkBox (w' := w.alloc (.cells cells' e)) (cs := flat es) hheap rfl rfl rfl (by rw [f1, hsize, hlen]; exact Nat.le_refl _) (fun j x u hx hu => by
        obtain ⟨e', e1, e2⟩ := f2 j x hx
        obtain ⟨z1, u', z2, z3⟩ := r5 _ e' _ x e1 e2
        have hj : j < n' * sz := by have := (Array.getElem?_eq_some_iff.1 hu).1; omega
        rw [(idx_lt hj).2.2] at z2
        rw [hu] at z2
        obtain rfl := Option.some.inj z2
        exact ⟨isElt_isCell z1, z3, owns_cell (isElt_isCell z1) (by cases x <;> first | rfl | (rename_i tg _; cases tg <;> first | rfl | simp [TV.isElt] at z1))⟩)
      refine ⟨_, _, hs, ?_⟩
      cases hdst : o.dst with
      | none => exact ⟨hI1.defers, hI1.len, hI1.slot, hI1.box, hI1.bd, hI1.base⟩
      | some i =>
        have hnu : (gBox g w.heap.size st.h.length).nu st.h.length = w.heap.size := by simp [gBox]
        have hn16 : n' ≤ 16777216 := Nat.le_trans (Nat.le_mul_of_pos_right _ hz) hsmall
        have hp : VR (w.alloc (.cells cells' e)) (gBox g w.heap.size st.h.length) (st.h ++ [flat es]).length (.asl ag sz st.h.length 0 n') (.slice (some (at_ ((gBox g w.heap.size st.h.length).nu st.h.length) 0)) n' n') :=
          .asl _ _ _ _ _ _ (by simp) (Nat.le_refl _) (by omega) ⟨_, _, _, by rw [hnu]; exact row_push hheap, by omega⟩
        rw [hnu] at hp
        exact hI1.put i rfl hp (owns_cell rfl rfl)
    · cases hd
  · cases hc
end
end Go.T
