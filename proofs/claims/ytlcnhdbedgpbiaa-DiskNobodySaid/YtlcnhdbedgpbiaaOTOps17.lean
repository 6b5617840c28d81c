/- Operations of the small machine: rows that are cleared, rows that are appended to. -/
import Derived.Test.YtlcnhdbedgpbiaaOTOps16
set_option linter.unusedVariables false
set_option linter.unusedSimpArgs false
set_option maxRecDepth 10000
namespace Go.T
section
variable {P : Program} {w : World} {g : Gh} {ow : Ow} {st : St} {a : Act} {o : Oper} {dst : Option Nat}
theorem zeroCells_get (z : Array Value) (n k : Nat) (hk : k < n * z.size) : (Builtin.zeroCells z n).toList[k]? = z[k % z.size]? := by
  have hz : 0 < z.size := by
    rcases Nat.eq_zero_or_pos z.size with h | h
    · rw [h] at hk; simp at hk
    · exact h
  have hm : k % z.size < z.size := Nat.mod_lt _ hz
  simp [Builtin.zeroCells, hk, hm]
theorem snd_clr {z : List TV} {x : Src} {d : Dl} (hc : chkOp P o.op (.clr z x) = true) (hI : Inv w g ow st a) {call : CallF} (hd : delta call st (.clr z x) = some d) {Q : Exit → Act → World → Prop} :
    o.wp P a w (Nxt w g ow st.h.length (d.ap o.dst st)) Q := by
  cases hop : o.op <;> rw [hop] at hc <;> try (simp [chkOp] at hc; done)
  rename_i cl
  obtain ⟨cal, as, ts⟩ := cl
  cases cal <;> try (simp [chkOp] at hc; done)
  rename_i bu
  cases bu <;> simp only [chkOp] at hc <;> try (cases hc; done)
  split at hc
  · rename_i p t has hts
    obtain rfl : as = #[p] := Array.toList_inj.1 has
    obtain rfl : ts = #[t] := Array.toList_inj.1 hts
    simp only [Bool.and_eq_true] at hc
    obtain ⟨hce, c1⟩ := hc
    split at hce
    · rename_i e he
      have ht := elem_of he
      simp only [Bool.and_eq_true, decide_eq_true_eq] at hce
      obtain ⟨⟨hs, hz⟩, hlz⟩ := hce
      obtain ⟨zv, hzr, ⟨ti, hi, hiz⟩, hcv⟩ := layZ_of hlz
      obtain ⟨k1, k2⟩ := cvals_cells (w := w) (g := g) (m := st.h.length) hcv
      simp only [delta] at hd
      split at hd
      · rename_i tg ex
        obtain rfl := Option.some.inj hd
        have h1 := (ev_spec hI c1 ex).1
        generalize hq : a.eval p = q at h1
        cases h1 with
        | sl _ _ A c sz0 vals hz0 hcap hmm hA hn hE h' hr =>
          have hrun : (Builtin.clear_ #[t] o.type #[.slice A ([] : List TV).length c]).run P w = .ok (.tuple #[]) w := by
            cases A <;> simp [Builtin.clear_, run_underlying ht]
          refine wp_val (v := .tuple #[]) (w' := w) ?_ (hI.nx0 o.dst ⟨.tup [] #[] rfl (by simp) (by simp), rfl, fun w' g' ow' q p sz s l A n c hs => by cases hs; rename_i hx hv h; simp at hx⟩)
          unfold execOp; rw [hop]
          simp only [resolve, invoke, builtin, List.map_cons]
          simp [hq] at hrun ⊢
          simp [hrun]
      · rename_i ag s i off n ex
        split at hd
        · rename_i cs hcs
          split at hd
          · rename_i hcond
            obtain ⟨rfl, hle, hlz0⟩ := hcond
            obtain rfl := Option.some.inj hd
            have h1 := (ev_spec hI c1 ex).1
            generalize hq : a.eval p = q at h1
            obtain ⟨hb1, hb2⟩ := live_some hcs
            obtain ⟨row, ty0, fr0, r1, r2, r3, r4, r5, r6⟩ := hI.box i cs hb1 hb2
            cases h1 with
            | asl _ _ _ _ _ c hi2 hcn hmm hrow =>
              have hzs : zv.cells.size = z.length := k1.symm
              obtain ⟨f1, f2⟩ := flat_rep (.agg z) n
              rw [show (TV.agg z).cells = z from rfl] at f1 f2
              have hzl : (Builtin.zeroCells zv.cells n).toList.length = n * z.length := by simp [Builtin.zeroCells, hzs]
              have hvr : ∀ (j : Nat) (x : TV) (u : Value), (flat (List.replicate n (.agg z)))[j]? = some x → (Builtin.zeroCells zv.cells n).toList[j]? = some u → x.isCell = true ∧ VR w g st.h.length x u ∧ ∀ w' g' ow' q, Owns w' g' ow' q x u := by
                intro j x u hx hu
                have hj : j < n * z.length := by rw [← hzl]; exact (List.getElem?_eq_some_iff.1 hu).1
                rw [f2 j hj] at hx
                rw [zeroCells_get _ _ _ (by rw [hzs]; exact hj), hzs] at hu
                exact k2 _ x u hx hu
              obtain ⟨hstp, hinv⟩ := hI.wrH (i := i) (off := off) (cs := cs) (us := flat (List.replicate n (.agg z))) (vs := (Builtin.zeroCells zv.cells n).toList) hb1 hb2 (by rw [f1]; exact hle) (by rw [f1, hzl]) (fun j x u hx hu => ⟨(hvr j x u hx hu).1, (hvr j x u hx hu).2.1, (hvr j x u hx hu).2.2 _ _ _ _⟩) st.keep
              have hrun : (Builtin.clear_ #[t] o.type #[.slice (some (at_ (g.nu i) off)) n c]).run P w = .ok (.tuple #[]) (w.setCells (g.nu i) off (Builtin.zeroCells zv.cells n).toList) := by
                have hst := run_storeCells_cells (P := P) (g.nu i) off (Builtin.zeroCells zv.cells n).toList 0 w (fun j hj => by
                  rw [hzl] at hj
                  have := cell_of_row (o := off + j) r1
                  rw [show (⟨g.nu i, off + 0 + j, none⟩ : Addr) = at_ (g.nu i) (off + j) from rfl, this]
                  simp; omega) (fun j hj => by
                  rw [hzl] at hj
                  exact NF_frozen r1 r3 (by omega)) (fun v hv => by
                  obtain ⟨j, hj⟩ := List.getElem?_of_mem hv
                  have hjl : j < n * z.length := by rw [← hzl]; exact (List.getElem?_eq_some_iff.1 hj).1
                  obtain ⟨z1, z2, _⟩ := hvr j _ v (List.getElem?_eq_getElem (by rw [f1]; exact hjl)) hj
                  exact z2.oneCell z1)
                simp only [Nat.add_zero] at hst
                cases n with
                | zero => simp [Builtin.clear_, run_underlying ht, Builtin.zeroCells, World.setCells]
                | succ n => simp [Builtin.clear_, run_underlying ht, hzr, hst]
              refine wp_val (v := .tuple #[]) (w' := w.setCells (g.nu i) off (Builtin.zeroCells zv.cells n).toList) ?_ ⟨g, ow, hstp, ?_⟩
              · unfold execOp; rw [hop]
                simp [resolve, invoke, builtin, hq, hrun]
              · cases hdst : o.dst with
                | none => exact ⟨hinv.defers, hinv.len, hinv.slot, hinv.box, hinv.bd, hinv.base⟩
                | some j =>
                  have := hinv.put j (x := .tup []) (v := .tuple #[]) rfl (.tup [] #[] rfl (by simp) (by simp)) (by intro p sz s l A n' c hs'; cases hs'; rename_i hx hv h; simp at hx)
                  exact ⟨this.defers, this.len, this.slot, this.box, this.bd, this.base⟩
          · cases hd
        · cases hd
      · cases hd
    · cases hce
  · cases hc
/-- A box that nobody may look into any more. -/
theorem Inv.killBox (hI : Inv w g ow st a) (b : Nat) : Inv w g ow { st with h := st.h.set b [.tup []] } a where
  defers := hI.defers
  len := hI.len
  bd := hI.bd
  base := by simpa using hI.base
  box i ds hi := by
    rw [show ({ st with h := st.h.set b [.tup []] } : St).h.length = st.h.length by simp]
    have hi' : (st.h.set b [.tup []])[i]? = some ds := hi
    rw [List.getElem?_set] at hi'
    split at hi'
    · intro hdd
      split at hi'
      · obtain rfl := Option.some.inj hi'
        cases hdd
      · cases hi'
    · exact hI.box i ds hi'
  slot j := by
    rw [show ({ st with h := st.h.set b [.tup []] } : St).h.length = st.h.length by simp]
    exact hI.slot j
/-- A block that is no box's any more, as a new box. -/
theorem Inv.adopt (hI : Inv w g ow st a) {m : Nat} (hm : st.h.length = m) {b B : Nat} (hB : ow B = some [1, b]) (hdead : ∀ cs, st.h[b]? = some cs → dead cs = true) {cs : List TV} {vs : Array Value} {ty : TypeId} {fr : Nat × Nat} (hrow : RowOf w B vs ty fr) (hl : cs.length ≤ vs.size) (hfr : NF fr vs.size) (himm : g.imm B = 0)
    (hc : ∀ (j : Nat) (x : TV) (u : Value), cs[j]? = some x → vs[j]? = some u → x.isCell = true ∧ VR w g m x u ∧ x.noOwn = true) :
    Stp w g ow m w ⟨g.imm, fun i => if i = m then B else g.nu i⟩ (fun c => if c = B then some [1, m] else ow c) ∧
    Inv w ⟨g.imm, fun i => if i = m then B else g.nu i⟩ (fun c => if c = B then some [1, m] else ow c) { st with h := st.h ++ [cs] } a := by
  subst hm
  have hs : Stp w g ow st.h.length w ⟨g.imm, fun i => if i = st.h.length then B else g.nu i⟩ (fun c => if c = B then some [1, st.h.length] else ow c) := by
    refine ⟨rfl, rfl, rfl, Nat.le_refl _, fun _ _ _ _ => rfl, fun _ _ => Nat.le_refl _, fun i hi => ?_, fun b vs ty fr hh => ⟨vs, fr, hh, rfl⟩, fun c _ hf => ?_, fun c q hq => ?_⟩
    · show (if i = st.h.length then B else g.nu i) = _
      rw [if_neg (by omega)]
    · have hcb : c ≠ B := by
        rintro rfl
        rw [hB] at hf
        rcases hf with hf | ⟨q, hf⟩ <;> simp at hf
      simp [hcb]
    · change (if c = B then some [1, st.h.length] else ow c) = _ at hq
      split at hq
      · simp at hq
      · exact ⟨hI.bd c _ hq, hq⟩
  have hk : ∀ (c : Nat) (q : List Nat), ow c = some q → (q ≠ [1, b]) → (fun c => if c = B then some [1, st.h.length] else ow c) c = ow c := by
    intro c q hq hne
    have : c ≠ B := by
      rintro rfl
      rw [hB] at hq
      exact hne (Option.some.inj hq).symm
    simp [this]
  refine ⟨hs, hI.defers, hI.len, fun j => ?_, fun i ds hi => ?_, fun c q hq => ?_, by have := hI.base; simp; omega⟩
  · have hlen : ({ st with h := st.h ++ [cs] } : St).h.length = st.h.length + 1 := by simp
    rw [hlen]
    have hj := hI.slot j
    have hkk : ∀ c p, ow c = some ([0, j] ++ p) → w.heap[c]? = w.heap[c]? ∧ g.imm c = g.imm c ∧ (fun c => if c = B then some [1, st.h.length] else ow c) c = ow c := fun c p hcp => ⟨rfl, rfl, hk c _ hcp (by simp)⟩
    show SlotR w _ _ _ st.t a.tmps j (sl st.t j) _
    generalize sl st.t j = x at hj ⊢
    cases x <;> first | exact ⟨hj.1.mono hs (Nat.le_succ _), hj.2.mono hkk⟩ | skip
    case lbox ds =>
      obtain ⟨b', h1, h2⟩ := hj
      exact ⟨b', h1, h2.mono hs (Nat.le_succ _) hkk⟩
    case lp b o => exact hj
  · have hlen : ({ st with h := st.h ++ [cs] } : St).h.length = st.h.length + 1 := by simp
    rw [hlen]
    have hi' : (st.h ++ [cs])[i]? = some ds := hi
    rw [List.getElem?_append] at hi'
    split at hi'
    · rename_i hlt
      by_cases hib : i = b
      · subst hib
        intro hdd
        rw [hdead ds hi'] at hdd
        cases hdd
      · have hne : i ≠ st.h.length := by omega
        show BoxD w _ _ _ [1, i] ds (if i = st.h.length then B else g.nu i)
        rw [if_neg hne]
        exact (hI.box i ds hi').mono hs (Nat.le_succ _) (fun c p hcp => ⟨rfl, rfl, hk c _ hcp (by simp [hib])⟩)
    · rename_i hge
      have : i = st.h.length := by
        rcases Nat.lt_or_ge (i - st.h.length) 1 with h | h
        · omega
        · rw [List.getElem?_eq_none (by simp; omega)] at hi'; cases hi'
      subst this
      simp at hi'
      subst hi'
      show BoxD w _ _ _ [1, st.h.length] cs (if st.h.length = st.h.length then B else g.nu st.h.length)
      rw [if_pos rfl]
      refine fun _ => ⟨vs, ty, fr, hrow, hl, hfr, himm, by simp, fun j x u hx hu => ?_⟩
      obtain ⟨c1, c2, c3⟩ := hc j x u hx hu
      exact ⟨c1, c2.mono hs (Nat.le_succ _), owns_cell c1 c3⟩
  · change (if c = B then some [1, st.h.length] else ow c) = _ at hq
    split at hq
    · rename_i hcb; rw [hcb]; exact hI.bd _ _ hB
    · exact hI.bd c q hq
theorem isElt_noOwn {x : TV} (h : x.isElt = true) : x.isCell = true ∧ x.noOwn = true :=
  ⟨isElt_isCell h, by cases x <;> first | rfl | (rename_i tg _; cases tg <;> first | rfl | simp [TV.isElt] at h)⟩
/-- Cells of elements as cells of a box. -/
theorem flat_cells {m sz : Nat} (hz : 0 < sz) {l : List TV} (hw : okW sz l = true) {news : List Value} (hf : Flat w g m sz l news) {k : Nat} {x : TV} (hx : (flat l)[k]? = some x) : ∃ u, news[k]? = some u ∧ x.isCell = true ∧ VR w g m x u ∧ x.noOwn = true := by
  obtain ⟨f1, f2⟩ := flat_idx hz l hw
  obtain ⟨e, e1, e2⟩ := f2 k x hx
  have hk : k < l.length * sz := by rw [← f1]; exact (List.getElem?_eq_some_iff.1 hx).1
  obtain ⟨z1, u, z2, z3⟩ := hf.2 _ e _ x e1 e2
  rw [(idx_lt hk).2.2] at z2
  exact ⟨u, z2, (isElt_noOwn z1).1, z3, (isElt_noOwn z1).2⟩
/-- A fresh row: what stands at its beginning. -/
theorem Inv.freshRow (hI : Inv w g ow st a) {w' : World} {cs : List TV} {vs : Array Value} {ty : TypeId} (hh : w'.heap = w.heap.push (.cells vs ty (0, 0))) (e1 : w'.os = w.os) (e2 : w'.tape = w.tape) (e3 : w'.output = w.output) (h4 : cs.length ≤ vs.size)
    (h5 : ∀ (j : Nat) (x : TV) (u : Value), cs[j]? = some x → vs[j]? = some u → x.isCell = true ∧ VR w g st.h.length x u ∧ x.noOwn = true) {ag : Bool} {sz n c : Nat} (hc : n ≤ c) (hm : n ≤ 9223372036854775807) (hsz : c * sz = vs.size) (dst : Option Nat) (kk : Bool) :
    ∃ g' ow', Stp w g ow st.h.length w' g' ow' ∧ Inv w' g' ow' (({ v := .asl ag sz st.h.length 0 n, hw := some (st.h ++ [cs], kk) } : Dl).ap dst st) (a.put dst (.slice (some (at_ w.heap.size 0)) n c)) := by
  obtain ⟨hs, hI1⟩ := hI.mkBox (w' := w') hh e1 e2 e3 h4 (fun j x u hx hu => by
    obtain ⟨c1, c2, c3⟩ := h5 j x u hx hu
    exact ⟨c1, c2, owns_cell c1 c3⟩)
  refine ⟨_, _, hs, ?_⟩
  cases hdst : dst with
  | none => exact ⟨hI1.defers, hI1.len, hI1.slot, hI1.box, hI1.bd, hI1.base⟩
  | some i =>
    have hnu : (gBox g w.heap.size st.h.length).nu st.h.length = w.heap.size := by simp [gBox]
    have hp : VR w' (gBox g w.heap.size st.h.length) (st.h ++ [cs]).length (.asl ag sz st.h.length 0 n) (.slice (some (at_ ((gBox g w.heap.size st.h.length).nu st.h.length) 0)) n c) :=
      .asl _ _ _ _ _ _ (by simp) hc hm ⟨_, _, _, by rw [hnu]; exact row_push hh, by omega⟩
    rw [hnu] at hp
    have := hI1.put i rfl hp (owns_cell rfl rfl)
    exact ⟨this.defers, this.len, this.slot, this.box, this.bd, this.base⟩
theorem snd_apr {ag : Bool} {sz bytes : Nat} {x y : Src} {d : Dl} (hc : chkOp P o.op (.apr ag sz bytes x y) = true) (hI : Inv w g ow st a) {call : CallF} (hd : delta call st (.apr ag sz bytes x y) = some d) {Q : Exit → Act → World → Prop} :
    o.wp P a w (Nxt w g ow st.h.length (d.ap o.dst st)) Q := by
  cases hop : o.op <;> rw [hop] at hc <;> try (simp [chkOp] at hc; done)
  rename_i cl
  obtain ⟨cal, as, ts⟩ := cl
  cases cal <;> try (simp [chkOp] at hc; done)
  rename_i bu
  cases bu <;> simp only [chkOp] at hc <;> try (cases hc; done)
  split at hc
  · rename_i p q t u has hts
    obtain rfl : as = #[p, q] := Array.toList_inj.1 has
    obtain rfl : ts = #[t, u] := Array.toList_inj.1 hts
    simp only [Bool.and_eq_true] at hc
    obtain ⟨⟨⟨hce, c1⟩, c2⟩, c3⟩ := hc
    split at hce
    · rename_i e he
      have ht := elem_of he
      simp only [Bool.and_eq_true, decide_eq_true_eq] at hce
      obtain ⟨⟨⟨⟨hlay, hz⟩, hby⟩, hb0⟩, hzv⟩ := hce
      have hs := (lay_of hlay).1
      split at hzv
      · rename_i zv hze
        have hzs : zv.cells.size = sz := by simpa using hzv
        have hkind : (∃ e', P.underlying u = some (.slice e')) ∨ P.underlying u = some .string := by
          simp only [Bool.or_eq_true] at c3
          rcases c3 with c3 | c3
          · exact .inr (isStr_of c3)
          · obtain ⟨e', he'⟩ := some_of c3
            exact .inl ⟨e', elem_of he'⟩
        obtain ⟨ti, hi, hisz⟩ := info_of hs
        have hiby : ti.bytes = bytes := by unfold byOf at hby; rw [hi] at hby; simpa using hby
        have hiz : ti.zero = some zv := by unfold zeOf at hze; rw [hi] at hze; simpa using hze
        have hexec : ∀ (rv : Value) (w' : World), (Builtin.append_ #[t, u] o.type #[a.eval p, a.eval q]).run P w = .ok rv w' → (execOp a.eval o).run P w = .ok (.value rv) w' := by
          intro rv w' hr
          unfold execOp; rw [hop]
          simp [resolve, invoke, builtin, hr]
        -- a slice from another place, appended to: a new row
        have grow : ∀ (st1 : St) (ow1 : Ow) (A : Option Addr) (n c : Nat) (olds : List Value) (l2 : List TV) (news : List Value) (cs0 : List TV), Inv w g ow1 st1 a → Stp w g ow st.h.length w g ow1 → st1.h.length = st.h.length → a.eval p = .slice A n c → (Builtin.firstCells sz n (.slice A n c)).run P w.drew = .ok olds.toArray w.drew →
            olds.length = n * sz → cs0.length = n * sz → (∀ (j : Nat) (x : TV) (u : Value), cs0[j]? = some x → olds[j]? = some u → x.isCell = true ∧ VR w g st.h.length x u ∧ x.noOwn = true) →
            okW sz l2 = true → _root_.Go.Src P sz u (a.eval q) l2.length news w → Flat w g st.h.length sz l2 news → c < n + l2.length → (n + l2.length) * bytes ≤ roomB → n + l2.length ≤ roomB → ∀ kk,
            o.wp P a w (Nxt w g ow st.h.length (({ v := .asl ag sz st1.h.length 0 (n + l2.length), hw := some (st1.h ++ [cs0 ++ flat l2], kk) } : Dl).ap o.dst st1)) Q := by
          intro st1 ow1 A n c olds l2 news cs0 hI1 hst1 hlen1 hp hfirst hol hcl hcs0 hw2 hsrc hfl hgrow hb1 hb2 kk
          have h63 : ((n + l2.length : Nat) : Int) ≤ 9223372036854775807 := by unfold roomB at hb2; omega
          have hfit : Builtin.nextslicecap (n + l2.length) c * ti.bytes ≤ 281474976710656 := growslice_fits hgrow (by rw [hiby]; unfold roomB at hb1; exact hb1)
          have hsrc' : _root_.Go.Src P ti.size u (a.eval q) l2.length news w := by rw [hisz]; exact hsrc
          have hrun := run_append_grow_src (P := P) w t u o.type e ti zv ht hi hiz A n c olds (by rw [hisz]; exact hfirst) (a.eval q) l2.length news hsrc' hgrow h63 hfit
          rw [← hp] at hrun
          obtain ⟨nc, hnc⟩ : ∃ nc, nc = grownCap w (n + l2.length) c e := ⟨_, rfl⟩
          have hge := grownCap_ge w (n + l2.length) c e
          rw [← hnc] at hrun hge
          obtain ⟨cells, hcells⟩ : ∃ cells, cells = (olds ++ news).toArray ++ Builtin.zeroCells zv.cells (nc - (n + l2.length)) := ⟨_, rfl⟩
          rw [← hcells] at hrun
          have hnl : news.length = l2.length * sz := hfl.1
          have hsize : cells.size = nc * sz := by
            rw [hcells]
            simp only [Array.size_append, List.size_toArray, List.length_append, Builtin.zeroCells, Array.size_map, Array.size_range, hzs]
            rw [hol, hnl, ← Nat.add_mul, ← Nat.add_mul]
            congr 1; omega
          have hheap : (w.drew.alloc (.cells cells e)).heap = w.heap.push (.cells cells e) := rfl
          obtain ⟨f1, f2⟩ := flat_idx hz l2 hw2
          have hclen : (cs0 ++ flat l2).length = (n + l2.length) * sz := by rw [List.length_append, hcl, f1, Nat.add_mul]
          obtain ⟨g', ow', s1, s2⟩ := hI1.freshRow (w' := w.drew.alloc (.cells cells e)) (cs := cs0 ++ flat l2) (ag := ag) (sz := sz) (n := n + l2.length) (c := nc) hheap rfl rfl rfl (by rw [hclen, hsize]; exact Nat.mul_le_mul_right _ hge) (fun j x u hx hu => by
            rw [hlen1]
            rw [hcells] at hu
            have hjl : j < (n + l2.length) * sz := by rw [← hclen]; exact (List.getElem?_eq_some_iff.1 hx).1
            have hadd : (n + l2.length) * sz = n * sz + l2.length * sz := Nat.add_mul _ _ _
            rw [Array.getElem?_append_left (by simp [hol, hnl]; omega)] at hu
            simp only [List.getElem?_toArray] at hu
            rw [List.getElem?_append] at hx hu
            split at hx
            · rename_i hlt
              rw [if_pos (by omega)] at hu
              exact hcs0 j x u hx hu
            · rename_i hge2
              rw [if_neg (by omega)] at hu
              rw [hcl] at hx
              rw [hol] at hu
              obtain ⟨u', z1, z2, z3, z4⟩ := flat_cells hz hw2 hfl hx
              rw [z1] at hu
              obtain rfl := Option.some.inj hu
              exact ⟨z2, z3, z4⟩) hge (by unfold roomB at hb2; omega) hsize.symm o.dst kk
          refine wp_val (hexec _ _ hrun) ⟨g', ow', (hst1.trans (by rw [← hlen1]; exact s1) (Nat.le_refl _)), s2⟩
        simp only [delta] at hd
        split at hd
        · rename_i is l2 e1 e2
          split at hd
          · rename_i hcond
            obtain ⟨k1, k3, k4⟩ := hcond
            obtain ⟨news, f1, f2⟩ := src_spec (P := P) hI hkind c2 e2 k1 hz
            obtain ⟨v1, v2, v3⟩ := tak_spec hI c1 e1
            generalize hq : a.eval p = rp at v1 v3
            cases v1 with
            | nils A hA =>
            split at hd
            · rename_i hl0
              obtain rfl := Option.some.inj hd
              have hl2 : l2 = [] := List.eq_nil_of_length_eq_zero hl0
              subst hl2
              have hnews : news = [] := List.eq_nil_of_length_eq_zero (by rw [f2.1]; simp)
              subst hnews
              have hsrc' : _root_.Go.Src P ti.size u (a.eval q) ([] : List TV).length [] w := by rw [hisz]; exact f1
              have hrun := run_append_nothing (P := P) w t u o.type e ti ht hi A 0 0 (Nat.le_refl _) (a.eval q) hsrc'
              rw [← hq] at hrun
              refine wp_val (hexec _ _ hrun) ?_
              rw [hq]
              exact hI.apT o.dst (.nils A hA) rfl v3
            · rename_i hl0
              obtain rfl := Option.some.inj hd
              obtain ⟨ow1, h1, h2, _⟩ := hI.aside v2 v3
              have hcap : (0 : Nat) < 0 + l2.length := by omega
              have := grow { st with t := downs is st.t } ow1 A 0 0 [] l2 news [] h1 h2 rfl hq (by
                cases A with
                | none => exact run_firstCells_none w.drew sz 0 0 0
                | some ad => exact run_firstCells_some w.drew sz 0 ad 0 0 [] (by simp) (by simp)) (by simp) (by simp) (by simp) k1 f1 f2 hcap (by simpa using k3) (by simpa using k4) st.keep
              simp only [Nat.zero_add, List.nil_append] at this
              exact this
          · cases hd
        · rename_i ag0 s b off n is l2 e1 e2
          split at hd
          · rename_i cs hcs
            split at hd
            · rename_i hcond
              obtain ⟨rfl, rfl, hncs, k1, k3, k4⟩ := hcond
              obtain ⟨hb1, hb2⟩ := live_some hcs
              obtain ⟨news, f1, f2⟩ := src_spec (P := P) hI hkind c2 e2 k1 hz
              obtain ⟨v1, v2, v3⟩ := tak_spec hI c1 e1
              obtain ⟨ow1, h1, h2, _⟩ := hI.aside v2 v3
              obtain ⟨row, ty0, fr0, r1, r2, r3, r4, r5, r6⟩ := h1.box b cs hb1 hb2
              have hblt : b < st.h.length := (List.getElem?_eq_some_iff.1 hb1).1
              generalize hq : a.eval p = rp at v1 v3
              have v1' := v1
              cases v1 with
              | asl _ _ _ _ _ c hi2 hcn hmm hrow =>
              obtain ⟨row', ty1, fr1, r1', r2'⟩ := hrow
              have hrr : row' = row := by unfold RowOf at r1 r1'; rw [r1] at r1'; simp at r1'; exact r1'.1.symm
              subst hrr
              have hcsz : c * s = row'.size := by omega
              split at hd
              · rename_i hl0
                obtain rfl := Option.some.inj hd
                have hl2 : l2 = [] := List.eq_nil_of_length_eq_zero hl0
                subst hl2
                have hnews : news = [] := List.eq_nil_of_length_eq_zero (by rw [f2.1]; simp)
                subst hnews
                have hsrc' : _root_.Go.Src P ti.size u (a.eval q) ([] : List TV).length [] w := by rw [hisz]; exact f1
                have hrun := run_append_nothing (P := P) w t u o.type e ti ht hi (some (at_ (g.nu b) 0)) n c hcn (a.eval q) hsrc'
                rw [← hq] at hrun
                refine wp_val (hexec _ _ hrun) ?_
                rw [hq]
                exact ⟨g, ow1, h2, by
                  have hv : VR w g st.h.length (.asl ag s b 0 n) (.slice (some (at_ (g.nu b) 0)) n c) := .asl _ _ _ _ _ _ hi2 hcn hmm ⟨_, _, _, r1, r2'⟩
                  cases hdst : o.dst with
                  | none => exact ⟨h1.defers, h1.len, h1.slot, h1.box, h1.bd, h1.base⟩
                  | some i =>
                    have := h1.put i (x := .asl ag s b 0 n) rfl hv (owns_cell rfl rfl)
                    exact ⟨this.defers, this.len, this.slot, this.box, this.bd, this.base⟩⟩
              · rename_i hl0
                obtain ⟨fl1, fl2⟩ := flat_idx hz l2 k1
                have hnl : news.length = l2.length * s := f2.1
                have hadd : (n + l2.length) * s = n * s + l2.length * s := Nat.add_mul _ _ _
                have room : n + l2.length ≤ c → (Builtin.append_ #[t, u] o.type #[a.eval p, a.eval q]).run P w = .ok (.slice (some (at_ (g.nu b) 0)) (n + l2.length) c) (w.setCells (g.nu b) (n * s) news) := by
                  intro hroom
                  have hle : (n + l2.length) * s ≤ c * s := Nat.mul_le_mul_right _ hroom
                  have hsrc' : _root_.Go.Src P ti.size u (a.eval q) l2.length news w := by rw [hisz]; exact f1
                  have hrun := run_append_room_src (P := P) w t u o.type e ti ht hi (g.nu b) 0 n c (a.eval q) l2.length news hsrc' hroom (fun j hj => by
                    rw [hisz, show (⟨g.nu b, 0 + n * s + j, none⟩ : Addr) = at_ (g.nu b) (0 + n * s + j) from rfl, cell_of_row r1]
                    simp; omega) (fun j hj => by
                    rw [hisz]
                    exact NF_frozen r1 r3 (by omega))
                  rw [hisz, Nat.zero_add] at hrun
                  rw [hq]
                  exact hrun
                split at hd
                · rename_i hfit
                  obtain rfl := Option.some.inj hd
                  have hroom : n + l2.length ≤ c := by
                    have : (n + l2.length) * s ≤ c * s := by omega
                    exact Nat.le_of_mul_le_mul_right this hz
                  obtain ⟨hstp, hinv⟩ := h1.wrH (i := b) (off := n * s) (cs := cs) (us := flat l2) (vs := news) hb1 hb2 (by rw [fl1]; omega) (by rw [fl1, hnl]) (fun j x u hx hu => by
                    obtain ⟨u', z1, z2, z3, z4⟩ := flat_cells hz k1 f2 hx
                    rw [z1] at hu
                    obtain rfl := Option.some.inj hu
                    exact ⟨z2, z3, owns_cell z2 z4⟩) (keeps st b l2)
                  refine wp_val (hexec _ _ (room hroom)) ⟨g, ow1, h2.trans hstp (Nat.le_refl _), ?_⟩
                  obtain ⟨vs', q1, q2, _⟩ := setCells_row news (n * s) w row' ty0 fr0 r1 (by omega)
                  have hv : VR (w.setCells (g.nu b) (n * s) news) g st.h.length (.asl ag s b 0 (n + l2.length)) (.slice (some (at_ (g.nu b) 0)) (n + l2.length) c) := .asl _ _ _ _ _ _ hi2 hroom (by unfold roomB at k4; omega) ⟨_, _, _, q1, by omega⟩
                  cases hdst : o.dst with
                  | none => exact ⟨hinv.defers, hinv.len, hinv.slot, hinv.box, hinv.bd, hinv.base⟩
                  | some i =>
                    have := hinv.put i (x := .asl ag s b 0 (n + l2.length)) rfl (by simpa using hv) (owns_cell rfl rfl)
                    exact ⟨this.defers, this.len, this.slot, this.box, this.bd, this.base⟩
                · rename_i hfit
                  obtain rfl := Option.some.inj hd
                  have hold : ∀ (j : Nat) (x : TV), ((cs.take (n * s)).map TV.shr0)[j]? = some x → j < n * s ∧ ∃ y, cs[j]? = some y ∧ x = y.shr0 := by
                    intro j x hx
                    obtain ⟨y, hy, rfl⟩ := getElem?_map_some hx
                    have hj : j < n * s := by have := (List.getElem?_eq_some_iff.1 hy).1; simp at this; omega
                    rw [List.getElem?_take, if_pos hj] at hy
                    exact ⟨hj, y, hy, rfl⟩
                  by_cases hroom : n + l2.length ≤ c
                  · -- the block goes over to the new box
                    have hle : (n + l2.length) * s ≤ c * s := Nat.mul_le_mul_right _ hroom
                    have hstp := Stp.write (m := st.h.length) h1.bd r5 (by simp) r1 (k := n * s) (us := news) (by omega) (by omega) 0 (.inl r4.symm)
                    rw [gSame r4] at hstp
                    have hk1 := h1.killBox b
                    have hinv1 : Inv (w.setCells (g.nu b) (n * s) news) g ow1 { st with t := downs is st.t, h := st.h.set b [.tup []] } a := by
                      have hoth : ∀ (c : Nat) (q : List Nat), ow1 c = some q → q ≠ [1, b] → (w.setCells (g.nu b) (n * s) news).heap[c]? = w.heap[c]? := by
                        intro c q hcq hne
                        refine setCells_other ?_ _ _ _
                        rintro rfl
                        rw [r5] at hcq
                        exact hne (Option.some.inj hcq).symm
                      have hlen2 : (st.h.set b [.tup []]).length = st.h.length := by simp
                      refine ⟨h1.defers, h1.len, fun j => ?_, fun k ds hk => ?_, fun c q hq => by rw [(setCells_same _ _ _).2.2.2]; exact h1.bd c q hq, by have := h1.base; simpa using this⟩
                      · have hj := hk1.slot j
                        have hkk : ∀ c p, ow1 c = some ([0, j] ++ p) → (w.setCells (g.nu b) (n * s) news).heap[c]? = w.heap[c]? ∧ g.imm c = g.imm c ∧ ow1 c = ow1 c := fun c p hcp => ⟨hoth c _ hcp (by simp), rfl, rfl⟩
                        have hS : Stp w g ow1 (st.h.set b [.tup []]).length (w.setCells (g.nu b) (n * s) news) g ow1 := by rw [hlen2]; exact hstp
                        show SlotR _ g (st.h.set b [.tup []]).length ow1 (downs is st.t) a.tmps j (sl (downs is st.t) j) _
                        change SlotR w g (st.h.set b [.tup []]).length ow1 (downs is st.t) a.tmps j (sl (downs is st.t) j) _ at hj
                        generalize sl (downs is st.t) j = y at hj ⊢
                        cases y <;> first | exact ⟨hj.1.mono hS (Nat.le_refl _), hj.2.mono hkk⟩ | skip
                        case lbox ds =>
                          obtain ⟨k3, e3, e4⟩ := hj
                          exact ⟨k3, e3, e4.mono hS (Nat.le_refl _) hkk⟩
                        case lp b2 off2 => exact hj
                      · show BoxD _ g (st.h.set b [.tup []]).length ow1 [1, k] ds (g.nu k)
                        have hk' : (st.h.set b [.tup []])[k]? = some ds := hk
                        rw [List.getElem?_set] at hk'
                        split at hk'
                        · first
                            | (obtain rfl := Option.some.inj hk'; intro hdd; cases hdd)
                            | (split at hk' <;> first | (obtain rfl := Option.some.inj hk'; intro hdd; cases hdd) | cases hk')
                        · rename_i hik
                          rw [hlen2]
                          exact (h1.box k ds hk').mono hstp (Nat.le_refl _) (fun c p hcp => ⟨hoth c _ hcp (by simp; intro h; exact absurd h.symm hik), rfl, rfl⟩)
                    obtain ⟨vs', q1, q2, q3⟩ := setCells_row news (n * s) w row' ty0 fr0 r1 (by omega)
                    have hcl : ((cs.take (n * s)).map TV.shr0).length = n * s := by simp; omega
                    obtain ⟨hs3, hinv3⟩ := hinv1.adopt (m := st.h.length) (by simp) (b := b) (B := g.nu b) r5 (fun ds hds => by
                      have hds' : (st.h.set b [.tup []])[b]? = some ds := hds
                      rw [List.getElem?_set, if_pos rfl] at hds'
                      first
                        | (obtain rfl := Option.some.inj hds'; rfl)
                        | (split at hds' <;> first | (obtain rfl := Option.some.inj hds'; rfl) | cases hds')) (cs := (cs.take (n * s)).map TV.shr0 ++ flat l2) q1 (by rw [List.length_append, hcl, fl1, q2]; omega) (by rw [q2]; exact r3) r4 (fun j x u hx hu => by
                      rw [q3] at hu
                      rw [List.getElem?_append] at hx
                      split at hx
                      · rename_i hlt
                        rw [hcl] at hlt
                        rw [if_neg (by omega)] at hu
                        obtain ⟨hj, y, hy, rfl⟩ := hold j x hx
                        obtain ⟨z1, z2, z3⟩ := r6 j y u hy hu
                        exact ⟨by rw [shr0_isCell]; exact z1, (z2.mono hstp (Nat.le_refl _)).shr0, shr0_noOwn y⟩
                      · rename_i hge
                        rw [hcl] at hge hx
                        have hjl : j - n * s < l2.length * s := by rw [← fl1]; exact (List.getElem?_eq_some_iff.1 hx).1
                        rw [if_pos (by omega)] at hu
                        obtain ⟨u', z1, z2, z3, z4⟩ := flat_cells hz k1 f2 hx
                        rw [z1] at hu
                        obtain rfl := Option.some.inj hu
                        exact ⟨z2, z3.mono hstp (Nat.le_refl _), z4⟩)
                    have hlen2 : (st.h.set b [.tup []]).length = st.h.length := by simp
                    refine wp_val (hexec _ _ (room hroom)) ⟨_, _, (h2.trans hstp (Nat.le_refl _)).trans hs3 (Nat.le_refl _), ?_⟩
                    have hv : VR (w.setCells (g.nu b) (n * s) news) ⟨g.imm, fun i => if i = st.h.length then g.nu b else g.nu i⟩ (st.h.set b [.tup []] ++ [(cs.take (n * s)).map TV.shr0 ++ flat l2]).length (.asl ag s st.h.length 0 (n + l2.length)) (.slice (some (at_ ((fun i => if i = st.h.length then g.nu b else g.nu i) st.h.length) 0)) (n + l2.length) c) :=
                      .asl _ _ _ _ _ _ (by simp) hroom (by unfold roomB at k4; omega) ⟨vs', ty0, fr0, by simpa using q1, by omega⟩
                    simp only [if_true] at hv
                    cases hdst : o.dst with
                    | none =>
                      exact ⟨hinv3.defers, hinv3.len, hinv3.slot, hinv3.box, hinv3.bd, hinv3.base⟩
                    | some i =>
                      have := hinv3.put i (x := .asl ag s st.h.length 0 (n + l2.length)) (v := .slice (some (at_ (g.nu b) 0)) (n + l2.length) c) rfl hv (owns_cell rfl rfl)
                      exact ⟨this.defers, this.len, this.slot, this.box, this.bd, this.base⟩
                  · -- a new block
                    have hfc := run_firstCells_some (P := P) w.drew s n (at_ (g.nu b) 0) n c (row'.toList.take (n * s)) (by simp; omega) (fun j v hj => by
                      rw [at_add]
                      have hjl : j < n * s := by have := (List.getElem?_eq_some_iff.1 hj).1; simp at this; omega
                      rw [List.getElem?_take, if_pos hjl] at hj
                      have := cell_of_row (o := 0 + j) r1
                      have e5 : w.drew.cell? (at_ (g.nu b) (0 + j)) = w.cell? (at_ (g.nu b) (0 + j)) := rfl
                      rw [e5, this]
                      simpa using hj)
                    have := grow { st with t := downs is st.t, h := st.h.set b [.tup []] } ow1 (some (at_ (g.nu b) 0)) n c (row'.toList.take (n * s)) l2 news ((cs.take (n * s)).map TV.shr0) (h1.killBox b) h2 (by simp) hq hfc (by simp; omega) (by simp; omega) (fun j x u hx hu => by
                      obtain ⟨hj, y, hy, rfl⟩ := hold j x hx
                      rw [List.getElem?_take, if_pos hj] at hu
                      obtain ⟨z1, z2, z3⟩ := r6 j y u hy (by simpa using hu)
                      exact ⟨by rw [shr0_isCell]; exact z1, z2.shr0, shr0_noOwn y⟩) k1 f1 f2 (by omega) k3 k4 st.keep
                    simp only [List.length_set] at this
                    exact this
            · cases hd
          · cases hd
        · cases hd
      · cases hzv
    · cases hce
  · cases hc
end
end Go.T
