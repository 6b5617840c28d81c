/- Operations of the small machine that write. -/
import Derived.Test.YtlcnhdbedgpbiaaOTOps7
set_option linter.unusedVariables false
set_option linter.unusedSimpArgs false
set_option maxRecDepth 10000
namespace Go.T
section
variable {P : Program} {w : World} {g : Gh} {ow : Ow} {st : St} {a : Act} {o : Oper} {dst : Option Nat}
theorem setCell_row {b o : Nat} {vs : Array Value} {ty : TypeId} {fr : Nat × Nat} (h : RowOf w b vs ty fr) (v : Value) : RowOf (w.setCell (at_ b o) v) b (vs.setIfInBounds o v) ty fr := by
  unfold RowOf at *
  simp [World.setCell, Array.getElem?_modify, h]
theorem setCell_other {b o : Nat} (v : Value) {c : Nat} (h : c ≠ b) : (w.setCell (at_ b o) v).heap[c]? = w.heap[c]? := by
  simp only [World.setCell, Array.getElem?_modify]
  rw [if_neg (fun e => h e.symm)]
theorem setCells_row {b : Nat} : ∀ (us : List Value) (o : Nat) (w : World) (vs : Array Value) (ty : TypeId) (fr : Nat × Nat), RowOf w b vs ty fr → o + us.length ≤ vs.size →
    ∃ vs', RowOf (w.setCells b o us) b vs' ty fr ∧ vs'.size = vs.size ∧ ∀ j, vs'[j]? = if o ≤ j ∧ j < o + us.length then us[j - o]? else vs[j]? := by
  intro us
  induction us with
  | nil =>
    intro o w vs ty fr h hl
    refine ⟨vs, h, rfl, fun j => ?_⟩
    rw [if_neg (by simp only [List.length_nil]; omega)]
  | cons u us ih =>
    intro o w vs ty fr h hl
    simp at hl
    obtain ⟨vs', h1, h2, h3⟩ := ih (o + 1) _ _ _ _ (setCell_row (o := o) h u) (by simp; omega)
    refine ⟨vs', h1, by simpa using h2, fun j => ?_⟩
    rw [h3, Array.getElem?_setIfInBounds]
    by_cases hj : j = o
    · subst hj
      have hlt : j < vs.size := by omega
      rw [if_neg (by omega)]
      simp [hlt]
    · by_cases hj2 : o + 1 ≤ j ∧ j < o + 1 + us.length
      · rw [if_pos hj2, if_pos ⟨by omega, by simp; omega⟩]
        rw [show j - o = (j - (o + 1)) + 1 by omega]
        simp
      · rw [if_neg hj2, if_neg (by omega), if_neg (by simp; omega)]
theorem setCells_other {b c : Nat} (h : c ≠ b) : ∀ (us : List Value) (o : Nat) (w : World), (w.setCells b o us).heap[c]? = w.heap[c]? := by
  intro us
  induction us with
  | nil => intro o w; rfl
  | cons u us ih =>
    intro o w
    rw [World.setCells, ih]
    exact setCell_other u h
theorem setCells_same {b : Nat} : ∀ (us : List Value) (o : Nat) (w : World), (w.setCells b o us).os = w.os ∧ (w.setCells b o us).tape = w.tape ∧ (w.setCells b o us).output = w.output ∧ (w.setCells b o us).heap.size = w.heap.size := by
  intro us
  induction us with
  | nil => intro o w; exact ⟨rfl, rfl, rfl, rfl⟩
  | cons u us ih =>
    intro o w
    rw [World.setCells]
    obtain ⟨h1, h2, h3, h4⟩ := ih (o + 1) (w.setCell (at_ b o) u)
    refine ⟨h1, h2, h3, h4.trans ?_⟩
    simp [World.setCell]
theorem NF_frozen {b o : Nat} {vs : Array Value} {ty : TypeId} {fr : Nat × Nat} (h : RowOf w b vs ty fr) (hf : NF fr vs.size) (ho : o < vs.size) : w.frozen? (at_ b o) = false := by
  unfold RowOf at h
  obtain ⟨lo, hi⟩ := fr
  simp only [World.frozen?, h]
  unfold NF at hf
  simp at hf ⊢
  omega
theorem VR.oneCell {m : Nat} {x : TV} {u : Value} (h : VR w g m x u) (hc : x.isCell = true) : u.oneCell' = true := by
  cases h <;> first | rfl | simp [TV.isCell] at hc
/-- Cells written in a block of the frame's own. -/
theorem Stp.write {m : Nat} {b : Nat} {q : List Nat} (hbd : ∀ b q, ow b = some q → b < w.heap.size) (ho : ow b = some q) (hq : q.head? ≠ some 2) {vs : Array Value} {ty : TypeId} {fr : Nat × Nat} (hr : RowOf w b vs ty fr) {k : Nat} {us : List Value} (hl : k + us.length ≤ vs.size)
    (hi : g.imm b ≤ k) (k2 : Nat) (hk2 : k2 = g.imm b ∨ (g.imm b ≤ k2)) : Stp w g ow m (w.setCells b k us) { g with imm := fun c => if c = b then k2 else g.imm c } ow := by
  obtain ⟨s1, s2, s3, s4⟩ := setCells_same (b := b) us k w
  obtain ⟨vs', r1, r2, r3⟩ := setCells_row us k w vs ty fr hr hl
  refine ⟨s1, s2, s3, by rw [s4]; exact Nat.le_refl _, fun c off hc hoff => ?_, fun c hc => ?_, fun _ _ => rfl, fun c vs2 ty2 fr2 h2 => ?_, fun c hc hf => ?_, fun c p hp => ⟨hbd c _ hp, hp⟩⟩
  · by_cases hcb : c = b
    · subst hcb
      rw [cell_of_row r1, cell_of_row hr, r3, if_neg (by omega)]
    · simp only [World.cell?, setCells_other hcb us k w]
  · show g.imm c ≤ if c = b then k2 else g.imm c
    split
    · rename_i h; subst h; omega
    · exact Nat.le_refl _
  · by_cases hcb : c = b
    · subst hcb
      have : some (Obj.cells vs ty fr) = some (Obj.cells vs2 ty2 fr2) := by rw [← hr, ← h2]
      simp at this
      obtain ⟨rfl, rfl, rfl⟩ := this
      exact ⟨vs', _, r1, r2⟩
    · exact ⟨vs2, fr2, by unfold RowOf at *; rw [setCells_other hcb us k w]; exact h2, rfl⟩
  · have hcb : c ≠ b := by
      rintro rfl
      rcases hf with hf | ⟨r, hf⟩
      · rw [ho] at hf; cases hf
      · rw [ho] at hf; simp at hf; subst hf; simp at hq
    exact ⟨setCells_other hcb us k w, by simp [hcb], rfl⟩
theorem downs_keep {is : List Nat} {t : List TV} {j : Nat} (h : ∀ i ∈ is, i ≠ j) : sl (downs is t) j = sl t j := by
  induction is generalizing t with
  | nil => rfl
  | cons i is ih =>
    show sl (downs is (t.set i (sl t i).shrT)) j = sl t j
    rw [ih (fun k hk => h k (List.mem_cons_of_mem _ hk)), sl_set, if_neg (fun e => h i (by simp) e.1)]
theorem tak_slots {t : List TV} {tk : Bool} {x : Src} {v : TV} {is : List Nat} (h : tak t tk x = some (v, is)) : ∀ i ∈ is, plainV (sl t i) = true := by
  cases x with
  | c v' => cases tk <;> simp [tak] at h <;> (obtain ⟨_, rfl⟩ := h; simp)
  | s i =>
    obtain ⟨hp, ⟨_, rfl, _⟩ | ⟨_, rfl, _⟩⟩ := tak_s h
    · simpa using hp
    · simp
theorem run_st {t : TypeId} {n : Nat} (hn : szOf P t = some n) {b k : Nat} {v : Value} (hv : v.cells.size = n) {vs : Array Value} {ty : TypeId} {fr : Nat × Nat} (hr : RowOf w b vs ty fr) (hf : NF fr vs.size) (hl : k + v.cells.toList.length ≤ vs.size)
    (h1 : ∀ u ∈ v.cells.toList, u.oneCell' = true) : (Instr.storeAt t (.pointer (some (at_ b k))) v).run P w = .ok () (w.setCells b k v.cells.toList) := by
  obtain ⟨ti, h2, h3⟩ := info_of hn
  have := run_storeCells_cells (P := P) b k v.cells.toList 0 w (fun j hj => by
      rw [show (⟨b, k + 0 + j, none⟩ : Addr) = at_ b (k + j) by simp, cell_of_row hr]
      simp; omega) (fun j hj => by
      rw [show (⟨b, k + 0 + j, none⟩ : Addr) = at_ b (k + j) by simp]
      exact NF_frozen hr hf (by omega)) h1
  simp only [Nat.add_zero] at this
  have hne : v.cells.size = ti.size := by omega
  simp [Instr.storeAt, Instr.sureAddr, storeVar, sizeOf, typeInfo, h2, hne, this]
/-- A box's cells, some of them new. -/
theorem BoxR.wr {m : Nat} {q : List Nat} {cs us : List TV} {b k : Nat} {vs : List Value} (h : BoxR w g m ow q cs b) (hl : k + us.length ≤ cs.length) (hlen : us.length = vs.length) {g' : Gh} (hs : Stp w g ow m (w.setCells b k vs) g' ow) (hg : g'.imm b = 0)
    (hgo : ∀ c, c ≠ b → g'.imm c = g.imm c) (hc : ∀ (j : Nat) (x : TV) (u : Value), us[j]? = some x → vs[j]? = some u → x.isCell = true ∧ VR w g m x u ∧ Owns w g ow (q ++ [k + j]) x u) : BoxR (w.setCells b k vs) g' m ow q (splice cs k us) b := by
  obtain ⟨rs, ty, fr, r1, r2, r3, r4, r5, r6⟩ := h
  obtain ⟨rs', s1, s2, s3⟩ := setCells_row vs k w rs ty fr r1 (by omega)
  have hmv : ∀ (j : Nat) (x : TV) (u : Value), Owns w g ow (q ++ [j]) x u → Owns (w.setCells b k vs) g' ow (q ++ [j]) x u := by
    intro j x u ho
    refine ho.mono (fun c p hcp => ?_)
    have hcb : c ≠ b := by
      rintro rfl
      rw [r5] at hcp
      simp at hcp
    exact ⟨setCells_other hcb vs k w, hgo c hcb, rfl⟩
  refine ⟨rs', ty, fr, s1, by rw [splice_len hl, s2]; exact r2, by rw [s2]; exact r3, hg, r5, fun j x u hx hu => ?_⟩
  rw [splice_get hl] at hx
  rw [s3, ← hlen] at hu
  split at hx
  · rename_i hj
    rw [if_pos hj] at hu
    obtain ⟨c1, c2, c3⟩ := hc _ x u hx hu
    refine ⟨c1, c2.mono hs (Nat.le_refl _), hmv _ _ _ ?_⟩
    rw [show k + (j - k) = j by omega] at c3
    exact c3
  · rename_i hj
    rw [if_neg hj] at hu
    obtain ⟨c1, c2, c3⟩ := r6 _ x u hx hu
    exact ⟨c1, c2.mono hs (Nat.le_refl _), hmv _ _ _ c3⟩
theorem snd_stl {tk : Bool} {n b : Nat} {p x : Src} {d : Dl} (hc : chkOp P o.op (.stl tk n b p x) = true) (hI : Inv w g ow st a) {call : CallF} (hd : delta call st (.stl tk n b p x) = some d) {Q : Exit → Act → World → Prop} :
    o.wp P a w (Nxt w g ow st.h.length (d.ap o.dst st)) Q := by
  cases hop : o.op <;> rw [hop] at hc <;> try (simp [chkOp] at hc; done)
  rename_i t y z
  simp [chkOp] at hc
  obtain ⟨⟨hn, c1⟩, c2⟩ := hc
  simp only [delta] at hd
  split at hd
  · rename_i b' off v is e ht
    split at hd
    · rename_i hcond
      obtain ⟨rfl, hvn, hok⟩ := hcond
      split at hd
      · rename_i cs hb
        split at hd
        · rename_i hle
          obtain rfl := Option.some.inj hd
          obtain ⟨k, k1, k2⟩ := (ad_spec hI c1).2.2.2 _ _ e cs hb
          obtain ⟨ow1, h1, h2, h3, h4, h5⟩ := tak_cells hI c2 ht hok 0 [b'] off (by decide)
          have hpl := tak_slots ht
          have hkeep : sl (downs is st.t) b' = .lbox cs := by
            rw [downs_keep (fun i hi hib => by subst hib; have := hpl i hi; rw [hb] at this; simp [plainV] at this)]
            exact hb
          have hsb := h1.slot b'
          rw [show ({ st with t := downs is st.t } : St).t = downs is st.t from rfl, hkeep] at hsb
          obtain ⟨k', e1, hbox⟩ := hsb
          obtain rfl : k = k' := by rw [k1] at e1; simpa using e1
          have hbox' := hbox
          obtain ⟨rs, ty, fr, r1, r2, r3, r4, r5, r6⟩ := hbox
          have hsz : (a.eval z).cells.toList.length = n := by rw [Array.length_toList]; omega
          have hone : ∀ u ∈ (a.eval z).cells.toList, u.oneCell' = true := by
            intro u hu
            obtain ⟨j, hj⟩ := List.getElem?_of_mem hu
            have hj' : (a.eval z).cells[j]? = some u := by simpa using hj
            have hlt : j < v.cells.length := by rw [h4]; exact (Array.getElem?_eq_some_iff.1 hj').1
            obtain ⟨z1, z2, _⟩ := h5 j v.cells[j] u (by simp [hlt]) hj'
            exact z2.oneCell z1
          have hrun := run_st (P := P) (w := w) hn (b := k) (k := off) (v := a.eval z) (by omega) r1 r3 (by omega) hone
          refine wp_skp (w' := w.setCells k off (a.eval z).cells.toList) ?_ ?_
          · unfold execOp; rw [hop]
            simp only [k2, Sem.run_bind, hrun, Result.andThen_ok]; rfl
          · have hs := Stp.write (m := st.h.length) h1.bd r5 (by simp) r1 (k := off) (us := (a.eval z).cells.toList) (by omega) (by omega) 0 (.inl r4.symm)
            have hg : ({ g with imm := fun c => if c = k then 0 else g.imm c } : Gh) = g := by
              have : (fun c => if c = k then 0 else g.imm c) = g.imm := by
                funext c; split
                · rename_i h; rw [h, r4]
                · rfl
              rw [this]
            rw [hg] at hs
            have hwr := hbox'.wr (us := v.cells) (vs := (a.eval z).cells.toList) (k := off) (by omega) (by rw [h4, Array.length_toList]) hs r4 (fun _ _ => rfl) (fun j x u hx hu => h5 j x u hx (by simpa using hu))
            refine ⟨g, ow1, h2.trans hs (Nat.le_refl _), ?_⟩
            -- the others
            have hoth : ∀ (c : Nat) (q p : List Nat), ow1 c = some (q ++ p) → (q ++ p) ≠ [0, b'] → (w.setCells k off (a.eval z).cells.toList).heap[c]? = w.heap[c]? := by
              intro c q p hcp hne
              refine setCells_other ?_ _ _ _
              rintro rfl
              rw [r5] at hcp
              exact hne (Option.some.inj hcp).symm
            have hlb : b' < st.t.length := by
              rcases Nat.lt_or_ge b' st.t.length with h | h
              · exact h
              · simp [sl, List.getElem?_eq_none h] at hb
            have hdl : (downs is st.t).length = st.t.length := by simpa using h1.len.trans hI.len.symm
            have hres : Inv (w.setCells k off (a.eval z).cells.toList) g ow1 { st with t := (downs is st.t).set b' (.lbox (splice cs off v.cells)) } a := by
              refine ⟨h1.defers, by simpa using h1.len, fun j => ?_, fun i ds hi => ?_, fun c q hq => by rw [(setCells_same _ _ _).2.2.2]; exact h1.bd c q hq, h1.base⟩
              · rw [sl_set, hdl]
                by_cases hbj : b' = j
                · subst hbj
                  rw [if_pos ⟨rfl, hlb⟩]
                  exact ⟨k, e1, hwr⟩
                · rw [if_neg (fun h => hbj h.1)]
                  have hj := h1.slot j
                  have hne : ∀ p, [0, j] ++ p ≠ [0, b'] := fun p h => by simp at h; exact hbj h.1.symm
                  have hkk : ∀ c p, ow1 c = some ([0, j] ++ p) → (w.setCells k off (a.eval z).cells.toList).heap[c]? = w.heap[c]? ∧ g.imm c = g.imm c ∧ ow1 c = ow1 c := fun c p hcp => ⟨hoth c _ p hcp (hne p), rfl, rfl⟩
                  show SlotR _ g _ ow1 _ a.tmps j (sl (downs is st.t) j) _
                  have hj' : SlotR w g st.h.length ow1 (downs is st.t) a.tmps j (sl (downs is st.t) j) (a.tmps.getD j undef) := hj
                  generalize sl (downs is st.t) j = y at hj' ⊢
                  cases y <;> first | exact ⟨hj'.1.mono hs (Nat.le_refl _), hj'.2.mono hkk⟩ | skip
                  case lbox ds =>
                    obtain ⟨k3, e3, e4⟩ := hj'
                    exact ⟨k3, e3, e4.mono hs (Nat.le_refl _) hkk⟩
                  case lp b2 off2 =>
                    intro ds hds
                    by_cases hbb : b' = b2
                    · subst hbb; exact hj' cs hkeep
                    · rw [sl_set, if_neg (fun h => hbb h.1)] at hds
                      exact hj' ds hds
              · have hbi := h1.box i ds hi
                exact hbi.mono hs (Nat.le_refl _) (fun c p hcp => ⟨hoth c _ p hcp (by simp), rfl, rfl⟩)
            cases hdst : o.dst with
            | none => exact ⟨hres.defers, hres.len, hres.slot, hres.box, hres.bd, hres.base⟩
            | some i => exact hres.put i (x := .tup []) (v := undef) rfl (.tup [] #[] rfl (by simp) (by simp)) (by intro p sz s l A n' c hs'; cases hs'; rename_i hx hv h; simp at hx)
        · cases hd
      · cases hd
    · cases hd
  · cases hd
end
end Go.T
