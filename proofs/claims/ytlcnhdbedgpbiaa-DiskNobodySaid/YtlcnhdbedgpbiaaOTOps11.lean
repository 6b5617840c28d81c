/- Operations of the small machine: append. -/
import Derived.Test.YtlcnhdbedgpbiaaOTOps10
import Derived.Deep.Upon
set_option linter.unusedVariables false
set_option linter.unusedSimpArgs false
set_option maxRecDepth 10000
namespace Go.T
section
variable {P : Program} {w : World} {g : Gh} {ow : Ow} {st : St} {a : Act} {o : Oper} {dst : Option Nat}
/-- Cells of elements, one behind the other. -/
def Flat (w : World) (g : Gh) (m : Nat) (sz : Nat) (l : List TV) (news : List Value) : Prop :=
  news.length = l.length * sz ∧ ∀ (i : Nat) (e : TV) (j : Nat) (x : TV), l[i]? = some e → e.cells[j]? = some x → x.isElt = true ∧ ∃ u, news[i * sz + j]? = some u ∧ VR w g m x u
theorem idx_lt {n sz k : Nat} (h : k < n * sz) : k / sz < n ∧ k % sz < sz ∧ k / sz * sz + k % sz = k := by
  have hs : 0 < sz := by
    rcases Nat.eq_zero_or_pos sz with h0 | h0
    · subst h0; simp at h
    · exact h0
  refine ⟨Nat.div_lt_of_lt_mul (by rw [Nat.mul_comm]; exact h), Nat.mod_lt _ hs, ?_⟩
  rw [Nat.mul_comm]; exact Nat.div_add_mod k sz
theorem Flat.one {m sz : Nat} {l : List TV} {news : List Value} (h : Flat w g m sz l news) (hw : okW sz l = true) : ∀ u ∈ news, u.oneCell' = true := by
  intro u hu
  obtain ⟨k, hk⟩ := List.getElem?_of_mem hu
  have hlt : k < l.length * sz := by rw [← h.1]; exact (List.getElem?_eq_some_iff.1 hk).1
  obtain ⟨h1, h2, h3⟩ := idx_lt hlt
  have he : l[k / sz]? = some l[k / sz] := by simp [h1]
  have hl := okW_get hw (List.getElem_mem h1)
  have hx : l[k / sz].cells[k % sz]? = some (l[k / sz].cells[k % sz]'(by omega)) := by simp [hl, h2]
  obtain ⟨e1, v, e2, e3⟩ := h.2 _ _ _ _ he hx
  rw [h3, hk] at e2
  obtain rfl := Option.some.inj e2
  exact e3.oneCell (isElt_isCell e1)
/-- A slice's cells. -/
theorem VR.flat2 {m : Nat} {tg : Tag} {l : List TV} {A : Option Addr} {c sz : Nat} (h : VR w g m (.sl tg l) (.slice A l.length c)) (hw : okW sz l = true) (hz : 0 < sz) :
    ∃ news, Flat w g m sz l news ∧ (Builtin.firstCells sz l.length (.slice A l.length c)).run P w = .ok news.toArray w ∧ (Builtin.firstCells sz l.length (.slice A l.length c)).run P w.drew = .ok news.toArray w.drew ∧
      ∀ ad, A = some ad → ∀ (k : Nat) (u : Value), news[k]? = some u → w.cell? (at_ ad.block (ad.off + k)) = some u := by
  cases h with
  | sl _ _ _ _ sz0 vals hz0 hcap hm hA hn hE h hr =>
    cases A with
    | none =>
      have := hn rfl
      subst this
      refine ⟨[], ⟨by simp, by simp⟩, ?_, ?_, by simp⟩
      · exact run_firstCells_none w sz 0 0 c
      · exact run_firstCells_none w.drew sz 0 0 c
    | some ad =>
      by_cases hl0 : l = []
      · subst hl0
        refine ⟨[], ⟨by simp, by simp⟩, ?_, ?_, by simp⟩
        · exact run_firstCells_some w sz 0 ad 0 c [] (by simp) (by simp)
        · exact run_firstCells_some w.drew sz 0 ad 0 c [] (by simp) (by simp)
      obtain ⟨b, off, sp⟩ := ad
      obtain rfl : sp = none := hA _ rfl (by have := List.length_pos_iff.2 hl0; omega)
      have hs : l ≠ [] → sz0 = sz := by
        intro hl
        obtain ⟨e, he⟩ := List.exists_mem_of_ne_nil _ hl
        rw [← hE e he]; exact okW_get hw he
      let news := (List.range (l.length * sz)).map fun k => vals (k / sz) (k % sz)
      have hnl : news.length = l.length * sz := by simp [news]
      have hflat : Flat w g m sz l news := by
        refine ⟨hnl, fun i e j x hi hj => ?_⟩
        have hil : i < l.length := (List.getElem?_eq_some_iff.1 hi).1
        have hjl : j < sz := by have := (List.getElem?_eq_some_iff.1 hj).1; rw [okW_get hw (List.mem_of_getElem? hi)] at this; exact this
        have hlt : i * sz + j < l.length * sz := by
          have : (i + 1) * sz ≤ l.length * sz := Nat.mul_le_mul_right _ hil
          rw [Nat.succ_mul] at this; omega
        have e1 : (i * sz + j) / sz = i := by rw [Nat.mul_comm, Nat.mul_add_div hz, Nat.div_eq_of_lt hjl]; rfl
        have e2 : (i * sz + j) % sz = j := by rw [Nat.mul_comm, Nat.mul_add_mod, Nat.mod_eq_of_lt hjl]
        obtain ⟨k1, k2, k3⟩ := h _ i e j x rfl hi hj
        exact ⟨k1, vals i j, by simp [news, hlt, e1, e2], hr i e j x hi hj⟩
      have hcell : ∀ k u, news[k]? = some u → w.cell? (at_ b (off + k)) = some u := by
        intro k u hk
        have hlt : k < l.length * sz := by rw [← hnl]; exact (List.getElem?_eq_some_iff.1 hk).1
        obtain ⟨h1, h2, h3⟩ := idx_lt hlt
        have he : l[k / sz]? = some l[k / sz] := by simp [h1]
        have hne : l ≠ [] := by rintro rfl; simp at h1
        have hl := okW_get hw (List.getElem_mem h1)
        obtain ⟨_, _, k3⟩ := h _ (k / sz) _ (k % sz) (l[k / sz].cells[k % sz]'(by omega)) rfl he (by simp [hl, h2])
        simp [news, hlt] at hk
        rw [hs hne, h3] at k3
        rw [k3, hk]
      refine ⟨news, hflat, ?_, ?_, fun ad had k u hk => by cases had; exact hcell k u hk⟩
      · exact run_firstCells_some w sz l.length (at_ b off) l.length c news hnl (fun k u hk => by rw [at_add]; exact hcell k u hk)
      · exact run_firstCells_some w.drew sz l.length (at_ b off) l.length c news hnl (fun k u hk => by rw [at_add]; simpa using hcell k u hk)
theorem VR.flat {m : Nat} {tg : Tag} {l : List TV} {A : Option Addr} {c sz : Nat} (h : VR w g m (.sl tg l) (.slice A l.length c)) (hw : okW sz l = true) (hz : 0 < sz) :
    ∃ news, Flat w g m sz l news ∧ (Builtin.firstCells sz l.length (.slice A l.length c)).run P w = .ok news.toArray w ∧ (Builtin.firstCells sz l.length (.slice A l.length c)).run P w.drew = .ok news.toArray w.drew := by
  obtain ⟨news, h1, h2, h3, _⟩ := VR.flat2 (P := P) h hw hz
  exact ⟨news, h1, h2, h3⟩
/-- The elements of whatever slice. -/
theorem els_flat (hI : Inv w g ow st a) {x : TV} {v : Value} {l : List TV} {sz : Nat} (hv : VR w g st.h.length x v) (hl : elS st.h x = some l) (hw : okW sz l = true) (hz : 0 < sz) :
    ∃ A c news, v = .slice A l.length c ∧ Flat w g st.h.length sz l news ∧ (Builtin.firstCells sz l.length v).run P w = .ok news.toArray w ∧ (Builtin.firstCells sz l.length v).run P w.drew = .ok news.toArray w.drew ∧
      (∀ ad, A = some ad → (0 < c → ad.spot = none) ∧ ∀ (k : Nat) (u : Value), news[k]? = some u → w.cell? (at_ ad.block (ad.off + k)) = some u) ∧ (A = none → l = []) ∧ l.length ≤ c := by
  obtain ⟨A, c, g', rfl, h1, h2⟩ := els_sl hI.box hI.bd hv hl
  obtain ⟨news, f1, f2, f3, f4⟩ := VR.flat2 (P := P) h1 hw hz
  have hA : (∀ ad, A = some ad → 0 < c → ad.spot = none) ∧ (A = none → l = []) ∧ l.length ≤ c := by
    cases h1 with
    | sl _ _ _ _ _ _ _ hc _ hA hn _ _ _ => exact ⟨hA, hn, hc⟩
  refine ⟨A, c, news, rfl, ⟨f1.1, fun i e j y hi hj => ?_⟩, f2, f3, fun ad had => ⟨hA.1 ad had, f4 ad had⟩, hA.2.1, hA.2.2⟩
  obtain ⟨k1, u, k2, k3⟩ := f1.2 i e j y hi hj
  refine ⟨k1, u, k2, ?_⟩
  cases hA' : A with
  | none => rw [hA.2.1 hA'] at hi; simp at hi
  | some ad => exact h2 i e j y ad u sz hA' hi (okW_get hw (List.mem_of_getElem? hi)) hj (f4 ad hA' _ u k2)
/-- A slice whose cells are there, and never change. -/
theorem VR.ofFlat {m : Nat} (tg : Tag) {l : List TV} {b off c sz : Nat} {news : List Value} (hf : Flat w g m sz l news) (hw : okW sz l = true) (hz : 0 < sz) (hc : l.length ≤ c) (hm : l.length ≤ 9223372036854775807)
    (hcell : ∀ k u, news[k]? = some u → off + k < g.imm b ∧ w.cell? (at_ b (off + k)) = some u) : VR w g m (.sl tg l) (.slice (some (at_ b off)) l.length c) := by
  refine .sl _ _ _ _ sz (fun i j => news.getD (i * sz + j) undef) hz hc hm (fun ad h _ => by cases h; rfl) (by simp) (fun e he => okW_get hw he) (fun ad i e j x h hi hj => ?_) (fun i e j x hi hj => ?_)
  · cases h
    obtain ⟨k1, u, k2, k3⟩ := hf.2 i e j x hi hj
    obtain ⟨z1, z2⟩ := hcell _ u k2
    refine ⟨k1, z1, ?_⟩
    simp only [List.getD_eq_getElem?_getD, k2, Option.getD_some]
    exact z2
  · obtain ⟨k1, u, k2, k3⟩ := hf.2 i e j x hi hj
    simp only [List.getD_eq_getElem?_getD, k2, Option.getD_some]
    exact k3
theorem Flat.append {m sz : Nat} {l l2 : List TV} {n1 n2 : List Value} (h1 : Flat w g m sz l n1) (h2 : Flat w g m sz l2 n2) (hw : okW sz l = true) (hw2 : okW sz l2 = true) : Flat w g m sz (l ++ l2) (n1 ++ n2) := by
  refine ⟨by rw [List.length_append, List.length_append, h1.1, h2.1, Nat.add_mul], fun i e j x hi hj => ?_⟩
  rw [List.getElem?_append] at hi
  split at hi
  · rename_i hil
    obtain ⟨k1, u, k2, k3⟩ := h1.2 i e j x hi hj
    refine ⟨k1, u, ?_, k3⟩
    rw [List.getElem?_append_left (List.getElem?_eq_some_iff.1 k2).1]
    exact k2
  · rename_i hil
    obtain ⟨k1, u, k2, k3⟩ := h2.2 _ e j x hi hj
    refine ⟨k1, u, ?_, k3⟩
    rw [List.getElem?_append_right (by
      rw [h1.1]
      have : l.length * sz ≤ i * sz := Nat.mul_le_mul_right _ (by omega)
      omega)]
    rw [h1.1]
    have : i * sz + j - l.length * sz = (i - l.length) * sz + j := by
      rw [Nat.sub_mul]
      have : l.length * sz ≤ i * sz := Nat.mul_le_mul_right _ (by omega)
      omega
    rw [this]
    exact k2
theorem Flat.mono {w' : World} {g' : Gh} {ow' : Ow} {m m' sz : Nat} {l : List TV} {n : List Value} (h : Flat w g m sz l n) (hs : Stp w g ow m w' g' ow') (hm : m ≤ m') : Flat w' g' m' sz l n :=
  ⟨h.1, fun i e j x hi hj => by
    obtain ⟨k1, u, k2, k3⟩ := h.2 i e j x hi hj
    exact ⟨k1, u, k2, k3.mono hs hm⟩⟩
theorem okW_append {sz : Nat} {l l2 : List TV} (h : okW sz l = true) (h2 : okW sz l2 = true) : okW sz (l ++ l2) = true := by
  unfold okW at *
  rw [List.all_append, h, h2]; rfl
theorem flat_bytes {m : Nat} (s : ByteArray) : Flat w g m 1 (ofBytes s) (byteCells s) ∧ okW 1 (ofBytes s) = true ∧ (ofBytes s).length = s.size := by
  have hlen : (ofBytes s).length = s.size := by unfold ofBytes; rw [List.length_map, Array.length_toList]; rfl
  refine ⟨⟨by rw [byteCells_length, hlen, Nat.mul_one], fun i e j x hi hj => ?_⟩, ?_, hlen⟩
  · unfold ofBytes at hi
    obtain ⟨b, hb, rfl⟩ := getElem?_map_some hi
    have hj0 : j = 0 := by
      rcases Nat.eq_zero_or_pos j with h | h
      · exact h
      · rw [List.getElem?_eq_none (by simp [TV.cells]; omega)] at hj; cases hj
    subst hj0
    simp [TV.cells] at hj
    subst hj
    refine ⟨rfl, .int .u8 b.toNat, ?_, .int _ _⟩
    simp only [byteCells, Nat.mul_one, Nat.add_zero, List.getElem?_map, hb, Option.map_some]
  · exact List.all_eq_true.2 (fun e he => by obtain ⟨b, _, rfl⟩ := List.mem_map.1 he; rfl)
/-- Nobody holds the place that is put aside. -/
theorem Inv.scratch (hI : Inv w g ow st a) (q' : List Nat) (k : Nat) : Inv w g (mvO ow [4] (k :: q')) st a where
  defers := hI.defers
  len := hI.len
  base := hI.base
  bd := mvO_bd hI.bd
  box j cs hj := fun hdd => (hI.box j cs hj hdd).reow (fun b p hb => mvO_far hb (by simp [List.isPrefixOf]))
  slot j := by
    have hj := hI.slot j
    have hk : ∀ b p, ow b = some ([0, j] ++ p) → mvO ow [4] (k :: q') b = some ([0, j] ++ p) := fun b p hb => mvO_far hb (by simp [List.isPrefixOf])
    generalize sl st.t j = x at hj ⊢
    cases x <;> first | exact ⟨hj.1, hj.2.mono (fun b p hb => ⟨rfl, rfl, by rw [hb]; exact hk b p hb⟩)⟩ | skip
    case lbox cs =>
      obtain ⟨b, h1, h2⟩ := hj
      exact ⟨b, h1, h2.reow hk⟩
    case lp b o => exact hj
/-- What is taken is put aside. -/
theorem Inv.aside (hI : Inv w g ow st a) {x : TV} {v : Value} {is : List Nat} (hx : plainV x = true)
    (ho : (is = [] ∧ ∀ w' g' ow' q, Owns w' g' ow' q x v) ∨ ∃ i, is = [i] ∧ x = sl st.t i ∧ Owns w g ow [0, i] x v) :
    ∃ ow1, Inv w g ow1 { st with t := downs is st.t } a ∧ Stp w g ow st.h.length w g ow1 ∧ Owns w g ow1 [4] x v := by
  rcases ho with ⟨rfl, ho⟩ | ⟨i, rfl, hxi, ho⟩
  · exact ⟨ow, ⟨hI.defers, hI.len, hI.slot, hI.box, hI.bd, hI.base⟩, hI.refl, ho _ _ _ _⟩
  · have hp : plainV (sl st.t i) = true := hxi ▸ hx
    have h1 := hI.down i hp
    have hsl : ∀ j, sl (st.t.set i (sl st.t i).shrT) j = if i = j ∧ j < st.t.length then (sl st.t i).shrT else sl st.t j := fun j => sl_set _ _ _ _
    have hpi : plainV (sl (st.t.set i (sl st.t i).shrT) i) = true := by
      rw [hsl]; split
      · exact plain_shrT _ hp
      · exact hp
    have hpoor : ∀ ow', Owns w g ow' [0, i] (sl (st.t.set i (sl st.t i).shrT) i) (a.tmps.getD i undef) := by
      intro ow'
      rw [hsl]
      split
      · exact (hI.plain hp).1.owns_shrT
      · rename_i hn
        have hlt : ¬ i < st.t.length := fun h => hn ⟨rfl, h⟩
        have : sl st.t i = .junk := by simp [sl, List.getElem?_eq_none (Nat.le_of_not_lt hlt)]
        rw [this]
        intro p sz s l A n c hs
        cases hs
    exact ⟨mvO ow [0, i] [4], h1.free i 4 [] hpi hpoor, Stp.free hI.bd [0, i] 4 [] (by simp) (by simp) (by decide), ho.move (fun b p hb => ⟨rfl, rfl, mvO_at hb⟩)⟩
theorem setCells_cell {b : Nat} {us : List Value} {o : Nat} {vs : Array Value} {ty : TypeId} {fr : Nat × Nat} (h : RowOf w b vs ty fr) (hl : o + us.length ≤ vs.size) (j : Nat) : (w.setCells b o us).cell? (at_ b j) = if o ≤ j ∧ j < o + us.length then us[j - o]? else vs[j]? := by
  obtain ⟨vs', h1, h2, h3⟩ := setCells_row us o w vs ty fr h hl
  rw [cell_of_row h1, h3]
/-- append, of whatever source. -/
theorem app_run (hI : Inv w g ow st a) {t u e : TypeId} {sz bytes : Nat} (ht : P.underlying t = some (.slice e)) (hu : (∃ e', P.underlying u = some (.slice e')) ∨ P.underlying u = some .string) (hs : szOf P e = some sz) (hz : 0 < sz) (hby : byOf P e = some bytes)
    {zv : Value} (hzv : zeOf P e = some zv) (hzs : zv.cells.size = sz) (ty : TypeId)
    {l l2 : List TV} {sb : Bool} {is : List Nat} {rx ry : Value} (hx : VR w g st.h.length (.sl (.own sz sb) l) rx) {xv : TV} (hpx : plainV xv = true)
    (hox : (is = [] ∧ ∀ w' g' ow' q, Owns w' g' ow' q xv rx) ∨ ∃ i, is = [i] ∧ xv = sl st.t i ∧ Owns w g ow [0, i] xv rx) (hcv : ∀ ow', Owns w g ow' [4] xv rx → Owns w g ow' [4] (.sl (.own sz sb) l) rx)
    (hw1 : okW sz l = true) (hw2 : okW sz l2 = true) {news : List Value} (hsrc : _root_.Go.Src P sz u ry l2.length news w) (hfl : Flat w g st.h.length sz l2 news)
    (hb : (l.length + l2.length) * bytes ≤ roomB) (hb2 : l.length + l2.length ≤ roomB) (dst : Option Nat) :
    ∃ rv w' g' ow', (Builtin.append_ #[t, u] ty #[rx, ry]).run P w = .ok rv w' ∧ Stp w g ow st.h.length w' g' ow' ∧ Inv w' g' ow' (({ v := .sl (.own sz false) (l ++ l2), tk := is } : Dl).ap dst st) (a.put dst rv) := by
  obtain ⟨ti, hi, hisz⟩ := info_of hs
  have hiby : ti.bytes = bytes := by unfold byOf at hby; rw [hi] at hby; simpa using hby
  have hiz : ti.zero = some zv := by unfold zeOf at hzv; rw [hi] at hzv; simpa using hzv
  have hsrc' : _root_.Go.Src P ti.size u ry l2.length news w := by rw [hisz]; exact hsrc
  obtain ⟨ow1, h1, h2, h3'⟩ := hI.aside hpx hox
  have h3 := hcv ow1 h3'
  obtain ⟨dd, hdd⟩ : ∃ dd, dd = dst.getD 0 := ⟨_, rfl⟩
  have hm : (l ++ l2).length ≤ 9223372036854775807 := by rw [List.length_append]; unfold roomB at hb2; omega
  -- how it ends: the value lies there, the place is the slot's
  have fin : ∀ (rv : Value) (w' : World) (g' : Gh) (ow2 : Ow), (Builtin.append_ #[t, u] ty #[rx, ry]).run P w = .ok rv w' → Stp w g ow1 st.h.length w' g' ow2 → Inv w' g' ow2 { st with t := downs is st.t } a →
      VR w' g' st.h.length (.sl (.own sz false) (l ++ l2)) rv → Owns w' g' ow2 [4] (.sl (.own sz false) (l ++ l2)) rv →
      ∃ rv w' g' ow', (Builtin.append_ #[t, u] ty #[rx, ry]).run P w = .ok rv w' ∧ Stp w g ow st.h.length w' g' ow' ∧ Inv w' g' ow' (({ v := .sl (.own sz false) (l ++ l2), tk := is } : Dl).ap dst st) (a.put dst rv) := by
    intro rv w' g' ow2 hrun hstp hinv hvr hown
    have h4 := hinv.scratch [dd] 0
    have h5 := Stp.free (w := w') (g := g') (m := st.h.length) hinv.bd [4] 0 [dd] (by simp) (by simp) (by decide)
    refine ⟨rv, w', g', mvO ow2 [4] [0, dd], hrun, (h2.trans hstp (Nat.le_refl _)).trans h5 (Nat.le_refl _), ?_⟩
    cases hdst : dst with
    | none => exact ⟨h4.defers, h4.len, h4.slot, h4.box, h4.bd, h4.base⟩
    | some i =>
      obtain rfl : dd = i := by rw [hdd, hdst]; rfl
      exact h4.put dd rfl hvr (hown.move (fun b p hb => ⟨rfl, rfl, mvO_at hb⟩))
  have hx' := hx
  cases hx with
  | sl _ _ A c sz0 vals hz0 hcap hmx hA hn hE hh hr =>
    have hlen : (l ++ l2).length = l.length + l2.length := List.length_append
    by_cases hk0 : l2.length = 0
    · -- nothing is appended
      have hl2 : l2 = [] := List.eq_nil_of_length_eq_zero hk0
      subst hl2
      have hnews : news = [] := List.eq_nil_of_length_eq_zero (by rw [hfl.1]; simp)
      subst hnews
      have hrun := run_append_nothing (P := P) w t u ty e ti ht hi A l.length c hcap ry hsrc'
      refine fin _ w g ow1 hrun (Stp.refl w g ow1 _ h1.bd) h1 (by rw [List.append_nil]; exact .sl _ l A c sz0 vals hz0 hcap hmx hA hn hE hh hr) ?_
      rw [List.append_nil]
      intro p sz' s l' A' n' c' hsb
      cases hsb
      obtain ⟨z1, z2⟩ := h3 [] sz sb l A l.length c (.here _ _)
      exact ⟨z1, fun hh => z2 (.inl (by rcases hh with hh | hh; exact hh; cases hh))⟩
    · by_cases hroom : l.length + l2.length ≤ c
      · -- there is room
        obtain ⟨z1, z2⟩ := h3 [] sz sb l A l.length c (.here _ _)
        obtain ⟨ad, rfl, hoa, vs, ty2, fr, r1, r2, r3, r4⟩ := z2 (.inl (by omega))
        obtain ⟨b, off, sp⟩ := ad
        obtain rfl : sp = none := hA _ rfl (by omega)
        simp only [List.append_nil] at hoa
        have r2' : g.imm b = off + l.length * sz := r2
        have r3' : off + c * sz ≤ vs.size := r3
        have hnl : news.length = l2.length * sz := hfl.1
        have hcs : off + (l.length + l2.length) * sz ≤ vs.size := by
          have : (l.length + l2.length) * sz ≤ c * sz := Nat.mul_le_mul_right _ hroom
          omega
        have hadd : (l.length + l2.length) * sz = l.length * sz + l2.length * sz := Nat.add_mul _ _ _
        have hrun := run_append_room_src (P := P) w t u ty e ti ht hi b off l.length c ry l2.length news hsrc' hroom (fun j hj => by
            rw [hisz, show (⟨b, off + l.length * sz + j, none⟩ : Addr) = at_ b (off + l.length * sz + j) from rfl, cell_of_row r1]
            simp; omega) (fun j hj => by
            rw [hisz]
            exact NF_frozen r1 r4 (by omega))
        rw [hisz] at hrun
        have hstp := Stp.write (g := g) (m := st.h.length) h1.bd hoa (by simp) r1 (k := off + l.length * sz) (us := news) (by omega) (by omega) (off + (l.length + l2.length) * sz) (.inr (by omega))
        have hinv : Inv (w.setCells b (off + l.length * sz) news) { g with imm := fun c => if c = b then off + (l.length + l2.length) * sz else g.imm c } ow1 { st with t := downs is st.t } a := by
          refine h1.mono hstp (fun b' q hb' hq => ?_) (fun b' q hb' => by rw [(setCells_same _ _ _).2.2.2]; exact h1.bd b' q hb')
          have hne : b' ≠ b := by
            rintro rfl
            rw [hoa] at hb'
            obtain rfl := Option.some.inj hb'
            simp at hq
          exact ⟨setCells_other hne _ _ _, by simp [hne], rfl⟩
        obtain ⟨olds, f1, f2, f3⟩ := hx'.flat (P := P) hw1 hz
        have hf2 := (f1.append hfl hw1 hw2).mono hstp (Nat.le_refl _)
        have hold : olds.length = l.length * sz := f1.1
        have hcell : ∀ k u', (olds ++ news)[k]? = some u' → off + k < off + (l.length + l2.length) * sz ∧ (w.setCells b (off + l.length * sz) news).cell? (at_ b (off + k)) = some u' := by
          intro k u' hk
          have hkl : k < (olds ++ news).length := (List.getElem?_eq_some_iff.1 hk).1
          rw [List.length_append] at hkl
          refine ⟨by omega, ?_⟩
          rw [setCells_cell r1 (by omega)]
          rw [List.getElem?_append] at hk
          split at hk
          · rename_i hlt
            rw [if_neg (by omega)]
            -- an old cell
            obtain ⟨i1, i2, i3⟩ := idx_lt (n := l.length) (sz := sz) (k := k) (by omega)
            have he : l[k / sz]? = some l[k / sz] := by simp [i1]
            have hl' := okW_get hw1 (List.getElem_mem i1)
            have hxx : l[k / sz].cells[k % sz]? = some (l[k / sz].cells[k % sz]'(by omega)) := by simp [hl', i2]
            have hs0 : sz0 = sz := by rw [← hE _ (List.getElem_mem i1)]; exact hl'
            subst hs0
            obtain ⟨k1, k2, k3⟩ := hh _ _ _ _ _ rfl he hxx
            obtain ⟨_, v', e2, e3⟩ := f1.2 _ _ _ _ he hxx
            simp only [i3] at k2 k3 e2
            rw [cell_of_row r1] at k3
            rw [k3]
            -- what the flat list has is what memory has
            have hfc := f2
            rw [run_firstCells_some w sz0 l.length (at_ b off) l.length c ((vs.toList.drop off).take (l.length * sz0)) (by simp; have : l.length * sz0 ≤ c * sz0 := Nat.mul_le_mul_right _ hcap; omega) (fun j v hj => by
              rw [at_add, cell_of_row r1]
              rw [List.getElem?_take] at hj
              split at hj
              · rw [List.getElem?_drop] at hj; simpa using hj
              · cases hj)] at hfc
            have hol : (vs.toList.drop off).take (l.length * sz0) = olds := by simpa using hfc
            rw [← hol, List.getElem?_take, if_pos (by omega), List.getElem?_drop] at hk
            have : vs[off + k]? = some u' := by simpa using hk
            rw [← this, k3]
          · rename_i hge
            rw [if_pos (by omega)]
            rw [← hk, hold]
            congr 1; omega
        refine fin _ _ _ ow1 hrun hstp hinv ?_ ?_
        · have := VR.ofFlat (w := w.setCells b (off + l.length * sz) news) (g := { g with imm := fun c => if c = b then off + (l.length + l2.length) * sz else g.imm c }) (m := st.h.length) (.own sz false) (b := b) (off := off) (c := c) hf2 (okW_append hw1 hw2) hz (by rw [hlen]; exact hroom) hm (fun k u' hk => by
            obtain ⟨q1, q2⟩ := hcell k u' hk
            exact ⟨by simp only [if_true]; exact q1, q2⟩)
          rw [hlen] at this
          exact this
        · intro p sz' s l' A' n' c' hsb
          cases hsb
          refine ⟨hz, fun _ => ⟨_, rfl, by simpa using hoa, ?_⟩⟩
          obtain ⟨vs', s1, s2, s3⟩ := setCells_row news (off + l.length * sz) w vs ty2 fr r1 (by omega)
          exact ⟨vs', ty2, fr, s1, by simp, by rw [s2]; exact r3, by rw [s2]; exact r4⟩
      · -- a new row
        obtain ⟨olds, f1, f2, f3⟩ := hx'.flat (P := P) hw1 hz
        have hgrow : c < l.length + l2.length := by omega
        have h63 : ((l.length + l2.length : Nat) : Int) ≤ 9223372036854775807 := by unfold roomB at hb2; omega
        have hfit : Builtin.nextslicecap (l.length + l2.length) c * ti.bytes ≤ 281474976710656 := growslice_fits hgrow (by rw [hiby]; unfold roomB at hb; exact hb)
        have hrun := run_append_grow_src (P := P) w t u ty e ti zv ht hi hiz A l.length c olds (by rw [hisz]; exact f3) ry l2.length news hsrc' hgrow h63 hfit
        obtain ⟨nc, hnc⟩ : ∃ nc, nc = grownCap w (l.length + l2.length) c e := ⟨_, rfl⟩
        have hge := grownCap_ge w (l.length + l2.length) c e
        rw [← hnc] at hrun hge
        obtain ⟨cells, hcells⟩ : ∃ cells, cells = (olds ++ news).toArray ++ Builtin.zeroCells zv.cells (nc - (l.length + l2.length)) := ⟨_, rfl⟩
        rw [← hcells] at hrun
        have hsize : cells.size = nc * sz := by
          rw [hcells]
          simp only [Array.size_append, List.size_toArray, List.length_append, Builtin.zeroCells, Array.size_map, Array.size_range, hzs]
          rw [f1.1, hfl.1, ← Nat.add_mul, ← Nat.add_mul]
          congr 1; omega
        have hheap : (w.drew.alloc (.cells cells e)).heap = w.heap.push (.cells cells e) := rfl
        have hstp : Stp w g ow1 st.h.length (w.drew.alloc (.cells cells e)) (gPush g w.heap.size ((l.length + l2.length) * sz)) (oPush ow1 w.heap.size [4]) :=
          Stp.push h1.bd hheap rfl rfl rfl (fun b hb => gPush_imm hb) (fun _ _ => rfl) (fun b hb => by simp [oPush, hb]) (fun q => by simp [oPush])
        have hinv := h1.push hstp hheap (fun b hb => gPush_imm hb) (fun b hb => by simp [oPush, hb])
        have hf2 := (f1.append hfl hw1 hw2).mono hstp (Nat.le_refl _)
        refine fin _ _ _ _ hrun hstp hinv ?_ ?_
        · have := VR.ofFlat (w := w.drew.alloc (.cells cells e)) (g := gPush g w.heap.size ((l.length + l2.length) * sz)) (m := st.h.length) (.own sz false) (b := w.heap.size) (off := 0) (c := nc) hf2 (okW_append hw1 hw2) hz (by rw [hlen]; exact hge) hm (fun k u' hk => by
            have hkl : k < (olds ++ news).length := (List.getElem?_eq_some_iff.1 hk).1
            have hkl' := hkl
            rw [List.length_append, f1.1, hfl.1, ← Nat.add_mul] at hkl
            refine ⟨by simp [gPush]; exact hkl, ?_⟩
            rw [Nat.zero_add, cell_of_row (row_push hheap), hcells, Array.getElem?_append]
            simp only [List.size_toArray]
            rw [if_pos hkl']
            simpa using hk)
          rw [hlen] at this
          exact this
        · intro p sz' s l' A' n' c' hsb
          cases hsb
          refine ⟨hz, fun _ => ⟨_, rfl, by simp [oPush], ?_⟩⟩
          exact ⟨cells, e, (0, 0), row_push hheap, by simp [gPush], by simp only [Nat.zero_add]; omega, NF_zero _⟩
end
end Go.T
