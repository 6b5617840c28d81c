/- Operations of the small machine that make memory. -/
import Derived.Test.YtlcnhdbedgpbiaaOTOps6
set_option linter.unusedVariables false
set_option linter.unusedSimpArgs false
set_option maxRecDepth 10000
namespace Go.T
section
variable {P : Program} {w : World} {g : Gh} {ow : Ow} {st : St} {a : Act} {o : Oper} {dst : Option Nat}
/-- A slot that owns nothing gives its places away. -/
theorem Inv.freeR (hI : Inv w g ow st a) (i : Nat) (ρ : List Nat → List Nat) (hp : plainV (sl st.t i) = true) (hn : ∀ ow', Owns w g ow' [0, i] (sl st.t i) (a.tmps.getD i undef)) (hρ : ∀ r, List.isPrefixOf [0, i] r = false → ρ r = r) :
    Inv w g (rnO ow ρ) st a where
  defers := hI.defers
  len := hI.len
  base := hI.base
  bd := rnO_bd hI.bd
  box j cs hj := fun hdd => (hI.box j cs hj hdd).reow (fun b p hb => by rw [rnO_at hb, hρ _ (by simp [List.isPrefixOf])])
  slot j := by
    by_cases hij : i = j
    · subst hij
      exact (SlotR.plain hp).2 ⟨(hI.plain hp).1, hn _⟩
    · have hj := hI.slot j
      have hk : ∀ b p, ow b = some ([0, j] ++ p) → rnO ow ρ b = some ([0, j] ++ p) := fun b p hb => by rw [rnO_at hb, hρ _ (pre_slot hij)]
      generalize sl st.t j = x at hj ⊢
      cases x <;> first | exact ⟨hj.1, hj.2.mono (fun b p hb => ⟨rfl, rfl, by rw [hb]; exact hk b p hb⟩)⟩ | skip
      case lbox cs =>
        obtain ⟨b, h1, h2⟩ := hj
        exact ⟨b, h1, h2.reow hk⟩
      case lp b o => exact hj
def isAggT : TV → Bool
  | .agg _ => true
  | _ => false
/-- The places of a slot's value, as cells from cell o of Q on. -/
def rhoV (i : Nat) (ag : Bool) (Q : List Nat) (o : Nat) : List Nat → List Nat := fun r =>
  if ag then (if r.length = 3 ∧ List.isPrefixOf [0, i] r then Q ++ [o + r.getD 2 0] else r) else (if r = [0, i] then Q ++ [o] else r)
theorem rhoV_far {i : Nat} {ag : Bool} {Q : List Nat} {o : Nat} {r : List Nat} (h : List.isPrefixOf [0, i] r = false) : rhoV i ag Q o r = r := by
  unfold rhoV
  cases ag
  · rw [if_neg (by simp), if_neg (by rintro rfl; simp at h)]
  · rw [if_pos rfl, if_neg (by simp [h])]
theorem rhoV_two {i : Nat} {ag : Bool} {k : Nat} {Q : List Nat} {o : Nat} (hk : k ≠ 2) : (∀ r, rhoV i ag (k :: Q) o (2 :: r) = 2 :: r) ∧ ∀ r s, rhoV i ag (k :: Q) o r = 2 :: s → r = 2 :: s := by
  refine ⟨fun r => rhoV_far (by simp [List.isPrefixOf]), fun r s h => ?_⟩
  unfold rhoV at h
  cases ag
  · rw [if_neg (by simp)] at h
    split at h
    · simp at h; exact absurd h.1 hk
    · exact h
  · rw [if_pos rfl] at h
    split at h
    · simp at h; exact absurd h.1 hk
    · exact h
/-- The slots behind what was taken. -/
def downs (is : List Nat) (t : List TV) : List TV := is.foldl (fun t i => t.set i (sl t i).shrT) t
/-- A value's cells, taken, with places of their own. -/
theorem tak_cells (hI : Inv w g ow st a) {x : Src} {y : Operand} {tk : Bool} {v : TV} {is : List Nat} (hc : chkS y x = true) (he : tak st.t tk x = some (v, is)) (hok : argOk v = true) (k : Nat) (Q : List Nat) (off : Nat) (hk : k ≠ 2) :
    ∃ ow1, Inv w g ow1 { st with t := downs is st.t } a ∧ Stp w g ow st.h.length w g ow1 ∧ (∀ b q, ow b = some q → (∀ i, is = [i] → List.isPrefixOf [0, i] q = false) → ow1 b = some q) ∧ v.cells.length = (a.eval y).cells.size ∧
      ∀ (j : Nat) (x : TV) (u : Value), v.cells[j]? = some x → (a.eval y).cells[j]? = some u → x.isCell = true ∧ VR w g st.h.length x u ∧ Owns w g ow1 ((k :: Q) ++ [off + j]) x u := by
  obtain ⟨hv, hp, ho⟩ := tak_spec hI hc he
  -- the cells themselves
  have hcells : v.cells.length = (a.eval y).cells.size ∧ ∀ (j : Nat) (x : TV) (u : Value), v.cells[j]? = some x → (a.eval y).cells[j]? = some u → x.isCell = true ∧ VR w g st.h.length x u ∧
      ((isAggT v = true ∧ ∀ p z t, Sub x u p z t → Sub v (a.eval y) (j :: p) z t) ∨ (isAggT v = false ∧ x = v ∧ u = a.eval y ∧ j = 0)) := by
    rcases argOk_cells hok with ⟨cs, rfl, hcs⟩ | hcell
    · generalize a.eval y = q at hv
      cases hv with
      | agg _ vs hl h hr =>
        refine ⟨hl, fun j x u hx hu => ⟨h j x u hx hu, hr j x u hx hu, .inl ⟨rfl, fun p z t hs => .agg _ _ j x u p z t hx hu hs⟩⟩⟩
    · have h1 : v.cells = [v] := by cases v <;> first | rfl | simp [TV.isCell] at hcell
      have h2 : (a.eval y).cells = #[a.eval y] := by
        generalize a.eval y = q at hv
        cases hv <;> first | rfl | simp [TV.isCell] at hcell
      rw [h1, h2]
      refine ⟨rfl, fun j x u hx hu => ?_⟩
      have hj : j = 0 := by
        rcases Nat.eq_zero_or_pos j with h | h
        · exact h
        · rw [List.getElem?_eq_none (by simp; omega)] at hx; cases hx
      subst hj
      simp at hx hu
      subst hx; subst hu
      exact ⟨hcell, hv, .inr ⟨by cases v <;> first | rfl | simp [TV.isCell] at hcell, rfl, rfl, rfl⟩⟩
  rcases ho with ⟨rfl, ho⟩ | ⟨i, rfl, hvi, ho⟩
  · refine ⟨ow, ⟨hI.defers, hI.len, hI.slot, hI.box, hI.bd, hI.base⟩, hI.refl, fun b q hb _ => hb, hcells.1, fun j x u hx hu => ?_⟩
    obtain ⟨c1, c2, c3⟩ := hcells.2 j x u hx hu
    refine ⟨c1, c2, ?_⟩
    intro p sz s l A n c hs
    rcases c3 with ⟨_, c3⟩ | ⟨_, rfl, rfl, rfl⟩
    · obtain ⟨z1, z2⟩ := ho w g (fun b => if ow b = some ((k :: Q) ++ [off + j] ++ p) then some ([] ++ (j :: p)) else none) [] (j :: p) sz s l A n c (c3 _ _ _ hs)
      refine ⟨z1, fun hh => ?_⟩
      obtain ⟨ad, e1, e2, e3⟩ := z2 hh
      refine ⟨ad, e1, ?_, e3⟩
      by_cases h : ow ad.block = some ((k :: Q) ++ [off + j] ++ p)
      · exact h
      · simp only at e2; rw [if_neg h] at e2; cases e2
    · exact ho w g ow _ p sz s l A n c hs
  · have hp' : plainV (sl st.t i) = true := hvi ▸ hp
    have h1 := hI.down i hp'
    have hd : downs [i] st.t = st.t.set i (sl st.t i).shrT := rfl
    have hsl : ∀ j, sl (st.t.set i (sl st.t i).shrT) j = if i = j ∧ j < st.t.length then (sl st.t i).shrT else sl st.t j := fun j => sl_set _ _ _ _
    have hpi : plainV (sl (st.t.set i (sl st.t i).shrT) i) = true := by
      rw [hsl]; split
      · exact plain_shrT _ hp'
      · exact hp'
    have hpoor : ∀ ow', Owns w g ow' [0, i] (sl (st.t.set i (sl st.t i).shrT) i) (a.tmps.getD i undef) := by
      intro ow'
      rw [hsl]
      split
      · exact (hI.plain hp').1.owns_shrT
      · rename_i hn
        have hlt : ¬ i < st.t.length := fun h => hn ⟨rfl, h⟩
        have : sl st.t i = .junk := by simp [sl, List.getElem?_eq_none (Nat.le_of_not_lt hlt)]
        rw [this]
        intro p sz s l A n c hs
        cases hs
    rw [hd]
    refine ⟨rnO ow (rhoV i (isAggT v) (k :: Q) off), h1.freeR i _ hpi hpoor (fun r hr => rhoV_far hr), Stp.ren hI.bd _ (rhoV_two hk).1 (rhoV_two hk).2, fun b q hb hn => by rw [rnO_at hb, rhoV_far (hn i rfl)], hcells.1, fun j x u hx hu => ?_⟩
    obtain ⟨c1, c2, c3⟩ := hcells.2 j x u hx hu
    refine ⟨c1, c2, ?_⟩
    rcases c3 with ⟨hag, c3⟩ | ⟨hag, rfl, rfl, rfl⟩
    · have hown : Owns w g ow ([0, i] ++ [j]) x u := by
        intro p sz s l A n c hs
        have := ho (j :: p) sz s l A n c (c3 _ _ _ hs)
        simpa using this
      refine hown.moveCell c1 (fun b hb => ⟨rfl, rfl, ?_⟩)
      rw [rnO_at hb, hag]
      simp [rhoV, List.isPrefixOf]
    · refine ho.moveCell c1 (fun b hb => ⟨rfl, rfl, ?_⟩)
      rw [rnO_at hb, hag]
      simp [rhoV]
/-- A new block. -/
theorem Stp.push {m : Nat} {w' : World} {g' : Gh} {ow' : Ow} {ob : Obj} (hbd : ∀ b q, ow b = some q → b < w.heap.size) (hh : w'.heap = w.heap.push ob) (h1 : w'.os = w.os) (h2 : w'.tape = w.tape) (h3 : w'.output = w.output)
    (himm : ∀ b, b < w.heap.size → g'.imm b = g.imm b) (hnu : ∀ i, i < m → g'.nu i = g.nu i) (how : ∀ b, b ≠ w.heap.size → ow' b = ow b) (hq : ∀ q, ow' w.heap.size ≠ some (2 :: q)) : Stp w g ow m w' g' ow' := by
  have hold : ∀ b, b < w.heap.size → w'.heap[b]? = w.heap[b]? := by
    intro b hb
    rw [hh, Array.getElem?_push]
    rw [if_neg (by omega)]
  refine ⟨h1, h2, h3, by rw [hh]; simp, fun b off hb ho => ?_, fun b hb => by rw [himm b hb]; exact Nat.le_refl _, hnu, fun b vs ty fr hr => ⟨vs, fr, ?_, rfl⟩, fun b hb hf => ⟨hold b hb, himm b hb, how b (by omega)⟩, fun b q hb => ?_⟩
  · simp only [World.cell?, hold b hb]
  · unfold RowOf at *; rw [hold b (lt_of_row hr)]; exact hr
  · by_cases hbn : b = w.heap.size
    · subst hbn; exact absurd hb (hq q)
    · rw [how b hbn] at hb
      exact ⟨hbd b _ hb, hb⟩
theorem Inv.push (hI : Inv w g ow st a) {w' : World} {g' : Gh} {ow' : Ow} {ob : Obj} (hs : Stp w g ow st.h.length w' g' ow') (hh : w'.heap = w.heap.push ob) (himm : ∀ b, b < w.heap.size → g'.imm b = g.imm b) (how : ∀ b, b ≠ w.heap.size → ow' b = ow b) : Inv w' g' ow' st a := by
  refine hI.mono hs (fun b q hb _ => ?_) (fun b q hb => ?_)
  · have hlt := hI.bd b q hb
    refine ⟨?_, himm b hlt, how b (by omega)⟩
    rw [hh, Array.getElem?_push, if_neg (by omega)]
  · rw [hh]
    by_cases hbn : b = w.heap.size
    · simp [hbn]
    · rw [how b hbn] at hb
      have := hI.bd b q hb
      simp; omega
theorem row_push {w' : World} {vs : Array Value} {ty : TypeId} (hh : w'.heap = w.heap.push (.cells vs ty (0, 0))) : RowOf w' w.heap.size vs ty (0, 0) := by
  unfold RowOf
  rw [hh]
  simp
theorem NF_zero (n : Nat) : NF (0, 0) n := .inl rfl
theorem sl_map {f : TV → TV} (hf : f .junk = .junk) (t : List TV) (j : Nat) : sl (t.map f) j = f (sl t j) := by
  unfold sl
  simp only [List.getD_eq_getElem?_getD, List.getElem?_map]
  cases t[j]? <;> simp [hf]
/-- A box of the frame's, written into a slot. -/
theorem Inv.putBox (hI : Inv w g ow st a) (d : Nat) {cs : List TV} {b : Nat} (hb : BoxR w g st.h.length ow [0, d] cs b) :
    Inv w g ow { st with t := (st.t.map (fun v => if isLp d v then .junk else v)).set d (.lbox cs) } (a.put (some d) (.pointer (some (at_ b 0)))) where
  defers := hI.defers
  len := by simpa [Act.put] using hI.len
  bd := hI.bd
  base := hI.base
  box := hI.box
  slot j := by
    have hj := hI.slot j
    have hlen : (st.t.map (fun v => if isLp d v then .junk else v)).length = st.t.length := by simp
    have hm : ∀ j, sl (st.t.map (fun v => if isLp d v then .junk else v)) j = if isLp d (sl st.t j) then .junk else sl st.t j := fun j => sl_map (f := fun v => if isLp d v then .junk else v) (by simp [isLp]) st.t j
    rw [sl_set, hlen, getD_put, ← hI.len]
    by_cases h : d = j ∧ j < st.t.length
    · obtain ⟨rfl, hl⟩ := h
      rw [if_pos ⟨rfl, hl⟩, if_pos ⟨rfl, hl⟩]
      exact ⟨b, rfl, hb⟩
    · rw [if_neg h, if_neg h, hm]
      generalize hy : sl st.t j = y at hj ⊢
      cases y <;> try exact hj
      case lp b' off =>
        by_cases hbd : b' = d
        · subst hbd
          simp only [isLp, beq_self_eq_true, if_true]
          refine ⟨.junk _, ?_⟩
          intro p sz s l A n c hs
          cases hs
        · have : isLp d (.lp b' off) = false := by simp [isLp, hbd]
          rw [this]
          intro ds hds
          rw [sl_set, if_neg (fun h => hbd h.1.symm), hm] at hds
          have hds' : sl st.t b' = .lbox ds := by
            split at hds
            · cases hds
            · exact hds
          obtain ⟨k, e1, e2⟩ := hj ds hds'
          refine ⟨k, ?_, e2⟩
          rw [getD_put, if_neg (fun h => hbd h.1.symm)]
          exact e1
theorem Value.cells_eq (v : Value) : v.cells.toList.toArray = v.cells := by simp
/-- A block of cells of the frame's own: the ghost behind it. -/
def gPush (g : Gh) (b k : Nat) : Gh := { g with imm := fun c => if c = b then k else g.imm c }
def oPush (ow : Ow) (b : Nat) (q : List Nat) : Ow := fun c => if c = b then some q else ow c
theorem BoxR.fresh {m : Nat} {w' : World} {ow1 : Ow} {q : List Nat} {cs : List TV} {vs : Array Value} {ty : TypeId} (hbd : ∀ b q, ow1 b = some q → b < w.heap.size) (hh : w'.heap = w.heap.push (.cells vs ty (0, 0)))
    {g' : Gh} (himm : ∀ b, b < w.heap.size → g'.imm b = g.imm b) (h0 : g'.imm w.heap.size = 0) (hs : Stp w g ow1 m w' g' (oPush ow1 w.heap.size q)) (hl : cs.length ≤ vs.size)
    (h : ∀ (j : Nat) (x : TV) (u : Value), cs[j]? = some x → vs[j]? = some u → x.isCell = true ∧ VR w g m x u ∧ Owns w g ow1 (q ++ [j]) x u) {m' : Nat} (hm : m ≤ m') : BoxR w' g' m' (oPush ow1 w.heap.size q) q cs w.heap.size := by
  refine ⟨vs, ty, (0, 0), row_push hh, hl, NF_zero _, h0, by simp [oPush], fun j x u hx hu => ?_⟩
  obtain ⟨c1, c2, c3⟩ := h j x u hx hu
  refine ⟨c1, c2.mono hs hm, c3.mono (fun b p hb => ?_)⟩
  have hlt := hbd b _ hb
  refine ⟨?_, himm b hlt, by simp [oPush]; intro hbb; omega⟩
  rw [hh, Array.getElem?_push, if_neg (by omega)]
theorem gPush_imm {b k c : Nat} (h : c < b) : (gPush g b k).imm c = g.imm c := by simp [gPush]; intro hh; omega
theorem run_box (e : TypeId) (v : Value) : (Instr.box e v).run P w = .ok (.pointer (some (at_ w.heap.size 0))) { w with heap := w.heap.push (.cells v.cells e) } := by
  simp [Instr.box, newVar, newRow]
theorem snd_lbx {tk : Bool} {x : Src} {d : Dl} (hc : chkOp P o.op (.lbx tk x) = true) (hI : Inv w g ow st a) {call : CallF} (hd : delta call st (.lbx tk x) = some d) {Q : Exit → Act → World → Prop} :
    o.wp P a w (Nxt w g ow st.h.length (d.ap o.dst st)) Q := by
  cases hop : o.op <;> rw [hop] at hc <;> try (simp [chkOp] at hc; done)
  rename_i e y
  simp only [chkOp] at hc
  simp only [delta] at hd
  split at hd
  · rename_i v is ht
    split at hd
    · rename_i hok
      obtain rfl := Option.some.inj hd
      have hrun : (execOp a.eval o).run P w = .ok (.value (.pointer (some (at_ w.heap.size 0)))) { w with heap := w.heap.push (.cells (a.eval y).cells e) } := by
        unfold execOp; rw [hop]
        simp only [Sem.run_bind, run_box, Result.andThen_ok]; rfl
      refine wp_val hrun ?_
      obtain ⟨dd, hdd⟩ : ∃ dd, dd = o.dst.getD 0 := ⟨_, rfl⟩
      obtain ⟨ow1, h1, h2, h3, h4, h5⟩ := tak_cells hI hc ht hok 0 [dd] 0 (by decide)
      have hs : Stp w g ow1 st.h.length { w with heap := w.heap.push (.cells (a.eval y).cells e) } (gPush g w.heap.size 0) (oPush ow1 w.heap.size [0, dd]) :=
        Stp.push h1.bd rfl rfl rfl rfl (fun b hb => gPush_imm hb) (fun _ _ => rfl) (fun b hb => by simp [oPush, hb]) (fun q => by simp [oPush])
      have hI1 := h1.push hs rfl (fun b hb => gPush_imm hb) (fun b hb => by simp [oPush, hb])
      have hbox := BoxR.fresh (w := w) (g := g) (m := st.h.length) (m' := st.h.length) h1.bd (w' := { w with heap := w.heap.push (.cells (a.eval y).cells e) }) rfl (g' := gPush g w.heap.size 0) (fun b hb => gPush_imm hb) (by simp [gPush]) hs (Nat.le_of_eq h4) (fun j x u hx hu => by
        obtain ⟨c1, c2, c3⟩ := h5 j x u hx hu
        rw [Nat.zero_add] at c3
        exact ⟨c1, c2, c3⟩) (Nat.le_refl _)
      refine ⟨_, _, h2.trans hs (Nat.le_refl _), ?_⟩
      cases hdst : o.dst with
      | none => exact ⟨hI1.defers, hI1.len, hI1.slot, hI1.box, hI1.bd, hI1.base⟩
      | some i =>
        obtain rfl : dd = i := by rw [hdd, hdst]; rfl
        exact hI1.putBox dd hbox
    · cases hd
  · cases hd
/-- One box more. -/
theorem Inv.addBox (hI : Inv w g ow st a) {cs : List TV} (hb : BoxR w g (st.h.length + 1) ow [1, st.h.length] cs (g.nu st.h.length)) : Inv w g ow { st with h := st.h ++ [cs] } a where
  defers := hI.defers
  len := hI.len
  bd := hI.bd
  base := by have := hI.base; simp; omega
  box i ds hi := by
    have hlen : (st.h ++ [cs]).length = st.h.length + 1 := by simp
    rw [show ({ st with h := st.h ++ [cs] } : St).h.length = st.h.length + 1 from hlen]
    rw [List.getElem?_append] at hi
    split at hi
    · exact (hI.box i ds hi).mono (Stp.refl w g ow _ hI.bd) (Nat.le_succ _) (fun b p _ => ⟨rfl, rfl, rfl⟩)
    · rename_i hge
      have : i = st.h.length := by
        rcases Nat.lt_or_ge (i - st.h.length) 1 with h | h
        · omega
        · rw [List.getElem?_eq_none (by simp; omega)] at hi; cases hi
      subst this
      simp at hi
      subst hi
      exact hb.d
  slot j := by
    have hlen : (st.h ++ [cs]).length = st.h.length + 1 := by simp
    rw [show ({ st with h := st.h ++ [cs] } : St).h.length = st.h.length + 1 from hlen]
    have hj := hI.slot j
    have hS := Stp.refl w g ow st.h.length hI.bd
    show SlotR w g _ ow st.t a.tmps j (sl st.t j) _
    generalize sl st.t j = x at hj ⊢
    cases x <;> first | exact ⟨hj.1.mono hS (Nat.le_succ _), hj.2⟩ | skip
    case lbox ds =>
      obtain ⟨b, h1, h2⟩ := hj
      exact ⟨b, h1, h2.mono hS (Nat.le_succ _) (fun b p _ => ⟨rfl, rfl, rfl⟩)⟩
    case lp b o => exact hj
def gBox (g : Gh) (b m : Nat) : Gh := { imm := fun c => if c = b then 0 else g.imm c, nu := fun i => if i = m then b else g.nu i }
theorem gBox_imm {b m c : Nat} (h : c < b) : (gBox g b m).imm c = g.imm c := by simp [gBox]; intro hh; omega
/-- A new box of the heap's. -/
theorem Inv.mkBox {ow1 : Ow} (h1 : Inv w g ow1 st a) {w' : World} {cs : List TV} {vs : Array Value} {ty : TypeId} (hh : w'.heap = w.heap.push (.cells vs ty (0, 0))) (e1 : w'.os = w.os) (e2 : w'.tape = w.tape) (e3 : w'.output = w.output) (h4 : cs.length ≤ vs.size)
    (h5 : ∀ (j : Nat) (x : TV) (u : Value), cs[j]? = some x → vs[j]? = some u → x.isCell = true ∧ VR w g st.h.length x u ∧ Owns w g ow1 ([1, st.h.length] ++ [j]) x u) :
    Stp w g ow1 st.h.length w' (gBox g w.heap.size st.h.length) (oPush ow1 w.heap.size [1, st.h.length]) ∧ Inv w' (gBox g w.heap.size st.h.length) (oPush ow1 w.heap.size [1, st.h.length]) { st with h := st.h ++ [cs] } a := by
  have hs : Stp w g ow1 st.h.length w' (gBox g w.heap.size st.h.length) (oPush ow1 w.heap.size [1, st.h.length]) :=
    Stp.push h1.bd hh e1 e2 e3 (fun b hb => gBox_imm hb) (fun i hi => by simp [gBox]; intro hii; omega) (fun b hb => by simp [oPush, hb]) (fun q => by simp [oPush])
  have hI1 := h1.push hs hh (fun b hb => gBox_imm hb) (fun b hb => by simp [oPush, hb])
  refine ⟨hs, hI1.addBox ?_⟩
  have hb := BoxR.fresh (w := w) (g := g) (m := st.h.length) (m' := st.h.length + 1) h1.bd (w' := w') hh (g' := gBox g w.heap.size st.h.length) (fun b hb => gBox_imm hb) (by simp [gBox]) hs h4 h5 (Nat.le_succ _)
  have : (gBox g w.heap.size st.h.length).nu st.h.length = w.heap.size := by simp [gBox]
  rw [this]
  exact hb
theorem snd_hbx {tk : Bool} {x : Src} {d : Dl} (hc : chkOp P o.op (.hbx tk x) = true) (hI : Inv w g ow st a) {call : CallF} (hd : delta call st (.hbx tk x) = some d) {Q : Exit → Act → World → Prop} :
    o.wp P a w (Nxt w g ow st.h.length (d.ap o.dst st)) Q := by
  cases hop : o.op <;> rw [hop] at hc <;> try (simp [chkOp] at hc; done)
  rename_i e y
  simp only [chkOp] at hc
  simp only [delta] at hd
  split at hd
  · rename_i v is ht
    split at hd
    · rename_i hok
      obtain rfl := Option.some.inj hd
      have hrun : (execOp a.eval o).run P w = .ok (.value (.pointer (some (at_ w.heap.size 0)))) { w with heap := w.heap.push (.cells (a.eval y).cells e) } := by
        unfold execOp; rw [hop]
        simp only [Sem.run_bind, run_box, Result.andThen_ok]; rfl
      refine wp_val hrun ?_
      obtain ⟨ow1, h1, h2, h3, h4, h5⟩ := tak_cells hI hc ht hok 1 [st.h.length] 0 (by decide)
      obtain ⟨hs, hI1⟩ := h1.mkBox (w' := { w with heap := w.heap.push (.cells (a.eval y).cells e) }) (cs := v.cells) rfl rfl rfl rfl (Nat.le_of_eq h4) (fun j x u hx hu => by
        obtain ⟨c1, c2, c3⟩ := h5 j x u hx hu
        rw [Nat.zero_add] at c3
        exact ⟨c1, c2, c3⟩)
      refine ⟨_, _, h2.trans hs (Nat.le_refl _), ?_⟩
      cases hdst : o.dst with
      | none => exact ⟨hI1.defers, hI1.len, hI1.slot, hI1.box, hI1.bd, hI1.base⟩
      | some i =>
        have hnu : (gBox g w.heap.size st.h.length).nu st.h.length = w.heap.size := by simp [gBox]
        have hp : VR { w with heap := w.heap.push (.cells (a.eval y).cells e) } (gBox g w.heap.size st.h.length) (st.h ++ [v.cells]).length (.ptr st.h.length 0) (.pointer (some (at_ ((gBox g w.heap.size st.h.length).nu st.h.length) 0))) := .ptr _ _ (by simp)
        rw [hnu] at hp
        exact hI1.put i rfl hp (owns_cell rfl rfl)
    · cases hd
  · cases hd
theorem layZ_of {t : TypeId} {z : List TV} (h : layZ P t z = true) : ∃ v, (∀ w, (zeroValue t).run P w = .ok v w) ∧ (∃ i, P.info? t = some i ∧ i.zero = some v) ∧ cvals v.cells.toList z = true := by
  unfold layZ at h
  split at h
  · rename_i v hv
    unfold zeOf at hv
    cases hi : P.info? t with
    | none => rw [hi] at hv; cases hv
    | some i =>
      rw [hi] at hv
      have hz : i.zero = some v := by simpa using hv
      refine ⟨v, fun w => ?_, ⟨i, rfl, hz⟩, h⟩
      simp [zeroValue, typeInfo, hi, hz]
  · cases h
theorem cvals_cells {vs : Array Value} {xs : List TV} (h : cvals vs.toList xs = true) {m : Nat} : xs.length = vs.size ∧ ∀ (j : Nat) (x : TV) (u : Value), xs[j]? = some x → vs[j]? = some u → x.isCell = true ∧ VR w g m x u ∧ ∀ w' g' ow' q, Owns w' g' ow' q x u := by
  obtain ⟨h1, h2⟩ := cvals_get h
  refine ⟨by simpa using h1, fun j x u hx hu => ?_⟩
  obtain ⟨c1, c2, c3⟩ := cval_VR (w := w) (g := g) (m := m) (h2 j x u hx (by simpa using hu))
  exact ⟨c2, c1, c3⟩
theorem run_alloc {t : TypeId} {v : Value} (h : ∀ w, (zeroValue t).run P w = .ok v w) : (Instr.alloc t true (.tuple #[])).run P w = .ok (.pointer (some (at_ w.heap.size 0))) { w with heap := w.heap.push (.cells v.cells t) } := by
  simp [Instr.alloc, h, newVar, newRow]
theorem snd_lal {z : List TV} {d : Dl} (hc : chkOp P o.op (.lal z) = true) (hI : Inv w g ow st a) {call : CallF} (hd : delta call st (.lal z) = some d) {Q : Exit → Act → World → Prop} :
    o.wp P a w (Nxt w g ow st.h.length (d.ap o.dst st)) Q := by
  cases hop : o.op <;> rw [hop] at hc <;> try (simp [chkOp] at hc; done)
  rename_i e
  simp only [chkOp] at hc
  simp only [delta] at hd
  obtain rfl := Option.some.inj hd
  obtain ⟨v, hz, _, hcv⟩ := layZ_of hc
  have hrun : (execOp a.eval o).run P w = .ok (.value (.pointer (some (at_ w.heap.size 0)))) { w with heap := w.heap.push (.cells v.cells e) } := by
    unfold execOp; rw [hop]
    simp only [Sem.run_bind, run_alloc hz, Result.andThen_ok]; rfl
  refine wp_val hrun ?_
  obtain ⟨dd, hdd⟩ : ∃ dd, dd = o.dst.getD 0 := ⟨_, rfl⟩
  obtain ⟨h4, h5⟩ := cvals_cells (w := w) (g := g) (m := st.h.length) hcv
  have hs : Stp w g ow st.h.length { w with heap := w.heap.push (.cells v.cells e) } (gPush g w.heap.size 0) (oPush ow w.heap.size [0, dd]) :=
    Stp.push hI.bd rfl rfl rfl rfl (fun b hb => gPush_imm hb) (fun _ _ => rfl) (fun b hb => by simp [oPush, hb]) (fun q => by simp [oPush])
  have hI1 := hI.push hs rfl (fun b hb => gPush_imm hb) (fun b hb => by simp [oPush, hb])
  have hbox := BoxR.fresh (w := w) (g := g) (m := st.h.length) (m' := st.h.length) hI.bd (w' := { w with heap := w.heap.push (.cells v.cells e) }) rfl (g' := gPush g w.heap.size 0) (fun b hb => gPush_imm hb) (by simp [gPush]) hs (Nat.le_of_eq h4) (fun j x u hx hu => by
    obtain ⟨c1, c2, c3⟩ := h5 j x u hx hu
    exact ⟨c1, c2, c3 _ _ _ _⟩) (Nat.le_refl _)
  refine ⟨_, _, hs, ?_⟩
  cases hdst : o.dst with
  | none => exact ⟨hI1.defers, hI1.len, hI1.slot, hI1.box, hI1.bd, hI1.base⟩
  | some i =>
    obtain rfl : dd = i := by rw [hdd, hdst]; rfl
    exact hI1.putBox dd hbox
theorem snd_hal {z : List TV} {d : Dl} (hc : chkOp P o.op (.hal z) = true) (hI : Inv w g ow st a) {call : CallF} (hd : delta call st (.hal z) = some d) {Q : Exit → Act → World → Prop} :
    o.wp P a w (Nxt w g ow st.h.length (d.ap o.dst st)) Q := by
  cases hop : o.op <;> rw [hop] at hc <;> try (simp [chkOp] at hc; done)
  rename_i e
  simp only [chkOp] at hc
  simp only [delta] at hd
  obtain rfl := Option.some.inj hd
  obtain ⟨v, hz, _, hcv⟩ := layZ_of hc
  have hrun : (execOp a.eval o).run P w = .ok (.value (.pointer (some (at_ w.heap.size 0)))) { w with heap := w.heap.push (.cells v.cells e) } := by
    unfold execOp; rw [hop]
    simp only [Sem.run_bind, run_alloc hz, Result.andThen_ok]; rfl
  refine wp_val hrun ?_
  obtain ⟨h4, h5⟩ := cvals_cells (w := w) (g := g) (m := st.h.length) hcv
  obtain ⟨hs, hI1⟩ := hI.mkBox (w' := { w with heap := w.heap.push (.cells v.cells e) }) (cs := z) rfl rfl rfl rfl (Nat.le_of_eq h4) (fun j x u hx hu => by
    obtain ⟨c1, c2, c3⟩ := h5 j x u hx hu
    exact ⟨c1, c2, c3 _ _ _ _⟩)
  refine ⟨_, _, hs, ?_⟩
  cases hdst : o.dst with
  | none => exact ⟨hI1.defers, hI1.len, hI1.slot, hI1.box, hI1.bd, hI1.base⟩
  | some i =>
    have hnu : (gBox g w.heap.size st.h.length).nu st.h.length = w.heap.size := by simp [gBox]
    have hp : VR { w with heap := w.heap.push (.cells v.cells e) } (gBox g w.heap.size st.h.length) (st.h ++ [z]).length (.ptr st.h.length 0) (.pointer (some (at_ ((gBox g w.heap.size st.h.length).nu st.h.length) 0))) := .ptr _ _ (by simp)
    rw [hnu] at hp
    exact hI1.put i rfl hp (owns_cell rfl rfl)
end
end Go.T
