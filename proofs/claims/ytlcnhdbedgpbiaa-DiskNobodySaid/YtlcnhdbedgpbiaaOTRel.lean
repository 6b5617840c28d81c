/- What a value of the small machine says of a value of the model, in a world; what stays when the world goes on. -/
import Derived.Test.YtlcnhdbedgpbiaaOTChk
import Derived.Below
set_option linter.unusedVariables false
set_option linter.unusedSimpArgs false
namespace Go.T

structure Gh where
  imm : Nat → Nat
  nu : Nat → Nat

abbrev Ow := Nat → Option (List Nat)

/-- Cell o of block b. -/
abbrev at_ (b o : Nat) : Addr := ⟨b, o, none⟩
/-- The row of a block. -/
def RowOf (w : World) (b : Nat) (vs : Array Value) (ty : TypeId) (fr : Nat × Nat) : Prop := w.heap[b]? = some (.cells vs ty fr)
def NF (fr : Nat × Nat) (n : Nat) : Prop := fr.1 = fr.2 ∨ n ≤ fr.1

/-- What a value says of a value of the model, but for what it owns. m: how many boxes there are. -/
inductive VR (w : World) (g : Gh) (m : Nat) : TV → Value → Prop where
  | bool (b : Bool) : VR w g m (.bool b) (.bool b)
  | int (k : IntKind) (n : Int) : VR w g m (.int k n) (.int k n)
  | str (s : ByteArray) : VR w g m (.str s) (.string s)
  | ptr (i o : Nat) (h : i < m) : VR w g m (.ptr i o) (.pointer (some (at_ (g.nu i) o)))
  | nilp : VR w g m .nilp (.pointer none)
  | nils (A : Option Addr) (hA : ∀ a, A = some a → 0 < 0 → a.spot = none) : VR w g m .nils (.slice A 0 0)
  | cp (cs : List TV) (b o : Nat) (vals : Nat → Value)
      (h : ∀ (j : Nat) (x : TV), cs[j]? = some x → x.isElt = true ∧ o + j < g.imm b ∧ w.cell? (at_ b (o + j)) = some (vals j))
      (hr : ∀ (j : Nat) (x : TV), cs[j]? = some x → VR w g m x (vals j)) : VR w g m (.cp cs) (.pointer (some (at_ b o)))
  | sl (t : Tag) (l : List TV) (A : Option Addr) (c sz : Nat) (vals : Nat → Nat → Value) (hz : 0 < sz) (hc : l.length ≤ c) (hm : l.length ≤ 9223372036854775807)
      (hA : ∀ a, A = some a → 0 < c → a.spot = none) (hn : A = none → l = [])
      (he : ∀ e ∈ l, e.cells.length = sz)
      (h : ∀ (a : Addr) (i : Nat) (e : TV) (j : Nat) (x : TV), A = some a → l[i]? = some e → e.cells[j]? = some x → x.isElt = true ∧ a.off + (i * sz + j) < g.imm a.block ∧ w.cell? (at_ a.block (a.off + (i * sz + j))) = some (vals i j))
      (hr : ∀ (i : Nat) (e : TV) (j : Nat) (x : TV), l[i]? = some e → e.cells[j]? = some x → VR w g m x (vals i j)) : VR w g m (.sl t l) (.slice A l.length c)
  | asl (ag : Bool) (sz i o n c : Nat) (h : i < m) (hc : n ≤ c) (hm : n ≤ 9223372036854775807) (hrow : ∃ vs ty fr, RowOf w (g.nu i) vs ty fr ∧ o + c * sz = vs.size) :
      VR w g m (.asl ag sz i o n) (.slice (some (at_ (g.nu i) o)) n c)
  | fn (f : Nat) (cs : List TV) (vs : Array Value) (hl : cs.length = vs.size)
      (h : ∀ (j : Nat) (x : TV) (v : Value), cs[j]? = some x → vs[j]? = some v → x.isCell = true ∧ x.noOwn = true)
      (hr : ∀ (j : Nat) (x : TV) (v : Value), cs[j]? = some x → vs[j]? = some v → VR w g m x v) : VR w g m (.fn f cs) (.func (.func f) #[] vs)
  | nilf : VR w g m .nilf .nilFunc
  | agg (cs : List TV) (vs : Array Value) (hl : cs.length = vs.size) (h : ∀ (j : Nat) (x : TV) (v : Value), cs[j]? = some x → vs[j]? = some v → x.isCell = true)
      (hr : ∀ (j : Nat) (x : TV) (v : Value), cs[j]? = some x → vs[j]? = some v → VR w g m x v) : VR w g m (.agg cs) (.agg vs)
  | tup (cs : List TV) (vs : Array Value) (hl : cs.length = vs.size) (h : ∀ (j : Nat) (x : TV) (v : Value), cs[j]? = some x → vs[j]? = some v → argOk x = true)
      (hr : ∀ (j : Nat) (x : TV) (v : Value), cs[j]? = some x → vs[j]? = some v → VR w g m x v) : VR w g m (.tup cs) (.tuple vs)
  | junk (v : Value) : VR w g m .junk v

/-- A part of a value that may own something: a cell of a struct, a component of a result. -/
inductive Sub : TV → Value → List Nat → TV → Value → Prop where
  | here (x : TV) (v : Value) : Sub x v [] x v
  | agg (cs : List TV) (vs : Array Value) (k : Nat) (x : TV) (v : Value) (p : List Nat) (y : TV) (u : Value) (hx : cs[k]? = some x) (hv : vs[k]? = some v) (h : Sub x v p y u) : Sub (.agg cs) (.agg vs) (k :: p) y u
  | tup (cs : List TV) (vs : Array Value) (k : Nat) (x : TV) (v : Value) (p : List Nat) (y : TV) (u : Value) (hx : cs[k]? = some x) (hv : vs[k]? = some v) (h : Sub x v p y u) : Sub (.tup cs) (.tuple vs) (k :: p) y u

/-- Behind the n elements there is room, and it is ours. -/
def Tail (w : World) (g : Gh) (a : Addr) (n c sz : Nat) : Prop :=
  ∃ vs ty fr, RowOf w a.block vs ty fr ∧ g.imm a.block = a.off + n * sz ∧ a.off + c * sz ≤ vs.size ∧ NF fr vs.size
/-- What a value at a place owns is its own. -/
def Owns (w : World) (g : Gh) (ow : Ow) (q : List Nat) (x : TV) (v : Value) : Prop :=
  ∀ p sz s l A n c, Sub x v p (.sl (.own sz s) l) (.slice A n c) →
    0 < sz ∧ (n < c ∨ s = true → ∃ a, A = some a ∧ ow a.block = some (q ++ p) ∧ Tail w g a n c sz)
/-- A box: its cells lie in a block of their own. -/
def BoxR (w : World) (g : Gh) (m : Nat) (ow : Ow) (q : List Nat) (cs : List TV) (b : Nat) : Prop :=
  ∃ vs ty fr, RowOf w b vs ty fr ∧ cs.length ≤ vs.size ∧ NF fr vs.size ∧ g.imm b = 0 ∧ ow b = some q ∧
    (∀ j x v, cs[j]? = some x → vs[j]? = some v → x.isCell = true ∧ VR w g m x v ∧ Owns w g ow (q ++ [j]) x v)
/-- A box that may be dead. -/
def BoxD (w : World) (g : Gh) (m : Nat) (ow : Ow) (q : List Nat) (cs : List TV) (b : Nat) : Prop := dead cs = false → BoxR w g m ow q cs b

/-- Nobody's here. -/
def Far (o : Option (List Nat)) : Prop := o = none ∨ ∃ q, o = some (2 :: q)
/-- How a world goes on: what never changes stays; nothing of others is touched. -/
structure Stp (w : World) (g : Gh) (ow : Ow) (m : Nat) (w' : World) (g' : Gh) (ow' : Ow) : Prop where
  os : w'.os = w.os
  tape : w'.tape = w.tape
  output : w'.output = w.output
  size : w.heap.size ≤ w'.heap.size
  cell : ∀ b o, b < w.heap.size → o < g.imm b → w'.cell? (at_ b o) = w.cell? (at_ b o)
  imm : ∀ b, b < w.heap.size → g.imm b ≤ g'.imm b
  nu : ∀ i, i < m → g'.nu i = g.nu i
  row : ∀ b vs ty fr, RowOf w b vs ty fr → ∃ vs' fr', RowOf w' b vs' ty fr' ∧ vs'.size = vs.size
  far : ∀ b, b < w.heap.size → Far (ow b) → w'.heap[b]? = w.heap[b]? ∧ g'.imm b = g.imm b ∧ ow' b = ow b
  out : ∀ b q, ow' b = some (2 :: q) → b < w.heap.size ∧ ow b = some (2 :: q)

theorem Stp.refl (w : World) (g : Gh) (ow : Ow) (m : Nat) (h : ∀ b q, ow b = some q → b < w.heap.size) : Stp w g ow m w g ow :=
  ⟨rfl, rfl, rfl, Nat.le_refl _, fun _ _ _ _ => rfl, fun _ _ => Nat.le_refl _, fun _ _ => rfl, fun b vs ty fr hh => ⟨vs, fr, hh, rfl⟩, fun _ _ _ => ⟨rfl, rfl, rfl⟩, fun b q hq => ⟨h b _ hq, hq⟩⟩
theorem Stp.trans {w w1 w2 : World} {g g1 g2 : Gh} {ow o1 o2 : Ow} {m m1 : Nat} (h : Stp w g ow m w1 g1 o1) (k : Stp w1 g1 o1 m1 w2 g2 o2) (hm : m ≤ m1) : Stp w g ow m w2 g2 o2 where
  os := k.os.trans h.os
  tape := k.tape.trans h.tape
  output := k.output.trans h.output
  size := Nat.le_trans h.size k.size
  cell b o hb ho := (k.cell b o (Nat.lt_of_lt_of_le hb h.size) (Nat.lt_of_lt_of_le ho (h.imm b hb))).trans (h.cell b o hb ho)
  imm b hb := Nat.le_trans (h.imm b hb) (k.imm b (Nat.lt_of_lt_of_le hb h.size))
  nu i hi := (k.nu i (Nat.lt_of_lt_of_le hi hm)).trans (h.nu i hi)
  row b vs ty fr hh := by
    obtain ⟨v1, f1, h1, e1⟩ := h.row b vs ty fr hh
    obtain ⟨v2, f2, h2, e2⟩ := k.row b v1 ty f1 h1
    exact ⟨v2, f2, h2, e2.trans e1⟩
  far b hb hf := by
    obtain ⟨a1, a2, a3⟩ := h.far b hb hf
    obtain ⟨b1, b2, b3⟩ := k.far b (Nat.lt_of_lt_of_le hb h.size) (by rw [a3]; exact hf)
    exact ⟨b1.trans a1, b2.trans a2, b3.trans a3⟩
  out b q hq := by
    obtain ⟨a1, a2⟩ := k.out b q hq
    exact h.out b q a2

theorem lt_of_cell {w : World} {a : Addr} {v : Value} (h : w.cell? a = some v) : a.block < w.heap.size := by
  unfold World.cell? at h
  rcases Nat.lt_or_ge a.block w.heap.size with h' | h'
  · exact h'
  · rw [Array.getElem?_eq_none h'] at h; cases h
theorem lt_of_row {w : World} {b : Nat} {vs : Array Value} {ty : TypeId} {fr : Nat × Nat} (h : RowOf w b vs ty fr) : b < w.heap.size := by
  unfold RowOf at h
  rcases Nat.lt_or_ge b w.heap.size with h' | h'
  · exact h'
  · rw [Array.getElem?_eq_none h'] at h; cases h
theorem cell_of_row {w : World} {b o : Nat} {vs : Array Value} {ty : TypeId} {fr : Nat × Nat} (h : RowOf w b vs ty fr) : w.cell? (at_ b o) = vs[o]? := by
  unfold RowOf at h
  simp [World.cell?, h]

/-- What a value says stays true. -/
theorem VR.mono {w w' : World} {g g' : Gh} {ow ow' : Ow} {m m' : Nat} (hs : Stp w g ow m w' g' ow') (hm : m ≤ m') {x : TV} {v : Value} (h : VR w g m x v) : VR w' g' m' x v := by
  induction h with
  | bool b => exact .bool b
  | int k n => exact .int k n
  | str s => exact .str s
  | ptr i o h => rw [← hs.nu i h]; exact .ptr i o (Nat.lt_of_lt_of_le h hm)
  | nilp => exact .nilp
  | nils A hA => exact .nils A hA
  | cp cs b o vals h hr ih =>
    refine .cp cs b o vals (fun j x hx => ?_) (fun j x hx => ih j x hx)
    obtain ⟨h1, h2, h3⟩ := h j x hx
    have hb := lt_of_cell h3
    exact ⟨h1, Nat.lt_of_lt_of_le h2 (hs.imm _ hb), (hs.cell _ _ hb h2).trans h3⟩
  | sl t l A c sz vals hz hc hmx hA hn he h hr ih =>
    refine .sl t l A c sz vals hz hc hmx hA hn he (fun a i e j x ha hi hx => ?_) (fun i e j x hi hx => ih i e j x hi hx)
    obtain ⟨h1, h2, h3⟩ := h a i e j x ha hi hx
    have hb := lt_of_cell h3
    exact ⟨h1, Nat.lt_of_lt_of_le h2 (hs.imm _ hb), (hs.cell _ _ hb h2).trans h3⟩
  | asl ag sz i o n c h hc hmx hrow =>
    rw [← hs.nu i h]
    obtain ⟨vs, ty, fr, h1, h2⟩ := hrow
    obtain ⟨vs', fr', h3, h4⟩ := hs.row _ _ _ _ h1
    exact .asl ag sz i o n c (Nat.lt_of_lt_of_le h hm) hc hmx ⟨vs', ty, fr', by rw [hs.nu i h]; exact h3, by omega⟩
  | fn f cs vs hl h hr ih => exact .fn f cs vs hl h ih
  | nilf => exact .nilf
  | agg cs vs hl h hr ih => exact .agg cs vs hl h ih
  | tup cs vs hl h hr ih => exact .tup cs vs hl h ih
  | junk v => exact .junk v

theorem Sub.lbl {x : TV} {v : Value} {p : List Nat} {y : TV} {u : Value} (h : Sub x v p y u) (hx : x.isElt = true) : y.isElt = true ∧ p = [] := by
  cases h with
  | here => exact ⟨hx, rfl⟩
  | agg => simp [TV.isElt, TV.isCell] at hx
  | tup => simp [TV.isElt, TV.isCell] at hx
/-- What owns nothing. -/
def TV.poor : TV → Bool
  | .sl (.own ..) _ => false
  | .agg cs => cs.all TV.noOwn
  | .tup vs => vs.all fun v => match v with
    | .agg cs => cs.all TV.noOwn
    | .sl (.own ..) _ => false
    | .tup _ => false
    | _ => true
  | _ => true
theorem Sub.cell {x : TV} {v : Value} {p : List Nat} {y : TV} {u : Value} (h : Sub x v p y u) (hx : x.isCell = true) : y = x ∧ u = v ∧ p = [] := by
  cases h with
  | here => exact ⟨rfl, rfl, rfl⟩
  | agg => simp [TV.isCell] at hx
  | tup => simp [TV.isCell] at hx
theorem owns_cell {w : World} {g : Gh} {ow : Ow} {q : List Nat} {x : TV} {v : Value} (hx : x.isCell = true) (hn : x.noOwn = true) : Owns w g ow q x v := by
  intro p sz s l A n c hs
  obtain ⟨rfl, _, _⟩ := hs.cell hx
  simp [TV.noOwn] at hn
/-- Whose parts all own nothing. -/
theorem owns_agg {w : World} {g : Gh} {ow : Ow} {q : List Nat} {cs : List TV} {v : Value} (h : ∀ x ∈ cs, x.isCell = true ∧ x.noOwn = true) : Owns w g ow q (.agg cs) v := by
  intro p sz s l A n c hs
  cases hs with
  | agg _ vs k x v p _ _ hx hv h' =>
    have := h x (List.mem_of_getElem? hx)
    obtain ⟨rfl, _, _⟩ := h'.cell this.1
    simp [TV.noOwn] at this
theorem BoxR.d {w : World} {g : Gh} {m : Nat} {ow : Ow} {q : List Nat} {cs : List TV} {b : Nat} (h : BoxR w g m ow q cs b) : BoxD w g m ow q cs b := fun _ => h
theorem shr0_noOwn (x : TV) : x.shr0.noOwn = true := by cases x <;> rfl
theorem shr0_isCell (x : TV) : x.shr0.isCell = x.isCell := by cases x <;> rfl
theorem VR.shr0 {w : World} {g : Gh} {m : Nat} {x : TV} {v : Value} (h : VR w g m x v) : VR w g m x.shr0 v := by
  cases h
  case sl t l A c sz vals hz hc hmx hA hn he h hr => exact .sl .shr l A c sz vals hz hc hmx hA hn he h hr
  case nils A hA => exact .sl .shr [] A 0 1 (fun _ _ => default) (by decide) (by simp) (by simp) hA (fun _ => rfl) (by simp) (by simp) (by simp)
  all_goals first | exact .bool _ | exact .int _ _ | exact .str _ | exact .nilp | exact .nilf | exact .junk _ | constructor <;> assumption
theorem getElem?_map_some {α β : Type} {f : α → β} {l : List α} {j : Nat} {y : β} (h : (l.map f)[j]? = some y) : ∃ x, l[j]? = some x ∧ f x = y := by
  rw [List.getElem?_map] at h
  cases h' : l[j]? with
  | none => rw [h'] at h; cases h
  | some x => rw [h'] at h; exact ⟨x, rfl, by simpa using h⟩
theorem VR.aggShr {w : World} {g : Gh} {m : Nat} {cs : List TV} {vs : Array Value} (h : VR w g m (.agg cs) (.agg vs)) : VR w g m (.agg (cs.map TV.shr0)) (.agg vs) := by
  cases h with
  | agg _ _ hl h hr =>
    refine .agg _ _ (by simpa using hl) (fun j x v hx hv => ?_) (fun j x v hx hv => ?_)
    · obtain ⟨y, hy, rfl⟩ := getElem?_map_some hx
      rw [shr0_isCell]; exact h j y v hy hv
    · obtain ⟨y, hy, rfl⟩ := getElem?_map_some hx
      exact (hr j y v hy hv).shr0
theorem VR.shrA {w : World} {g : Gh} {m : Nat} {x : TV} {v : Value} (h : VR w g m x v) : VR w g m x.shrA v := by
  have hh := h
  cases h <;> first | exact hh.shr0 | skip
  exact hh.aggShr
theorem argOk_shrA (x : TV) : argOk x.shrA = argOk x := by
  cases x <;> first | rfl | skip
  case agg cs =>
    simp only [TV.shrA, argOk]
    rw [List.all_map]
    congr 1
    funext x
    exact shr0_isCell x
theorem VR.shrT {w : World} {g : Gh} {m : Nat} {x : TV} {v : Value} (h : VR w g m x v) : VR w g m x.shrT v := by
  have hh := h
  cases h <;> first | exact hh.shrA | skip
  case tup cs vs hl h hr =>
    refine .tup _ _ (by simpa using hl) (fun j x v hx hv => ?_) (fun j x v hx hv => ?_)
    · obtain ⟨y, hy, rfl⟩ := getElem?_map_some hx
      rw [argOk_shrA]; exact h j y v hy hv
    · obtain ⟨y, hy, rfl⟩ := getElem?_map_some hx
      exact (hr j y v hy hv).shrA
theorem argOk_cells {x : TV} (h : argOk x = true) : (∃ cs, x = .agg cs ∧ ∀ y ∈ cs, y.isCell = true) ∨ x.isCell = true := by
  cases x <;> simp [argOk, TV.isCell] at h ⊢
  case agg cs => exact h
/-- A struct or a cell, owning nothing. -/
theorem owns_shrA {w : World} {g : Gh} {ow : Ow} {q : List Nat} {x : TV} {v : Value} (h : argOk x = true) : Owns w g ow q x.shrA v := by
  rcases argOk_cells h with ⟨cs, rfl, hc⟩ | hc
  · exact owns_agg (fun y hy => by
      obtain ⟨z, hz, rfl⟩ := List.mem_map.1 hy
      exact ⟨by rw [shr0_isCell]; exact hc z hz, shr0_noOwn z⟩)
  · have : x.shrA = x.shr0 := by cases x <;> first | rfl | simp [TV.isCell] at hc
    rw [this]
    exact owns_cell (by rw [shr0_isCell]; exact hc) (shr0_noOwn x)
/-- Whatever is told of a value, owning nothing, owns nothing. -/
theorem VR.owns_shrT {w w' : World} {g g' : Gh} {m : Nat} {ow : Ow} {q : List Nat} {x : TV} {v : Value} (h : VR w g m x v) : Owns w' g' ow q x.shrT v := by
  have hh := h
  cases h <;> first | exact owns_cell rfl rfl | skip
  case agg cs vs hl h hr =>
    refine owns_shrA (x := .agg cs) ?_
    simp only [argOk, List.all_eq_true]
    intro y hy
    obtain ⟨j, hj⟩ := List.getElem?_of_mem hy
    have hlt : j < vs.size := by rw [← hl]; exact (List.getElem?_eq_some_iff.1 hj).1
    exact h j y vs[j] hj (by simp [hlt])
  case tup cs vs hl h hr =>
    intro p sz s l A n c hs
    cases hs with
    | tup _ _ k x v p _ _ hx hv h' =>
      obtain ⟨y, hy, rfl⟩ := getElem?_map_some hx
      exact absurd h' (by
        intro h'
        have ho : Owns w' g' (fun _ => none) [] y.shrA v := owns_shrA (h k y v hy hv)
        have ho' : Owns w' g' (fun _ => some [9]) [] y.shrA v := owns_shrA (h k y v hy hv)
        rcases argOk_cells (h k y v hy hv) with ⟨ds, rfl, hc⟩ | hc
        · simp only [TV.shrA] at h'
          cases h' with
          | agg _ us k2 x2 v2 p2 _ _ hx2 hv2 h2 =>
            obtain ⟨z, hz, rfl⟩ := getElem?_map_some hx2
            obtain ⟨e, _, _⟩ := h2.cell (by rw [shr0_isCell]; exact hc z (List.mem_of_getElem? hz))
            have := shr0_noOwn z
            rw [← e] at this
            simp [TV.noOwn] at this
        · have : y.shrA = y.shr0 := by cases y <;> first | rfl | simp [TV.isCell] at hc
          rw [this] at h'
          obtain ⟨e, _, _⟩ := h'.cell (by rw [shr0_isCell]; exact hc)
          have := shr0_noOwn y
          rw [← e] at this
          simp [TV.noOwn] at this)
  case junk =>
    intro p sz s l A n c hs
    cases hs
theorem Owns.mono {w w' : World} {g g' : Gh} {ow ow' : Ow} {q : List Nat} {x : TV} {v : Value} (h : Owns w g ow q x v)
    (hk : ∀ b p, ow b = some (q ++ p) → w'.heap[b]? = w.heap[b]? ∧ g'.imm b = g.imm b ∧ ow' b = ow b) : Owns w' g' ow' q x v := by
  intro p sz s l A n c hs
  obtain ⟨h0, h1⟩ := h p sz s l A n c hs
  refine ⟨h0, fun hh => ?_⟩
  obtain ⟨a, ha, ho, vs, ty, fr, hr, e1, e2, e3⟩ := h1 hh
  obtain ⟨k1, k2, k3⟩ := hk _ _ ho
  exact ⟨a, ha, k3.trans ho, vs, ty, fr, by unfold RowOf at *; rw [k1]; exact hr, by rw [k2]; exact e1, e2, e3⟩
/-- What is moved to another place. -/
theorem Owns.move {w w' : World} {g g' : Gh} {ow ow' : Ow} {q q' : List Nat} {x : TV} {v : Value} (h : Owns w g ow q x v)
    (hk : ∀ b p, ow b = some (q ++ p) → w'.heap[b]? = w.heap[b]? ∧ g'.imm b = g.imm b ∧ ow' b = some (q' ++ p)) : Owns w' g' ow' q' x v := by
  intro p sz s l A n c hs
  obtain ⟨h0, h1⟩ := h p sz s l A n c hs
  refine ⟨h0, fun hh => ?_⟩
  obtain ⟨a, ha, ho, vs, ty, fr, hr, e1, e2, e3⟩ := h1 hh
  obtain ⟨k1, k2, k3⟩ := hk _ _ ho
  exact ⟨a, ha, k3, vs, ty, fr, by unfold RowOf at *; rw [k1]; exact hr, by rw [k2]; exact e1, e2, e3⟩
theorem BoxR.mono {w w' : World} {g g' : Gh} {ow ow' : Ow} {m m' : Nat} {q : List Nat} {cs : List TV} {b : Nat} (hs : Stp w g ow m w' g' ow') (hm : m ≤ m') (h : BoxR w g m ow q cs b)
    (hk : ∀ b p, ow b = some (q ++ p) → w'.heap[b]? = w.heap[b]? ∧ g'.imm b = g.imm b ∧ ow' b = ow b) : BoxR w' g' m' ow' q cs b := by
  obtain ⟨vs, ty, fr, hr, hl, hf, hi, ho, hc⟩ := h
  obtain ⟨k1, k2, k3⟩ := hk b [] (by simpa using ho)
  refine ⟨vs, ty, fr, by unfold RowOf at *; rw [k1]; exact hr, hl, hf, k2.trans hi, k3.trans ho, fun j x v hx hv => ?_⟩
  obtain ⟨c1, c2, c3⟩ := hc j x v hx hv
  exact ⟨c1, c2.mono hs hm, c3.mono (fun b' p hb' => hk b' ([j] ++ p) (by rw [hb']; simp))⟩
theorem BoxD.mono {w w' : World} {g g' : Gh} {ow ow' : Ow} {m m' : Nat} {q : List Nat} {cs : List TV} {b : Nat} (hs : Stp w g ow m w' g' ow') (hm : m ≤ m') (h : BoxD w g m ow q cs b)
    (hk : ∀ b p, ow b = some (q ++ p) → w'.heap[b]? = w.heap[b]? ∧ g'.imm b = g.imm b ∧ ow' b = ow b) : BoxD w' g' m' ow' q cs b := fun hd => (h hd).mono hs hm hk
theorem live_some {h : Heap} {i : Nat} {cs : List TV} (hl : live h i = some cs) : h[i]? = some cs ∧ dead cs = false := by
  unfold live at hl
  split at hl
  · rename_i cs' hc
    split at hl
    · cases hl
    · rename_i hd
      obtain rfl := Option.some.inj hl
      exact ⟨hc, by simpa using hd⟩
  · cases hl
end Go.T
