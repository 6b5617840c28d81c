/- A row's arguments, opened: numbers, flags, texts, slices of them and of structs of them. -/
import Derived.Test.YtlcnhdbedgpbiaaOTClone
set_option linter.unusedVariables false
set_option linter.unusedSimpArgs false
set_option maxRecDepth 10000
namespace Go.T
open Go.RowKit
/-- The shape of a cell. -/
inductive Sh where
  | int (k : IntKind)
  | bool
  | str
  | sl (ag : Bool) (ss : List Sh)
mutual
def Sh.fits : Sh → TV → Prop
  | .int k, x => ∃ n, (Lit.int k n).wf = true ∧ x = .int k n
  | .bool, x => ∃ b, x = .bool b
  | .str, x => ∃ s : ByteArray, s.size ≤ 9223372036854775807 ∧ x = .str s
  | .sl ag ss, x => ∃ l : List TV, l.length ≤ 9223372036854775807 ∧ x = .sl .shr l ∧ ∀ e ∈ l, ∃ cs, Sh.fitss ss cs ∧ cs.length = ss.length ∧ (if ag then e = .agg cs else cs = [e])
def Sh.fitss : List Sh → List TV → Prop
  | [], xs => xs = []
  | s :: ss, xs => ∃ x xs', xs = x :: xs' ∧ Sh.fits s x ∧ Sh.fitss ss xs'
end
theorem Sh.fits_elt {s : Sh} {x : TV} (h : s.fits x) : x.isElt = true := by
  cases s <;> simp only [Sh.fits] at h
  · obtain ⟨n, _, rfl⟩ := h; rfl
  · obtain ⟨n, rfl⟩ := h; rfl
  · obtain ⟨n, _, rfl⟩ := h; rfl
  · obtain ⟨n, _, rfl, _⟩ := h; rfl
theorem Sh.fits_cells {s : Sh} {x : TV} (h : s.fits x) : x.cells = [x] := by
  cases s <;> simp only [Sh.fits] at h
  · obtain ⟨n, _, rfl⟩ := h; rfl
  · obtain ⟨n, rfl⟩ := h; rfl
  · obtain ⟨n, _, rfl⟩ := h; rfl
  · obtain ⟨n, _, rfl, _⟩ := h; rfl
theorem Sh.fitss_len {ss : List Sh} {xs : List TV} (h : Sh.fitss ss xs) : xs.length = ss.length := by
  induction ss generalizing xs with
  | nil => simp only [Sh.fitss] at h; subst h; rfl
  | cons s ss ih =>
    simp only [Sh.fitss] at h
    obtain ⟨x, xs', rfl, _, h⟩ := h
    simp [ih h]
theorem Sh.fitss_app {ss ss' : List Sh} {xs xs' : List TV} (h : Sh.fitss ss xs) (h' : Sh.fitss ss' xs') : Sh.fitss (ss ++ ss') (xs ++ xs') := by
  induction ss generalizing xs with
  | nil => simp only [Sh.fitss] at h; subst h; exact h'
  | cons s ss ih =>
    simp only [Sh.fitss] at h
    obtain ⟨x, ys, rfl, h1, h⟩ := h
    simp only [List.cons_append, Sh.fitss]
    exact ⟨x, ys ++ xs', rfl, h1, ih h⟩
theorem Sh.fitss_get {ss : List Sh} {xs : List TV} (h : Sh.fitss ss xs) {j : Nat} {x : TV} (hx : xs[j]? = some x) : ∃ s : Sh, s.fits x := by
  induction ss generalizing xs j with
  | nil => simp only [Sh.fitss] at h; subst h; simp at hx
  | cons s ss ih =>
    simp only [Sh.fitss] at h
    obtain ⟨y, ys, rfl, h1, h⟩ := h
    cases j with
    | zero => simp at hx; subst hx; exact ⟨s, h1⟩
    | succ j => exact ih (j := j) h (by simpa using hx)
def shFs (P : Program) (rec : TypeId → Option (List Sh)) : List Field → Nat → Option (List Sh)
  | [], _ => some []
  | f :: fs, off => if f.offset = off then match rec f.type with
      | some a => if a.length = P.cellsOf f.type then match shFs P rec fs (off + a.length) with
          | some b => some (a ++ b)
          | none => none
        else none
      | none => none
    else none
/-- A type's cells. -/
def shOf (P : Program) : Nat → TypeId → Option (List Sh)
  | 0, _ => none
  | n + 1, t => match P.underlying t with
    | some .bool => some [.bool]
    | some (.int k) => some [.int k]
    | some .string => some [.str]
    | some (.slice e) => match shOf P n e with
      | some ss => if ss.length = P.cellsOf e ∧ 0 < ss.length then match P.underlying e with
          | some (.struct _) => some [.sl true ss]
          | _ => if ss.length = 1 then some [.sl false ss] else none
        else none
      | none => none
    | some (.struct fs) => match shFs P (shOf P n) fs.toList 0 with
      | some ss => if ss.length = P.cellsOf t then some ss else none
      | none => none
    | _ => none
variable {H : Type} {enc : TypeId × Value → H} {P : Program} {w : World} {base : Nat} {held : Bool}
/-- Cells, opened. -/
def Opn (w : World) (ss : List Sh) (cs : List Value) : Prop :=
  ∃ xs, Sh.fitss ss xs ∧ xs.length = cs.length ∧ ∀ (j : Nat) (x : TV) (v : Value), xs[j]? = some x → cs[j]? = some v → VR w (gOf w) 0 x v
theorem Opn.one {s : Sh} {x : TV} {v : Value} (h : s.fits x) (hv : VR w (gOf w) 0 x v) : Opn w [s] [v] := by
  refine ⟨[x], by simp only [Sh.fitss]; exact ⟨x, [], rfl, h, rfl⟩, rfl, fun j y u hj hu => ?_⟩
  cases j with
  | zero => simp at hj hu; subst hj; subst hu; exact hv
  | succ j => simp at hj
theorem Opn.app {ss ss' : List Sh} {cs cs' : List Value} (h : Opn w ss cs) (h' : Opn w ss' cs') : Opn w (ss ++ ss') (cs ++ cs') := by
  obtain ⟨xs, a1, a2, a3⟩ := h
  obtain ⟨ys, b1, b2, b3⟩ := h'
  refine ⟨xs ++ ys, Sh.fitss_app a1 b1, by simp [a2, b2], fun j x v hj hv => ?_⟩
  by_cases hlt : j < xs.length
  · rw [List.getElem?_append_left hlt] at hj
    rw [List.getElem?_append_left (by omega)] at hv
    exact a3 j x v hj hv
  · rw [List.getElem?_append_right (by omega)] at hj
    rw [List.getElem?_append_right (by omega)] at hv
    rw [a2] at hj
    exact b3 _ x v hj hv
theorem opened_fields {rec : TypeId → Option (List Sh)} {cs : List Value} {fs : List Field} (h : ∀ f ∈ fs, ∀ ss, rec f.type = some ss → ss.length = P.cellsOf f.type → Opn w ss ((cs.drop f.offset).take (P.cellsOf f.type))) :
    ∀ off ss, shFs P rec fs off = some ss → Opn w ss ((cs.drop off).take ss.length) := by
  induction fs with
  | nil =>
    intro off ss hs
    simp only [shFs] at hs
    cases hs
    exact ⟨[], rfl, by simp, by simp⟩
  | cons f fs ih =>
    intro off ss hs
    simp only [shFs] at hs
    split at hs
    · rename_i ho
      split at hs
      · rename_i a ha
        split at hs
        · rename_i hl
          split at hs
          · rename_i b hb
            cases hs
            have h1 := h f (by simp) a ha hl
            have h2 := ih (fun g hg => h g (by simp [hg])) _ _ hb
            have := h1.app h2
            rw [ho, ← hl] at this
            rw [List.length_append, List.take_add, List.drop_drop]
            exact this
          · cases hs
        · cases hs
      · cases hs
    · cases hs
theorem opened : ∀ (n : Nat) (t : TypeId) (ss : List Sh) (cs : List Value) (x : DataW H × List MemPlace) (fuel : Nat), shOf P n t = some ss → DataW.trod enc P w base (fun _ => true) held fuel t cs = some x → Opn w ss cs := by
  intro n
  induction n with
  | zero => intro t ss cs x fuel h; simp [shOf] at h
  | succ n ih =>
    intro t ss cs x fuel h hd
    simp only [shOf] at h
    split at h
    · rename_i hu; cases h
      obtain ⟨b, rfl, _⟩ := DataW.trod_bool hu hd
      exact .one (by simp only [Sh.fits]; exact ⟨b, rfl⟩) (.bool b)
    · rename_i k hu; cases h
      obtain ⟨m, rfl, _, hw⟩ := DataW.trod_int hu hd
      exact .one (by simp only [Sh.fits]; exact ⟨m, hw, rfl⟩) (.int k m)
    · rename_i hu; cases h
      obtain ⟨s, rfl, _, hs⟩ := DataW.trod_string hu hd
      exact .one (by simp only [Sh.fits]; exact ⟨s, by unfold maxLen at hs; omega, rfl⟩) (.str s)
    · rename_i e hu
      split at h
      · rename_i ss' he
        split at h
        · rename_i hl
          obtain ⟨hl, hpos⟩ := hl
          obtain ⟨ag, rfl, hag⟩ : ∃ ag, ss = [.sl ag ss'] ∧ (ag = true ∨ ss'.length = 1) := by
            split at h
            · cases h; exact ⟨true, rfl, .inl rfl⟩
            · split at h
              · cases h; exact ⟨false, rfl, .inr (by assumption)⟩
              · cases h
          rcases DataW.trod_slice hu hd with ⟨rfl, _⟩ | ⟨a, len, cap, elems, rest, m, _, rfl, _, hb, hlc, hm, hel, hes, hsp, _⟩
          · refine .one (x := .sl .shr []) (by simp only [Sh.fits]; exact ⟨[], by simp, rfl, by simp⟩) ?_
            exact .sl .shr [] none 0 1 (fun _ _ => undef) (by decide) (by simp) (by simp) (by simp) (fun _ => rfl) (by simp) (by simp) (by simp)
          · obtain ⟨hrl, hrs⟩ := hsp rfl
            have hall : ∀ i, i < cap → ∃ cs', w.cells? base (a.add (i * P.cellsOf e)) (P.cellsOf e) = some cs' ∧ ∃ y, DataW.trod enc P w base (fun _ => true) held m e cs' = some y := by
              intro i hi
              by_cases hil : i < len
              · have h1 := hes i hil
                rw [List.getElem?_eq_getElem (by omega)] at h1
                obtain ⟨cs', h2, h3⟩ := Option.bind_eq_some_iff.1 h1
                exact ⟨cs', h2, _, h3⟩
              · have h1 := hrs (i - len) (by omega)
                rw [List.getElem?_eq_getElem (by omega), show len + (i - len) = i by omega] at h1
                obtain ⟨cs', h2, h3⟩ := Option.bind_eq_some_iff.1 h1
                exact ⟨cs', h2, _, h3⟩
            have hspot : 0 < cap → a.spot = none := by
              intro hc
              obtain ⟨cs', h2, _⟩ := hall 0 hc
              obtain ⟨_, h3, h4⟩ := World.cells?_some h2
              have h5 := h4 0 (by omega)
              rw [List.getElem?_eq_getElem (by omega)] at h5
              simp [Addr.add] at h5
              unfold World.cell? at h5
              split at h5
              · split at h5
                · cases h5
                · rename_i hh; simpa using hh
              · cases h5
            have hopn : ∀ i, i < len → ∃ xs : List TV, Sh.fitss ss' xs ∧ xs.length = P.cellsOf e ∧ ∀ (j : Nat) (x : TV), xs[j]? = some x → ∃ v, w.cell? (at_ a.block (a.off + (i * P.cellsOf e + j))) = some v ∧ VR w (gOf w) 0 x v := by
              intro i hi
              obtain ⟨cs', h2, y, h3⟩ := hall i (by omega)
              obtain ⟨xs, g1, g2, g3⟩ := ih e ss' cs' y m he h3
              obtain ⟨_, k1, k2⟩ := World.cells?_some h2
              refine ⟨xs, g1, by omega, fun j x hj => ?_⟩
              have hjl : j < P.cellsOf e := by have := (List.getElem?_eq_some_iff.1 hj).1; omega
              have h6 := k2 j hjl
              rw [List.getElem?_eq_getElem (by omega)] at h6
              have hs := hspot (by omega)
              refine ⟨_, ?_, g3 j x _ hj (List.getElem?_eq_getElem (by omega))⟩
              obtain ⟨b, o, sp⟩ := a
              simp only at hs
              subst hs
              rw [show (⟨b, o, none⟩ : Addr) = at_ b o from rfl, at_add, at_add] at h6
              rw [← h6]
              simp [Nat.add_assoc]
            let f : Nat → List TV := fun i => if hi : i < len then Classical.choose (hopn i hi) else []
            have hf : ∀ i, i < len → Sh.fitss ss' (f i) ∧ (f i).length = P.cellsOf e ∧ ∀ (j : Nat) (x : TV), (f i)[j]? = some x → ∃ v, w.cell? (at_ a.block (a.off + (i * P.cellsOf e + j))) = some v ∧ VR w (gOf w) 0 x v := by
              intro i hi
              simp only [f, hi, dite_true]
              exact Classical.choose_spec (hopn i hi)
            let el : Nat → TV := fun i => if ag = true then .agg (f i) else (f i).headD .junk
            have hel2 : ∀ i, i < len → (el i).cells = f i ∧ (if ag then el i = .agg (f i) else f i = [el i]) := by
              intro i hi
              obtain ⟨f1, f2, _⟩ := hf i hi
              cases ag with
              | true => exact ⟨rfl, rfl⟩
              | false =>
                rcases hag with hag | hag
                · cases hag
                · have : (f i).length = 1 := by omega
                  match hfi : f i, this with
                  | [y], _ =>
                    have he1 : el i = y := by simp [el, hfi]
                    obtain ⟨s, hs⟩ := Sh.fitss_get f1 (j := 0) (x := y) (by rw [hfi]; rfl)
                    rw [he1, Sh.fits_cells hs]
                    exact ⟨rfl, rfl⟩
            have hlen0 : ((List.range len).map el).length = len := by simp
            have hget : ∀ (i : Nat) (e' : TV), ((List.range len).map el)[i]? = some e' → i < len ∧ e' = el i := by
              intro i e' hi
              have hil : i < len := by have := (List.getElem?_eq_some_iff.1 hi).1; omega
              rw [List.getElem?_map, List.getElem?_range hil] at hi
              exact ⟨hil, by simpa using hi.symm⟩
            refine .one (x := .sl .shr ((List.range len).map el)) ?_ ?_
            · simp only [Sh.fits]
              refine ⟨_, by rw [hlen0]; unfold maxLen at hm; omega, rfl, fun e' he' => ?_⟩
              obtain ⟨i, hi⟩ := List.getElem?_of_mem he'
              obtain ⟨hil, rfl⟩ := hget i e' hi
              exact ⟨f i, (hf i hil).1, by rw [(hf i hil).2.1, hl], (hel2 i hil).2⟩
            · have := VR.sl (w := w) (g := gOf w) (m := 0) .shr ((List.range len).map el) (some a) cap (P.cellsOf e) (fun i j => (w.cell? (at_ a.block (a.off + (i * P.cellsOf e + j)))).getD undef) (by omega) (by rw [hlen0]; exact hlc) (by rw [hlen0]; unfold maxLen at hm; omega)
                (fun ad had hc => by cases had; exact hspot hc) (by simp) (fun e' he' => by
                  obtain ⟨i, hi⟩ := List.getElem?_of_mem he'
                  obtain ⟨hil, rfl⟩ := hget i e' hi
                  rw [(hel2 i hil).1, (hf i hil).2.1]) (fun ad i e' j x had hi hj => by
                  cases had
                  obtain ⟨hil, rfl⟩ := hget i e' hi
                  rw [(hel2 i hil).1] at hj
                  obtain ⟨v, hv, _⟩ := (hf i hil).2.2 j x hj
                  obtain ⟨s, hs⟩ := Sh.fitss_get (hf i hil).1 hj
                  exact ⟨Sh.fits_elt hs, gOf_lt hv, by rw [hv]; rfl⟩) (fun i e' j x hi hj => by
                  obtain ⟨hil, rfl⟩ := hget i e' hi
                  rw [(hel2 i hil).1] at hj
                  obtain ⟨v, hv, hvr⟩ := (hf i hil).2.2 j x hj
                  simp only [hv, Option.getD_some]
                  exact hvr)
              rw [hlen0] at this
              exact this
        · cases h
      · cases h
    · rename_i fs hu
      split at h
      · rename_i ss' hss
        split at h
        · rename_i hl
          cases h
          obtain ⟨ys, m, _, _, hcl, hyl, hfs⟩ := DataW.trod_struct hu hd
          have := opened_fields (P := P) (w := w) (rec := shOf P n) (cs := cs) (fs := fs.toList) (fun f hf ss hs hsl => by
            obtain ⟨i, hi⟩ := List.getElem?_of_mem hf
            rw [Array.getElem?_toList] at hi
            have h1 := hfs i f hi
            rw [List.getElem?_eq_getElem (by rw [hyl]; exact (Array.getElem?_eq_some_iff.1 hi).1)] at h1
            exact ih f.type ss _ _ m hs h1) 0 _ hss
          rw [List.drop_zero, List.take_of_length_le (by omega)] at this
          exact this
        · cases h
      · cases h
    · cases h
/-- An argument, opened. -/
theorem arg_open {n : Nat} {t : TypeId} {s : Sh} {v : Value} {d : DataW H} {p : List MemPlace} (hs : shOf P n t = some [s]) (hv : v.cells.toList = [v]) (h : DataW.Trod enc P w base (fun _ => true) held t v d p) : ∃ x, s.fits x ∧ ArgR w x v := by
  obtain ⟨fuel, hf⟩ := h
  rw [hv] at hf
  obtain ⟨xs, h1, h2, h3⟩ := opened n t _ _ _ fuel hs hf
  simp only [Sh.fitss] at h1
  obtain ⟨x, xs', rfl, h4, rfl⟩ := h1
  have h5 := h3 0 x v rfl rfl
  have he := Sh.fits_elt h4
  have hc := isElt_isCell he
  refine ⟨x, h4, ?_, h5, fun ow q => owns_cell hc ?_⟩
  · cases x <;> first | rfl | simp [TV.isCell] at hc
  · cases x <;> first | rfl | (rename_i tg l; cases tg <;> first | rfl | simp [TV.isElt] at he)
theorem list_map_of {α : Type} {f : α → TV} {L : List TV} (h : ∀ e ∈ L, ∃ a, e = f a) : ∃ l : List α, L = l.map f := by
  induction L with
  | nil => exact ⟨[], rfl⟩
  | cons e L ih =>
    obtain ⟨a, rfl⟩ := h e (by simp)
    obtain ⟨l, rfl⟩ := ih (fun e he => h e (by simp [he]))
    exact ⟨a :: l, rfl⟩
/-- A slice of whatever, by its elements. -/
theorem Sh.sl_map {α : Type} {f : α → TV} {ag : Bool} {ss : List Sh} {x : TV} (h : (Sh.sl ag ss).fits x) (hf : ∀ e cs, Sh.fitss ss cs → (if ag then e = .agg cs else cs = [e]) → ∃ a, e = f a) :
    ∃ l : List α, l.length ≤ 9223372036854775807 ∧ x = .sl .shr (l.map f) := by
  simp only [Sh.fits] at h
  obtain ⟨L, h1, rfl, h2⟩ := h
  obtain ⟨l, rfl⟩ := list_map_of (f := f) (fun e he => by
    obtain ⟨cs, h3, _, h4⟩ := h2 e he
    exact hf e cs h3 h4)
  exact ⟨l, by simpa using h1, rfl⟩
theorem Sh.fitss_one {s : Sh} {cs : List TV} (h : Sh.fitss [s] cs) : ∃ x, cs = [x] ∧ s.fits x := by
  simp only [Sh.fitss] at h
  obtain ⟨x, xs, rfl, h1, rfl⟩ := h
  exact ⟨x, rfl, h1⟩
theorem Sh.bytes {x : TV} (h : (Sh.sl false [.int .u8]).fits x) : ∃ b : List UInt8, b.length ≤ 9223372036854775807 ∧ x = .sl .shr (b.map fun c => .int .u8 c.toNat) := by
  refine Sh.sl_map h fun e cs h1 h2 => ?_
  obtain ⟨x, rfl, h3⟩ := Sh.fitss_one h1
  simp at h2
  subst h2
  simp only [Sh.fits] at h3
  obtain ⟨n, hn, rfl⟩ := h3
  simp only [Lit.wf, Bool.and_eq_true, decide_eq_true_eq] at hn
  have h4 : 0 ≤ n ∧ n ≤ 255 := hn
  refine ⟨UInt8.ofNat n.toNat, ?_⟩
  simp
  omega
theorem Sh.nums {k : IntKind} {x : TV} (h : (Sh.sl false [.int k]).fits x) : ∃ l : List Int, l.length ≤ 9223372036854775807 ∧ x = .sl .shr (l.map (.int k)) := by
  refine Sh.sl_map h fun e cs h1 h2 => ?_
  obtain ⟨x, rfl, h3⟩ := Sh.fitss_one h1
  simp at h2
  subst h2
  simp only [Sh.fits] at h3
  obtain ⟨n, hn, rfl⟩ := h3
  exact ⟨n, rfl⟩
theorem callT_sound {P : Program} {tab : Nat → Option TF} {ext : Nat → Option CallF} (ht : TabSound P tab) (he : ExtOrd ext) (hx : ExtSound P ext) : CallSound P (callT tab ext) := by
  intro f as h r hr
  obtain ⟨n, hn⟩ := (callT_iff tab ext).1 hr
  exact sound ht he hx n f as h r hn
theorem glue1 {P : Program} {call : CallF} (hcs : CallSound P call) {f : Nat} {x0 : TV} {v0 : Value} {W : World} {b kp : Bool} (h : call f [x0] [] = some ⟨.bool b, [], kp⟩) (h0 : ArgR W x0 v0) : Calls P f #[v0] W (fun e W' => e = .returned (.bool b) ∧ Below W.heap.size W W') :=
  glue hcs h rfl fun k x v hx hv => by
    match k with
    | 0 => simp at hx hv; subst hx; subst hv; exact h0
    | k + 1 => simp at hx
theorem glue2 {P : Program} {call : CallF} (hcs : CallSound P call) {f : Nat} {x0 x1 : TV} {v0 v1 : Value} {W : World} {b kp : Bool} (h : call f [x0, x1] [] = some ⟨.bool b, [], kp⟩) (h0 : ArgR W x0 v0) (h1 : ArgR W x1 v1) : Calls P f #[v0, v1] W (fun e W' => e = .returned (.bool b) ∧ Below W.heap.size W W') :=
  glue hcs h rfl fun k x v hx hv => by
    match k with
    | 0 => simp at hx hv; subst hx; subst hv; exact h0
    | 1 => simp at hx hv; subst hx; subst hv; exact h1
    | k + 2 => simp at hx
theorem glue3 {P : Program} {call : CallF} (hcs : CallSound P call) {f : Nat} {x0 x1 x2 : TV} {v0 v1 v2 : Value} {W : World} {b kp : Bool} (h : call f [x0, x1, x2] [] = some ⟨.bool b, [], kp⟩) (h0 : ArgR W x0 v0) (h1 : ArgR W x1 v1) (h2 : ArgR W x2 v2) : Calls P f #[v0, v1, v2] W (fun e W' => e = .returned (.bool b) ∧ Below W.heap.size W W') :=
  glue hcs h rfl fun k x v hx hv => by
    match k with
    | 0 => simp at hx hv; subst hx; subst hv; exact h0
    | 1 => simp at hx hv; subst hx; subst hv; exact h1
    | 2 => simp at hx hv; subst hx; subst hv; exact h2
    | k + 3 => simp at hx
theorem glue4 {P : Program} {call : CallF} (hcs : CallSound P call) {f : Nat} {x0 x1 x2 x3 : TV} {v0 v1 v2 v3 : Value} {W : World} {b kp : Bool} (h : call f [x0, x1, x2, x3] [] = some ⟨.bool b, [], kp⟩) (h0 : ArgR W x0 v0) (h1 : ArgR W x1 v1) (h2 : ArgR W x2 v2) (h3 : ArgR W x3 v3) : Calls P f #[v0, v1, v2, v3] W (fun e W' => e = .returned (.bool b) ∧ Below W.heap.size W W') :=
  glue hcs h rfl fun k x v hx hv => by
    match k with
    | 0 => simp at hx hv; subst hx; subst hv; exact h0
    | 1 => simp at hx hv; subst hx; subst hv; exact h1
    | 2 => simp at hx hv; subst hx; subst hv; exact h2
    | 3 => simp at hx hv; subst hx; subst hv; exact h3
    | k + 4 => simp at hx
end Go.T
