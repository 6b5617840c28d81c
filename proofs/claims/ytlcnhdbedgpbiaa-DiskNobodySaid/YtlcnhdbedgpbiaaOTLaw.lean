/- Laws of the small machine by itself: equality that is computed; boxes that values lead to. -/
import Derived.Test.YtlcnhdbedgpbiaaOTOps17
set_option linter.unusedVariables false
set_option linter.unusedSimpArgs false
set_option maxRecDepth 10000
namespace Go.T
mutual
theorem TV.beq_eq : ∀ (a b : TV), TV.beq a b = true → a = b
  | .bool a, b, h => by cases b <;> simp_all [TV.beq]
  | .int k n, b, h => by cases b <;> simp_all [TV.beq]
  | .str a, b, h => by cases b <;> simp_all [TV.beq]
  | .ptr i o, b, h => by cases b <;> simp_all [TV.beq]
  | .nilp, b, h => by cases b <;> simp_all [TV.beq]
  | .nils, b, h => by cases b <;> simp_all [TV.beq]
  | .nilf, b, h => by cases b <;> simp_all [TV.beq]
  | .junk, b, h => by cases b <;> simp_all [TV.beq]
  | .lp i o, b, h => by cases b <;> simp_all [TV.beq]
  | .asl a s i o n, b, h => by cases b <;> simp_all [TV.beq]
  | .cp l, b, h => by cases b <;> simp [TV.beq] at h; rw [TV.beqs_eq l _ h]
  | .lbox l, b, h => by cases b <;> simp [TV.beq] at h; rw [TV.beqs_eq l _ h]
  | .agg l, b, h => by cases b <;> simp [TV.beq] at h; rw [TV.beqs_eq l _ h]
  | .tup l, b, h => by cases b <;> simp [TV.beq] at h; rw [TV.beqs_eq l _ h]
  | .sl g l, b, h => by cases b <;> simp [TV.beq] at h; rw [TV.beqs_eq l _ h.2, h.1]
  | .fn f l, b, h => by cases b <;> simp [TV.beq] at h; rw [TV.beqs_eq l _ h.2, h.1]
theorem TV.beqs_eq : ∀ (a b : List TV), TV.beqs a b = true → a = b
  | [], b, h => by cases b <;> simp [TV.beqs] at h; rfl
  | x :: a, b, h => by
    cases b with
    | nil => simp [TV.beqs] at h
    | cons y b => simp [TV.beqs] at h; rw [TV.beq_eq x y h.1, TV.beqs_eq a b h.2]
end
theorem Heap.beq_eq : ∀ (a b : Heap), Heap.beq a b = true → a = b
  | [], b, h => by cases b <;> simp [Heap.beq] at h; rfl
  | x :: a, b, h => by
    cases b with
    | nil => simp [Heap.beq] at h
    | cons y b => simp [Heap.beq] at h; rw [TV.beqs_eq x y h.1, Heap.beq_eq a b h.2]
theorem lts_iff {n : Nat} {l : List TV} : TV.lts n l = true ↔ ∀ x ∈ l, TV.lt n x = true := by
  induction l with
  | nil => simp [TV.lts]
  | cons x l ih => simp [TV.lts, ih]
theorem lts_get {n : Nat} {l : List TV} (h : TV.lts n l = true) {j : Nat} {x : TV} (hx : l[j]? = some x) : TV.lt n x = true := lts_iff.1 h x (List.mem_of_getElem? hx)
mutual
theorem TV.lt_mono {n m : Nat} (h : n ≤ m) : ∀ (a : TV), TV.lt n a = true → TV.lt m a = true
  | .bool a, _ => rfl
  | .int k _, _ => rfl
  | .str a, _ => rfl
  | .ptr i o, hh => by simp [TV.lt] at hh ⊢; omega
  | .nilp, _ => rfl
  | .nils, _ => rfl
  | .nilf, _ => rfl
  | .junk, hh => by simp [TV.lt] at hh
  | .lp i o, hh => by simp [TV.lt] at hh
  | .lbox l, hh => by simp [TV.lt] at hh
  | .asl a s i o n, hh => by simp [TV.lt] at hh ⊢; omega
  | .cp l, hh => by simp only [TV.lt] at hh ⊢; exact TV.lts_mono h l hh
  | .agg l, hh => by simp only [TV.lt] at hh ⊢; exact TV.lts_mono h l hh
  | .tup l, hh => by simp only [TV.lt] at hh ⊢; exact TV.lts_mono h l hh
  | .sl g l, hh => by simp only [TV.lt] at hh ⊢; exact TV.lts_mono h l hh
  | .fn f l, hh => by simp only [TV.lt] at hh ⊢; exact TV.lts_mono h l hh
theorem TV.lts_mono {n m : Nat} (h : n ≤ m) : ∀ (a : List TV), TV.lts n a = true → TV.lts m a = true
  | [], _ => rfl
  | x :: a, hh => by simp [TV.lts] at hh ⊢; exact ⟨TV.lt_mono h x hh.1, TV.lts_mono h a hh.2⟩
end
theorem cells_lt {n : Nat} {e x : TV} (h : TV.lt n e = true) (hx : x ∈ e.cells) : TV.lt n x = true := by
  cases e <;> first | (simp [TV.cells] at hx; subst hx; exact h) | skip
  case agg cs => exact lts_iff.1 (by simpa [TV.lt] using h) x (by simpa [TV.cells] using hx)
theorem cells_lt' {n : Nat} {e : TV} (hn : ∀ x ∈ e.cells, TV.lt n x = true) : TV.lt n e = true := by
  cases e
  case agg cs => simp only [TV.lt]; exact lts_iff.2 (fun x hx => hn x (by simpa [TV.cells] using hx))
  all_goals exact hn _ (List.mem_singleton.2 rfl)

/-- What leads to no box from number n on is told with fewer boxes, and another list of their places. -/
theorem VR.down {w : World} {g : Gh} {m n : Nat} {x : TV} {v : Value} (h : VR w g m x v) {nu' : Nat → Nat} (hnu : ∀ i, i < n → nu' i = g.nu i) (hl : TV.lt n x = true) {m' : Nat} (hm : n ≤ m') : VR w ⟨g.imm, nu'⟩ m' x v := by
  induction h with
  | bool b => exact .bool b
  | int k n => exact .int k n
  | str s => exact .str s
  | ptr i o h => simp [TV.lt] at hl; rw [← hnu i hl]; exact .ptr i o (by omega)
  | nilp => exact .nilp
  | nils A hA => exact .nils A hA
  | cp cs b o vals h hr ih => exact .cp cs b o vals h (fun j x hx => ih j x hx (lts_get hl hx))
  | sl t l A c sz vals hz hc hmx hA hn he h hr ih =>
    exact .sl t l A c sz vals hz hc hmx hA hn he h (fun i e j x hi hx => ih i e j x hi hx (cells_lt (lts_get hl hi) (List.mem_of_getElem? hx)))
  | asl ag sz i o k c h hc hmx hrow =>
    simp [TV.lt] at hl
    rw [← hnu i hl]
    exact .asl ag sz i o k c (by omega) hc hmx (by show ∃ vs ty fr, RowOf w (nu' i) vs ty fr ∧ _; rw [hnu i hl]; exact hrow)
  | fn f cs vs hl' h hr ih => exact .fn f cs vs hl' h (fun j x v hx hv => ih j x v hx hv (lts_get hl hx))
  | nilf => exact .nilf
  | agg cs vs hl' h hr ih => exact .agg cs vs hl' h (fun j x v hx hv => ih j x v hx hv (lts_get hl hx))
  | tup cs vs hl' h hr ih => exact .tup cs vs hl' h (fun j x v hx hv => ih j x v hx hv (lts_get hl hx))
  | junk v => simp [TV.lt] at hl
theorem isCell_njunk {x : TV} (h : x.isCell = true) : x ≠ .junk := by rintro rfl; simp [TV.isCell] at h
theorem argOk_njunk {x : TV} (h : argOk x = true) : x ≠ .junk := by rintro rfl; simp [argOk, TV.isCell] at h
theorem VR.lt {w : World} {g : Gh} {m : Nat} {x : TV} {v : Value} (h : VR w g m x v) (hx : x ≠ .junk) : TV.lt m x = true := by
  induction h with
  | bool b => rfl
  | int k n => rfl
  | str s => rfl
  | ptr i o h => simp [TV.lt, h]
  | nilp => rfl
  | nils A hA => rfl
  | cp cs b o vals h hr ih =>
    simp only [TV.lt]
    refine lts_iff.2 (fun x hx => ?_)
    obtain ⟨j, hj⟩ := List.getElem?_of_mem hx
    exact ih j x hj (isCell_njunk (isElt_isCell (h j x hj).1))
  | sl t l A c sz vals hz hc hmx hA hn he h hr ih =>
    simp only [TV.lt]
    refine lts_iff.2 (fun e he => cells_lt' (fun x hx => ?_))
    obtain ⟨i, hi⟩ := List.getElem?_of_mem he
    obtain ⟨j, hj⟩ := List.getElem?_of_mem hx
    cases hA' : A with
    | none => rw [hn hA'] at he; simp at he
    | some a => exact ih i e j x hi hj (isCell_njunk (isElt_isCell (h a i e j x hA' hi hj).1))
  | asl ag sz i o k c h hc hmx hrow => simp [TV.lt, h]
  | fn f cs vs hl' h hr ih =>
    simp only [TV.lt]
    refine lts_iff.2 (fun x hx => ?_)
    obtain ⟨j, hj⟩ := List.getElem?_of_mem hx
    have hlt : j < vs.size := by rw [← hl']; exact (List.getElem?_eq_some_iff.1 hj).1
    exact ih j x vs[j] hj (by simp [hlt]) (isCell_njunk (h j x vs[j] hj (by simp [hlt])).1)
  | nilf => rfl
  | agg cs vs hl' h hr ih =>
    simp only [TV.lt]
    refine lts_iff.2 (fun x hx => ?_)
    obtain ⟨j, hj⟩ := List.getElem?_of_mem hx
    have hlt : j < vs.size := by rw [← hl']; exact (List.getElem?_eq_some_iff.1 hj).1
    exact ih j x vs[j] hj (by simp [hlt]) (isCell_njunk (h j x vs[j] hj (by simp [hlt])))
  | tup cs vs hl' h hr ih =>
    simp only [TV.lt]
    refine lts_iff.2 (fun x hx => ?_)
    obtain ⟨j, hj⟩ := List.getElem?_of_mem hx
    have hlt : j < vs.size := by rw [← hl']; exact (List.getElem?_eq_some_iff.1 hj).1
    exact ih j x vs[j] hj (by simp [hlt]) (argOk_njunk (h j x vs[j] hj (by simp [hlt])))
  | junk v => exact absurd rfl hx
theorem VR.down' {w : World} {g : Gh} {m n : Nat} {x : TV} {v : Value} (h : VR w g m x v) (hl : TV.lt n x = true) : VR w g n x v := h.down (nu' := g.nu) (fun _ _ => rfl) hl (Nat.le_refl _)
end Go.T
