/- A sum that is OK does not hang on the order of the numbers, for every most and every list. No condition. -/
import Derived.Test.YtpolglgfbfjcoaaPNumsOrderx1
import Derived.Test.YtpolglgfbfjcoaaWSized
namespace Go.Proofs.Ytpolglgfbfjcoaa.Pure
open Go.RowKit Go.Proofs.Ytpolglgfbfjcoaa.PNumsOrder Go.Proofs.YtpolglgfbfjcoaaW.PrintWords Go.Proofs.YtpolglgfbfjcoaaW.PrintLast

/-- The row's word for a slice's weight, under the name that the printed row asks for. -/
theorem _root_.Go.Proofs.Ytpolglgfbfjcoaa.PrintWords.sized_ints {H : Type} {enc : TypeId × Value → H} {P : Program} {W : World} {base : Nat} {spare : Nat → Bool} {held : Bool} {t e : TypeId} {k : IntKind} {a : Option Addr} {len cap : Nat} {d : DataW H} {ps : List MemPlace} {ts : List TypeId} {ds : List (DataW H)} {j : Nat}
    (hsz : (DataW.weightsEach P ts ds).all (· ≤ reachBytes) = true) (ht : ts[j]? = some t) (hd : ds[j]? = some d) (hu : P.underlying t = some (.slice e)) (he : P.underlying e = some (.int k)) (hc : P.cellsOf e = 1) {B : Nat} (hB : P.bytesOf e = B)
    (h : DataW.Trod enc P W base spare held t (.slice a len cap) d ps) : len * B ≤ 140737488351232 :=
  Go.Proofs.YtpolglgfbfjcoaaW.PrintWords.sized_ints hsz ht hd hu he hc hB h

set_option linter.unusedSimpArgs false
set_option linter.unusedVariables false
theorem b64 {x : Int} (h : (Lit.int .i64 x).wf = true) : -9223372036854775808 ≤ x ∧ x ≤ 9223372036854775807 := by
  simpa [Lit.wf, IntKind.min, IntKind.max, IntKind.signed, IntKind.bits] using h
theorem b32 {x : Int} (h : (Lit.int .u32 x).wf = true) : 0 ≤ x ∧ x ≤ 4294967295 := by
  simpa [Lit.wf, IntKind.min, IntKind.max, IntKind.signed, IntKind.bits] using h
theorem b8 {x : Int} (h : (Lit.int .u8 x).wf = true) : 0 ≤ x ∧ x ≤ 255 := by
  simpa [Lit.wf, IntKind.min, IntKind.max, IntKind.signed, IntKind.bits] using h
theorem w64 {x : Int} (h0 : -9223372036854775808 ≤ x) (h1 : x ≤ 9223372036854775807) : wrap64 x = x := by
  unfold wrap64; omega
theorem wu64 (x : Int) : IntKind.u64.wrap x = x % 18446744073709551616 := by
  simp [IntKind.wrap, IntKind.bits, IntKind.signed]
theorem rd_drop (l : List Int) (i : Nat) (h : i < l.length) : l.drop i = rd l (i : Int) :: l.drop (i + 1) := by
  rw [List.drop_eq_getElem_cons h]; congr 1
  simp [rd, List.getD_eq_getElem?_getD, List.getElem?_eq_getElem h]
theorem rd_mem (l : List Int) (i : Nat) (h : i < l.length) : rd l (i : Int) ∈ l := by
  have : rd l (i : Int) = l[i] := by simp [rd, List.getD_eq_getElem?_getD, List.getElem?_eq_getElem h]
  rw [this]; exact List.getElem_mem h

theorem awake_at (k : Nat) (hk : 4 ≤ k) : baileylaw01_awake.f k = some true := by
  have h : baileylaw01_awake.f 4 = some true := by decide +kernel
  exact at_rounds baileylaw01_awake.mono hk h

/-- What the sum of a list is, number by number. -/
def sumS (most : Int) : Int → List Int → Int × Int
  | acc, [] => (acc, 0)
  | acc, x :: xs => if x < 0 then (0, 8) else if acc + x > 9223372036854775807 then (0, 8) else if acc + x > most then (0, 8) else sumS most (acc + x) xs
theorem add_nn {a b : Int} (ha : 0 ≤ a) (ha' : a ≤ 9223372036854775807) (hb : 0 ≤ b) (hb' : b ≤ 9223372036854775807) :
    nums_Add.f a b = some (if a + b > 9223372036854775807 then (0, 8) else (a + b, 0)) := by
  have e : (decide (a < 0) == decide (b < 0)) = true := by
    rw [decide_eq_false (by omega : ¬ a < 0), decide_eq_false (by omega : ¬ b < 0)]; rfl
  unfold nums_Add.f
  rw [if_pos e]
  by_cases h : a + b > 9223372036854775807
  · have hw : wrap64 (a + b) < 0 := by unfold wrap64; omega
    rw [decide_eq_true hw, decide_eq_false (by omega : ¬ a < 0), if_pos (by rfl), if_pos h]
  · have hw : wrap64 (a + b) = a + b := by unfold wrap64; omega
    rw [hw, decide_eq_false (by omega : ¬ a + b < 0), decide_eq_false (by omega : ¬ a < 0), if_neg (by decide), if_neg h]
theorem sum_loop (most : Int) (l : List Int) (hl : l.length ≤ 100000) (hw : ∀ x ∈ l, -9223372036854775808 ≤ x ∧ x ≤ 9223372036854775807) (d : Nat) :
    ∀ (k i : Nat) (acc : Int), i + d = l.length → 0 ≤ acc → acc ≤ 9223372036854775807 → d < k →
      nums_Sum.l0 k most acc l (l.length : Int) (i : Int) = some (sumS most acc (l.drop i)) := by
  induction d with
  | zero =>
    intro k i acc hi h0 h1 hk
    obtain ⟨k, rfl⟩ : ∃ m, k = m + 1 := ⟨k - 1, by omega⟩
    have hi' : i = l.length := by omega
    subst hi'
    rw [List.drop_length]
    simp only [nums_Sum.l0, sumS]
    rw [if_neg (by omega)]
  | succ d ih =>
    intro k i acc hi h0 h1 hk
    obtain ⟨k, rfl⟩ : ∃ m, k = m + 1 := ⟨k - 1, by omega⟩
    have hlt : i < l.length := by omega
    rw [rd_drop l i hlt]
    have hx := hw _ (rd_mem l i hlt)
    generalize hxe : rd l (i : Int) = x at *
    simp only [nums_Sum.l0, sumS]
    rw [if_pos (by omega), if_pos (by omega), if_pos (by omega), hxe]
    by_cases hneg : x < 0
    · have : ∃ r, nums_Add.f acc x = some r := by
        unfold nums_Add.f; split
        · split <;> exact ⟨_, rfl⟩
        · exact ⟨_, rfl⟩
      obtain ⟨r, hr⟩ := this
      rw [hr]; simp only [Option.bind_some]; rw [if_pos hneg, if_pos hneg]
    · rw [add_nn h0 h1 (by omega) (by omega)]; simp only [Option.bind_some]
      rw [if_neg hneg, if_neg hneg]
      by_cases hov : acc + x > 9223372036854775807
      · rw [if_pos hov, if_pos hov]; rw [if_neg (by decide)]
      · rw [if_neg hov, if_neg hov]; simp only [if_true]
        by_cases hm : acc + x > most
        · rw [if_pos hm, if_pos hm]
        · rw [if_neg hm, if_neg hm]
          have := ih k (i + 1) (acc + x) (by omega) (by omega) (by omega) (by omega)
          rw [w64 (by omega) (by omega)]
          exact_mod_cast this
theorem sum_is (most : Int) (l : List Int) (hl : l.length ≤ 100000) (hw : ∀ x ∈ l, -9223372036854775808 ≤ x ∧ x ≤ 9223372036854775807) (k : Nat) (hk : l.length < k) :
    nums_Sum.f k most l = some (sumS most 0 l) := by
  have := sum_loop most l hl hw l.length k 0 0 (by omega) (by omega) (by omega) hk
  simpa [nums_Sum.f] using this

theorem sumS_ok (most : Int) (l : List Int) : ∀ acc : Int, 0 ≤ acc → acc ≤ 9223372036854775807 →
    sumS most acc l = if (∀ x ∈ l, 0 ≤ x) ∧ (l = [] ∨ (acc + l.sum ≤ most ∧ acc + l.sum ≤ 9223372036854775807)) then (acc + l.sum, 0) else (0, 8) := by
  induction l with
  | nil => intro acc _ _; simp [sumS]
  | cons x xs ih =>
    intro acc h0 h1
    have hnn : ∀ l : List Int, (∀ y ∈ l, 0 ≤ y) → 0 ≤ l.sum := by
      intro l; induction l with
      | nil => simp
      | cons y ys ih2 => intro h; have := h y (by simp); have := ih2 (fun z hz => h z (by simp [hz])); simp; omega
    simp only [sumS]
    by_cases hx : x < 0
    · rw [if_pos hx, if_neg]; rintro ⟨h, _⟩; have := h x (by simp); omega
    · rw [if_neg hx]
      by_cases ho : acc + x > 9223372036854775807
      · rw [if_pos ho, if_neg]; rintro ⟨h, h2⟩
        have := hnn xs (fun z hz => h z (by simp [hz])); simp at h2; omega
      · rw [if_neg ho]
        by_cases hm : acc + x > most
        · rw [if_pos hm, if_neg]; rintro ⟨h, h2⟩
          have := hnn xs (fun z hz => h z (by simp [hz])); simp at h2; omega
        · rw [if_neg hm, ih (acc + x) (by omega) (by omega)]
          have e : acc + x + xs.sum = acc + (x :: xs).sum := by simp; omega
          rw [e]
          by_cases hall : ∀ y ∈ xs, 0 ≤ y
          · have hs := hnn xs hall
            have hall' : ∀ y ∈ x :: xs, 0 ≤ y := by intro y hy; simp at hy; rcases hy with rfl | hy; omega; exact hall y hy
            by_cases hb : acc + (x :: xs).sum ≤ most ∧ acc + (x :: xs).sum ≤ 9223372036854775807
            · rw [if_pos ⟨hall, .inr hb⟩, if_pos ⟨hall', .inr hb⟩]
            · have : xs ≠ [] := by rintro rfl; apply hb; simp; omega
              rw [if_neg (by rintro ⟨_, h | h⟩; exact this h; exact hb h), if_neg (by rintro ⟨_, h | h⟩; simp at h; exact hb h)]
          · rw [if_neg (fun h => hall h.1), if_neg (fun h => hall (fun y hy => h.1 y (by simp [hy])))]
theorem sum_append (a b : List Int) : (a ++ b).sum = a.sum + b.sum := by simp
theorem sum_rev (l : List Int) : l.reverse.sum = l.sum := by
  induction l with
  | nil => rfl
  | cons x xs ih => simp [ih]; omega
theorem sumS_rev (most : Int) (l : List Int) : sumS most 0 l.reverse = sumS most 0 l := by
  rw [sumS_ok most l 0 (by omega) (by omega), sumS_ok most l.reverse 0 (by omega) (by omega), sum_rev]
  simp
theorem back_loop (most : Int) (l : List Int) (hl : l.length ≤ 200) (hw : ∀ x ∈ l, -9223372036854775808 ≤ x ∧ x ≤ 9223372036854775807) (d : Nat) :
    ∀ (k : Nat), d ≤ l.length → d + 300 ≤ k → baileylaw01_NumsOrder.l0 k most l ((l.drop d).reverse) ((d : Int) - 1) = some true := by
  induction d with
  | zero =>
    intro k _ hk
    obtain ⟨k, rfl⟩ : ∃ m, k = m + 1 := ⟨k - 1, by omega⟩
    simp only [baileylaw01_NumsOrder.l0]
    rw [if_neg (by omega), sum_is most l (by omega) hw k (by omega), sum_is most (List.drop 0 l).reverse (by simp; omega) (by simpa using hw) k (by simp; omega)]
    simp [sumS_rev, awake_at k (by omega)]
  | succ d ih =>
    intro k hd hk
    obtain ⟨k, rfl⟩ : ∃ m, k = m + 1 := ⟨k - 1, by omega⟩
    simp only [baileylaw01_NumsOrder.l0]
    have hlen : ((l.drop (d + 1)).reverse).length < 17592186044416 := by simp; omega
    rw [if_pos (by omega), if_pos (by omega), if_pos (by omega), if_pos hlen]
    have := ih k (by omega) (by omega)
    have e1 : (((d + 1 : Nat) : Int) - 1) = (d : Int) := by omega
    rw [e1, w64 (by omega) (by omega)]
    rw [rd_drop l d (by omega)] at this
    simpa using this
theorem NumsOrder : baileylaw01_NumsOrder.Pure := by
  intro most l _ _ _ hw
  have hw' : ∀ x ∈ l, -9223372036854775808 ≤ x ∧ x ≤ 9223372036854775807 := fun x hx => b64 (hw x hx)
  refine ⟨1000, ?_⟩
  unfold baileylaw01_NumsOrder.f
  by_cases h : (l.length : Int) > 200
  · simp [h, awake_at 1000 (by decide)]
  · rw [if_neg h, w64 (by omega) (by omega)]
    have := back_loop most l (by omega) hw' l.length 1000 (by omega) (by omega)
    simpa using this

end Go.Proofs.Ytpolglgfbfjcoaa.Pure
