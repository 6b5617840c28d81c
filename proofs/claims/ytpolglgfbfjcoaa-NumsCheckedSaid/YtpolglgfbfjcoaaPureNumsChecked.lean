/- The sum, the difference and the product of any two numbers are what they are, or leave the range, as the document says, for every two numbers. No condition. -/
import Derived.Test.YtpolglgfbfjcoaaONumsCheckedx2
namespace Go.Proofs.Ytpolglgfbfjcoaa.Pure
open Go.RowKit Go.Proofs.Ytpolglgfbfjcoaa.ONumsChecked Go.Proofs.YtpolglgfbfjcoaaW.PrintWords Go.Proofs.YtpolglgfbfjcoaaW.PrintLast

set_option linter.unusedSimpArgs false
set_option linter.unusedVariables false
theorem b64 {x : Int} (h : (Lit.int .i64 x).wf = true) : -9223372036854775808 ≤ x ∧ x ≤ 9223372036854775807 := by
  simpa [Lit.wf, IntKind.min, IntKind.max, IntKind.signed, IntKind.bits] using h
theorem b32 {x : Int} (h : (Lit.int .u32 x).wf = true) : 0 ≤ x ∧ x ≤ 4294967295 := by
  simpa [Lit.wf, IntKind.min, IntKind.max, IntKind.signed, IntKind.bits] using h
theorem b8 {x : Int} (h : (Lit.int .u8 x).wf = true) : 0 ≤ x ∧ x ≤ 255 := by
  simpa [Lit.wf, IntKind.min, IntKind.max, IntKind.signed, IntKind.bits] using h
theorem w64 {x : Int} (h0 : -9223372036854775808 ≤ x) (h1 : x ≤ 9223372036854775807) : wrap64 x = x := by
  unfold wrap64; omega
theorem wu64 (x : Int) : IntKind.u64.wrap x = x % 18446744073709551616 := by
  simp [IntKind.wrap, IntKind.bits, IntKind.signed]
theorem rd_drop (l : List Int) (i : Nat) (h : i < l.length) : l.drop i = rd l (i : Int) :: l.drop (i + 1) := by
  rw [List.drop_eq_getElem_cons h]; congr 1
  simp [rd, List.getD_eq_getElem?_getD, List.getElem?_eq_getElem h]
theorem rd_mem (l : List Int) (i : Nat) (h : i < l.length) : rd l (i : Int) ∈ l := by
  have : rd l (i : Int) = l[i] := by simp [rd, List.getD_eq_getElem?_getD, List.getElem?_eq_getElem h]
  rw [this]; exact List.getElem_mem h
/-- 'Option.bind_some', as a rule that is no mere reduction (the kernel need not reduce what stands beside it). -/
theorem bnd {α β : Type} (x : α) (f : α → Option β) : (some x).bind f = f x := by rw [Option.bind_some]

theorem awake_at (k : Nat) (hk : 4 ≤ k) : baileylaw01_awake.f k = some true := by
  have h : baileylaw01_awake.f 4 = some true := by decide +kernel
  exact at_rounds baileylaw01_awake.mono hk h

theorem add_eq (a b : Int) (ha : -9223372036854775808 ≤ a ∧ a ≤ 9223372036854775807) (hb : -9223372036854775808 ≤ b ∧ b ≤ 9223372036854775807) :
    nums_Add.f a b = some (if -9223372036854775808 ≤ a + b ∧ a + b ≤ 9223372036854775807 then (a + b, 0) else (0, 8)) := by
  unfold nums_Add.f
  have hw : wrap64 (a + b) = (a + b + 9223372036854775808) % 18446744073709551616 - 9223372036854775808 := by unfold wrap64; rfl
  generalize wrap64 (a + b) = w at *
  by_cases h1 : a < 0 <;> by_cases h2 : b < 0 <;> by_cases h3 : w < 0 <;>
    by_cases h4 : -9223372036854775808 ≤ a + b ∧ a + b ≤ 9223372036854775807 <;> first | (simp [h1, h2, h3, h4]; done) | (exfalso; omega) | (simp [h1, h2, h3, h4]; omega)
theorem sub_eq (a b : Int) (ha : -9223372036854775808 ≤ a ∧ a ≤ 9223372036854775807) (hb : -9223372036854775808 ≤ b ∧ b ≤ 9223372036854775807) :
    nums_Sub.f a b = some (if -9223372036854775808 ≤ a - b ∧ a - b ≤ 9223372036854775807 then (a - b, 0) else (0, 8)) := by
  unfold nums_Sub.f
  have hw : wrap64 (a - b) = (a - b + 9223372036854775808) % 18446744073709551616 - 9223372036854775808 := by unfold wrap64; rfl
  generalize wrap64 (a - b) = w at *
  by_cases h1 : a < 0 <;> by_cases h2 : b < 0 <;> by_cases h3 : w < 0 <;>
    by_cases h4 : -9223372036854775808 ≤ a - b ∧ a - b ≤ 9223372036854775807 <;> first | (simp [h1, h2, h3, h4]; done) | (exfalso; omega) | (simp [h1, h2, h3, h4]; omega)
theorem ref_add (a b : Int) (ha : -9223372036854775808 ≤ a ∧ a ≤ 9223372036854775807) (hb : -9223372036854775808 ≤ b ∧ b ≤ 9223372036854775807) :
    baileyref01_Add.f a b = some (if -9223372036854775808 ≤ a + b ∧ a + b ≤ 9223372036854775807 then (a + b, 0) else (0, 8)) := by
  unfold baileyref01_Add.f
  by_cases h1 : b > 0
  · rw [if_pos h1, w64 (by omega) (by omega), if_neg (by omega : ¬ b < 0)]
    by_cases h2 : a > 9223372036854775807 - b
    · rw [if_pos h2, if_neg (by omega)]
    · rw [if_neg h2, if_pos (by omega), w64 (by omega) (by omega)]
  · rw [if_neg h1]
    by_cases h3 : b < 0
    · rw [if_pos h3, w64 (by omega) (by omega)]
      by_cases h2 : a < -9223372036854775808 - b
      · rw [if_pos h2, if_neg (by omega)]
      · rw [if_neg h2, if_pos (by omega), w64 (by omega) (by omega)]
    · rw [if_neg h3, if_pos (by omega), w64 (by omega) (by omega)]
theorem ref_sub (a b : Int) (ha : -9223372036854775808 ≤ a ∧ a ≤ 9223372036854775807) (hb : -9223372036854775808 ≤ b ∧ b ≤ 9223372036854775807) :
    baileyref01_Sub.f a b = some (if -9223372036854775808 ≤ a - b ∧ a - b ≤ 9223372036854775807 then (a - b, 0) else (0, 8)) := by
  unfold baileyref01_Sub.f
  by_cases h1 : b < 0
  · rw [if_pos h1, w64 (by omega) (by omega), if_neg (by omega : ¬ b > 0)]
    by_cases h2 : a > 9223372036854775807 + b
    · rw [if_pos h2, if_neg (by omega)]
    · rw [if_neg h2, if_pos (by omega), w64 (by omega) (by omega)]
  · rw [if_neg h1]
    by_cases h3 : b > 0
    · rw [if_pos h3, w64 (by omega) (by omega)]
      by_cases h2 : a < -9223372036854775808 + b
      · rw [if_pos h2, if_neg (by omega)]
      · rw [if_neg h2, if_pos (by omega), w64 (by omega) (by omega)]
    · rw [if_neg h3, if_pos (by omega), w64 (by omega) (by omega)]
/-- A number without its sign. -/
def ab (a : Int) : Int := if a < 0 then -a else a
theorem ab_bd (a : Int) (ha : -9223372036854775808 ≤ a ∧ a ≤ 9223372036854775807) : 0 ≤ ab a ∧ ab a ≤ 9223372036854775808 := by unfold ab; split <;> omega
theorem size_is (a : Int) (ha : -9223372036854775808 ≤ a ∧ a ≤ 9223372036854775807) : nums_size.f a = some (ab a) := by
  unfold nums_size.f ab
  by_cases h : a < 0
  · rw [if_pos h, if_pos h, wu64, wu64]; congr 1; omega
  · rw [if_neg h, if_neg h, wu64]; congr 1; omega
theorem parts_is (a : Int) (ha : -9223372036854775808 ≤ a ∧ a ≤ 9223372036854775807) : baileyref01_parts.f a = some (decide (a < 0), ab a) := by
  unfold baileyref01_parts.f ab
  by_cases h : a < 0
  · rw [if_pos h, if_pos h, wu64, wu64, decide_eq_true h]; congr 2; omega
  · rw [if_neg h, if_neg h, wu64, decide_eq_false h]; congr 2; omega
theorem mask32 (x : Int) (h : 0 ≤ x) (h' : x < 18446744073709551616) : Go.bits .and .u64 x 4294967295 = x % 4294967296 :=
  Go.bits_mask .u64 64 (by decide) (fun n h0 h1 => by rw [wu64]; omega) 32 (by decide) x h (by omega)
theorem mul_bd2 {a b A B : Int} (ha : 0 ≤ a) (ha' : a ≤ A) (hb : 0 ≤ b) (hb' : b ≤ B) : 0 ≤ a * b ∧ a * b ≤ A * B :=
  ⟨Int.mul_nonneg ha hb, Int.mul_le_mul ha' hb' hb (by omega)⟩
theorem mul64_is (x y : Int) (hx : 0 ≤ x) (hx' : x < 18446744073709551616) (hy : 0 ≤ y) (hy' : y < 18446744073709551616) :
    bits_Mul64.f x y = some ((x * y) / 18446744073709551616, (x * y) % 18446744073709551616) := by
  unfold bits_Mul64.f
  rw [mask32 x hx hx', mask32 y hy hy']
  have ex : x = (x / 4294967296) * 4294967296 + x % 4294967296 := by omega
  have ey : y = (y / 4294967296) * 4294967296 + y % 4294967296 := by omega
  have b0 : 0 ≤ x % 4294967296 ∧ x % 4294967296 ≤ 4294967295 := by omega
  have b1 : 0 ≤ y % 4294967296 ∧ y % 4294967296 ≤ 4294967295 := by omega
  have b2 : 0 ≤ x / 4294967296 ∧ x / 4294967296 ≤ 4294967295 := by omega
  have b3 : 0 ≤ y / 4294967296 ∧ y / 4294967296 ≤ 4294967295 := by omega
  generalize x / 4294967296 = x1 at *
  generalize x % 4294967296 = x0 at *
  generalize y / 4294967296 = y1 at *
  generalize y % 4294967296 = y0 at *
  have p := mul_bd2 b2.1 b2.2 b3.1 b3.2
  have q := mul_bd2 b2.1 b2.2 b1.1 b1.2
  have r := mul_bd2 b0.1 b0.2 b3.1 b3.2
  have s := mul_bd2 b0.1 b0.2 b1.1 b1.2
  have e : x * y = (x1 * y1) * 18446744073709551616 + (x1 * y0 + x0 * y1) * 4294967296 + x0 * y0 := by
    rw [ex, ey]
    simp only [Int.add_mul, Int.mul_add]
    have e1 : x1 * 4294967296 * (y1 * 4294967296) = x1 * y1 * 18446744073709551616 := by
      rw [Int.mul_assoc, Int.mul_left_comm 4294967296, ← Int.mul_assoc]; omega
    have e2 : x1 * 4294967296 * y0 = x1 * y0 * 4294967296 := by rw [Int.mul_assoc, Int.mul_comm 4294967296, ← Int.mul_assoc]
    have e3 : x0 * (y1 * 4294967296) = x0 * y1 * 4294967296 := by rw [Int.mul_assoc]
    omega
  rw [e]
  generalize x1 * y1 = P at *
  generalize x1 * y0 = Q at *
  generalize x0 * y1 = R at *
  generalize x0 * y0 = S at *
  clear ex ey e
  have t0 : 0 ≤ Q + S / 4294967296 ∧ Q + S / 4294967296 < 18446744073709551616 := by omega
  have h1 : IntKind.u64.wrap P = P := by rw [wu64]; omega
  have h2 : IntKind.u64.wrap S = S := by rw [wu64]; omega
  have h3 : IntKind.u64.wrap Q = Q := by rw [wu64]; omega
  have h4 : IntKind.u64.wrap R = R := by rw [wu64]; omega
  rw [h1, h2, h3, h4]
  have h5 : IntKind.u64.wrap (Q + S / 4294967296) = Q + S / 4294967296 := by rw [wu64]; omega
  rw [h5, mask32 _ t0.1 t0.2]
  generalize hT : Q + S / 4294967296 = T at *
  rw [wu64, wu64, wu64, wu64]
  congr 1
  refine Prod.ext ?_ ?_
  · simp only; omega
  · simp only
/-- What a product is told to be. -/
def prodS (minus : Bool) (p : Int) : Int × Int :=
  if minus = true then (if p ≤ 9223372036854775808 then (-p, 0) else (0, 8)) else (if p < 9223372036854775808 then (p, 0) else (0, 8))
theorem mul_is (a b : Int) (ha : -9223372036854775808 ≤ a ∧ a ≤ 9223372036854775807) (hb : -9223372036854775808 ≤ b ∧ b ≤ 9223372036854775807) (k : Nat) (hk : 0 < k) :
    nums_Mul.f k a b = some (prodS ((decide (a < 0)) != (decide (b < 0))) (ab a * ab b)) := by
  obtain ⟨k, rfl⟩ : ∃ m, k = m + 1 := ⟨k - 1, by omega⟩
  have h1 := ab_bd a ha
  have h2 := ab_bd b hb
  have hp := mul_bd2 h1.1 h1.2 h2.1 h2.2
  unfold nums_Mul.f
  rw [size_is a ha, size_is b hb]; simp only [bnd]
  rw [mul64_is _ _ h1.1 (by omega) h2.1 (by omega)]; simp only [bnd]
  generalize ab a * ab b = p at *
  generalize ((decide (a < 0)) != (decide (b < 0))) = minus
  unfold prodS
  by_cases hb : p / 18446744073709551616 > 0
  · rw [if_pos hb]
    cases minus
    · rw [if_neg (by decide), if_neg (by omega)]
    · rw [if_pos rfl, if_neg (by omega)]
  · rw [if_neg hb]
    have e : p % 18446744073709551616 = p := by omega
    rw [e]
    cases minus
    · simp only [nums_Mul.j0, Bool.false_eq_true, if_false]
      by_cases hh : p < 9223372036854775808
      · rw [if_pos hh, if_pos hh, w64 (by omega) (by omega)]
      · rw [if_neg hh, if_neg hh]
    · simp only [nums_Mul.j0, if_true, decide_eq_true_eq]
      by_cases hh : p ≤ 9223372036854775808
      · rw [if_pos hh, if_pos hh, wu64]; congr 2; unfold wrap64; omega
      · rw [if_neg hh, if_neg hh]
theorem whole_is (m : Bool) (p : Int) (h0 : 0 ≤ p) (h1 : p < 18446744073709551616) (k : Nat) (hk : 0 < k) :
    baileyref01_whole.f k m p = some (prodS m p) := by
  obtain ⟨k, rfl⟩ : ∃ m, k = m + 1 := ⟨k - 1, by omega⟩
  unfold baileyref01_whole.f prodS
  cases m
  · simp only [baileyref01_whole.j0, Bool.false_eq_true, if_false]
    by_cases hh : p < 9223372036854775808
    · rw [if_pos hh, if_pos hh, w64 (by omega) (by omega)]
    · rw [if_neg hh, if_neg hh]
  · simp only [baileyref01_whole.j0, if_true, decide_eq_true_eq]
    by_cases hh : p ≤ 9223372036854775808
    · rw [if_pos hh, if_pos hh, wu64]; congr 2; unfold wrap64; omega
    · rw [if_neg hh, if_neg hh]
theorem prodS_zero (m : Bool) : prodS m 0 = (0, 0) := by unfold prodS; cases m <;> rfl
theorem ref_mul (a b : Int) (ha : -9223372036854775808 ≤ a ∧ a ≤ 9223372036854775807) (hb : -9223372036854775808 ≤ b ∧ b ≤ 9223372036854775807) (k : Nat) (hk : 0 < k) :
    baileyref01_Mul.f k a b = some (prodS ((decide (a < 0)) != (decide (b < 0))) (ab a * ab b)) := by
  have h1 := ab_bd a ha
  have h2 := ab_bd b hb
  have hp := mul_bd2 h1.1 h1.2 h2.1 h2.2
  unfold baileyref01_Mul.f
  rw [parts_is a ha, parts_is b hb]; simp only [bnd]
  generalize ((decide (a < 0)) != (decide (b < 0))) = minus
  have tail : 0 ≤ ab a * ab b → ab a * ab b < 18446744073709551616 → 
      (if minus = true then ((baileyref01_whole.f k ((IntKind.u64.wrap (ab a * ab b)) != 0) (IntKind.u64.wrap (ab a * ab b))).bind fun bt122 => (some (bt122.1, bt122.2))) else ((baileyref01_whole.f k false (IntKind.u64.wrap (ab a * ab b))).bind fun bt124 => (some (bt124.1, bt124.2)))) = some (prodS minus (ab a * ab b)) := by
    intro h0 hlt
    have e : IntKind.u64.wrap (ab a * ab b) = ab a * ab b := by rw [wu64]; omega
    rw [e, whole_is _ _ h0 hlt k hk, whole_is _ _ h0 hlt k hk]
    simp only [bnd]
    cases minus
    · rw [if_neg (by decide)]
    · rw [if_pos rfl]
      by_cases hz : ab a * ab b = 0
      · rw [hz, prodS_zero, prodS_zero]
      · rw [bne_iff_ne.2 hz]
  by_cases hz : ab a = 0
  · rw [if_pos hz]
    have e0 : ab a * ab b = 0 := by rw [hz, Int.zero_mul]
    exact tail (by omega) (by omega)
  · rw [if_neg hz]
    have hd0 : 0 ≤ 9223372036854775808 / ab a := Int.ediv_nonneg (by omega) h1.1
    have hd1 : 9223372036854775808 / ab a ≤ 9223372036854775808 := Int.ediv_le_self _ (by omega)
    have hq : IntKind.u64.wrap (9223372036854775808 / ab a) = 9223372036854775808 / ab a := by rw [wu64]; omega
    rw [hq]
    by_cases hgt : ab b > 9223372036854775808 / ab a
    · rw [if_pos hgt]
      have : 9223372036854775808 < ab a * ab b := by
        have := Int.lt_mul_of_ediv_lt (by omega : 0 < ab a) hgt
        rw [Int.mul_comm]; exact this
      unfold prodS
      cases minus
      · rw [if_neg (by decide), if_neg (by omega)]
      · rw [if_pos rfl, if_neg (by omega)]
    · rw [if_neg hgt]
      have : ab a * ab b ≤ 9223372036854775808 := by
        have := Int.mul_le_of_le_ediv (by omega : 0 < ab a) (by omega : ab b ≤ 9223372036854775808 / ab a)
        rw [Int.mul_comm]; exact this
      exact tail hp.1 (by omega)
theorem NumsChecked : baileylaw01_NumsChecked.Pure := by
  intro a b ha hb
  have ha' := b64 ha
  have hb' := b64 hb
  refine ⟨10, ?_⟩
  unfold baileylaw01_NumsChecked.f
  rw [add_eq a b ha' hb', sub_eq a b ha' hb', ref_add a b ha' hb', ref_sub a b ha' hb', mul_is a b ha' hb' 10 (by decide), ref_mul a b ha' hb' 10 (by decide)]
  simp [awake_at 10 (by decide)]

end Go.Proofs.Ytpolglgfbfjcoaa.Pure
