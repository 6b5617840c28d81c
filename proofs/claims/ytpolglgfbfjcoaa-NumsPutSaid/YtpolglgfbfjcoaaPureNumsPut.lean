/- Who was put into a set is in it, who was taken out is not, all others stay, for every set and every members. No condition. -/
import Derived.Test.YtpolglgfbfjcoaaONumsPutx1
namespace Go.Proofs.Ytpolglgfbfjcoaa.Pure
open Go.RowKit Go.Proofs.Ytpolglgfbfjcoaa.ONumsPut Go.Proofs.YtpolglgfbfjcoaaW.PrintWords Go.Proofs.YtpolglgfbfjcoaaW.PrintLast

set_option linter.unusedSimpArgs false
set_option linter.unusedVariables false
theorem b64 {x : Int} (h : (Lit.int .i64 x).wf = true) : -9223372036854775808 ≤ x ∧ x ≤ 9223372036854775807 := by
  simpa [Lit.wf, IntKind.min, IntKind.max, IntKind.signed, IntKind.bits] using h
theorem b32 {x : Int} (h : (Lit.int .u32 x).wf = true) : 0 ≤ x ∧ x ≤ 4294967295 := by
  simpa [Lit.wf, IntKind.min, IntKind.max, IntKind.signed, IntKind.bits] using h
theorem b8 {x : Int} (h : (Lit.int .u8 x).wf = true) : 0 ≤ x ∧ x ≤ 255 := by
  simpa [Lit.wf, IntKind.min, IntKind.max, IntKind.signed, IntKind.bits] using h
theorem w64 {x : Int} (h0 : -9223372036854775808 ≤ x) (h1 : x ≤ 9223372036854775807) : wrap64 x = x := by
  unfold wrap64; omega
theorem wu64 (x : Int) : IntKind.u64.wrap x = x % 18446744073709551616 := by
  simp [IntKind.wrap, IntKind.bits, IntKind.signed]
theorem rd_drop (l : List Int) (i : Nat) (h : i < l.length) : l.drop i = rd l (i : Int) :: l.drop (i + 1) := by
  rw [List.drop_eq_getElem_cons h]; congr 1
  simp [rd, List.getD_eq_getElem?_getD, List.getElem?_eq_getElem h]
theorem rd_mem (l : List Int) (i : Nat) (h : i < l.length) : rd l (i : Int) ∈ l := by
  have : rd l (i : Int) = l[i] := by simp [rd, List.getD_eq_getElem?_getD, List.getElem?_eq_getElem h]
  rw [this]; exact List.getElem_mem h
/-- 'Option.bind_some', as a rule that is no mere reduction (the kernel need not reduce what stands beside it). -/
theorem bnd {α β : Type} (x : α) (f : α → Option β) : (some x).bind f = f x := by rw [Option.bind_some]

theorem awake_at (k : Nat) (hk : 4 ≤ k) : baileylaw01_awake.f k = some true := by
  have h : baileylaw01_awake.f 4 = some true := by decide +kernel
  exact at_rounds baileylaw01_awake.mono hk h

/-- A number's bits, as 64 bits without a sign. -/
def M (a : Int) : Nat := (a % 18446744073709551616).toNat
theorem M_lt (a : Int) : M a < 18446744073709551616 := by unfold M; omega
theorem M_ofInt (a : Int) : (BitVec.ofInt 64 a).toNat = M a := by simp [M]
theorem wrap_M (a : Int) (h0 : -9223372036854775808 ≤ a) (h1 : a ≤ 9223372036854775807) : wrap64 (M a) = a := by unfold wrap64 M; omega
theorem M_wrap (n : Nat) (h : n < 18446744073709551616) : M (wrap64 n) = n := by unfold wrap64 M; omega
theorem i64w (n : Int) : IntKind.i64.wrap n = wrap64 n := by unfold wrap64; exact Go.IntKind.wrap_i64 n
theorem M_pow (i : Nat) (hi : i ≤ 61) : M ((2 : Int) ^ i) = 2 ^ i := by
  have h : (2 : Int) ^ i = ((2 ^ i : Nat) : Int) := by simp
  have h2 : 2 ^ i ≤ 2 ^ 61 := Nat.pow_le_pow_right (by decide) hi
  unfold M; rw [h]; clear h
  generalize 2 ^ i = p at *
  omega
theorem bits_and64 (a b : Int) : Go.bits .and .i64 a b = wrap64 ((M a &&& M b : Nat) : Int) := by
  have e : Go.bits .and .i64 a b = IntKind.i64.wrap ((BitVec.ofInt 64 a &&& BitVec.ofInt 64 b).toNat : Int) := rfl
  rw [e, i64w, BitVec.toNat_and, M_ofInt, M_ofInt]
theorem bits_or64 (a b : Int) : Go.bits .or .i64 a b = wrap64 ((M a ||| M b : Nat) : Int) := by
  have e : Go.bits .or .i64 a b = IntKind.i64.wrap ((BitVec.ofInt 64 a ||| BitVec.ofInt 64 b).toNat : Int) := rfl
  rw [e, i64w, BitVec.toNat_or, M_ofInt, M_ofInt]
/-- What stays without some bits. -/
def without (x y : Nat) : Nat := (BitVec.ofNat 64 x &&& ~~~BitVec.ofNat 64 y).toNat
theorem bits_andNot64 (a b : Int) : Go.bits .andNot .i64 a b = wrap64 ((without (M a) (M b) : Nat) : Int) := by
  have e : ∀ c : Int, BitVec.ofInt 64 c = BitVec.ofNat 64 (M c) := fun c => by
    apply BitVec.eq_of_toNat_eq; rw [M_ofInt, BitVec.toNat_ofNat, Nat.mod_eq_of_lt (M_lt c)]
  have e2 : Go.bits .andNot .i64 a b = IntKind.i64.wrap ((BitVec.ofInt 64 a &&& ~~~BitVec.ofInt 64 b).toNat : Int) := rfl
  rw [e2, i64w, e, e]; rfl
theorem without_lt (x y : Nat) : without x y < 18446744073709551616 := by unfold without; exact BitVec.isLt _
theorem without_bit (x i j : Nat) (hx : x < 18446744073709551616) (hi : i ≤ 61) : (without x (2 ^ i)).testBit j = (x.testBit j && !decide (i = j)) := by
  unfold without
  rw [BitVec.testBit_toNat, BitVec.getLsbD_and, BitVec.getLsbD_not]
  by_cases hj : j < 64
  · have h1 : (BitVec.ofNat 64 x).getLsbD j = x.testBit j := by rw [← BitVec.testBit_toNat, BitVec.toNat_ofNat, Nat.mod_eq_of_lt hx]
    have h2 : 2 ^ i ≤ 2 ^ 61 := Nat.pow_le_pow_right (by decide) hi
    have h3 : (BitVec.ofNat 64 (2 ^ i)).getLsbD j = decide (i = j) := by rw [← BitVec.testBit_toNat, BitVec.toNat_ofNat, Nat.mod_eq_of_lt (by omega), Nat.testBit_two_pow]
    rw [h1, h3]; simp [hj]
  · have h1 : x.testBit j = false := Nat.testBit_lt_two_pow (Nat.lt_of_lt_of_le hx (by have : 2 ^ 64 ≤ 2 ^ j := Nat.pow_le_pow_right (by decide) (by omega); omega))
    rw [h1]; simp [hj]
theorem bit_in (i : Int) (h0 : 0 ≤ i) (h1 : i ≤ 61) : nums_bit.f i = some ((2 : Int) ^ i.toNat) := by
  unfold nums_bit.f nums_Within.f
  rw [if_pos h0]
  have h2 : (2 : Int) ^ i.toNat ≤ 2 ^ 61 := by
    have : (2 : Nat) ^ i.toNat ≤ 2 ^ 61 := Nat.pow_le_pow_right (by decide) (by omega)
    exact_mod_cast this
  have h3 : (0 : Int) ≤ 2 ^ i.toNat := Int.pow_nonneg (by decide)
  have e : shl .i64 1 i = (2 : Int) ^ i.toNat := by
    unfold shl
    rw [Nat.min_eq_left (by simp [IntKind.bits]; omega), i64w, Int.one_mul]
    unfold wrap64; omega
  simp [h1, h0, e]
theorem bit_out (i : Int) (h : ¬ (0 ≤ i ∧ i ≤ 61)) : nums_bit.f i = some 0 := by
  unfold nums_bit.f nums_Within.f
  by_cases h0 : 0 ≤ i
  · have : ¬ i ≤ 61 := fun h1 => h ⟨h0, h1⟩
    simp [h0, this]
  · simp [h0]
theorem M_zero : M 0 = 0 := by decide
theorem and_pow (n i : Nat) : n &&& 2 ^ i = (n.testBit i).toNat * 2 ^ i := by
  apply Nat.eq_of_testBit_eq; intro j
  rw [Nat.testBit_and, Nat.testBit_two_pow]
  by_cases e : i = j
  · subst e
    cases n.testBit i <;> simp [Nat.testBit_two_pow]
  · cases n.testBit i <;> simp [Nat.testBit_two_pow, e]
/-- Whether one is in a set. -/
def inS (a i : Int) : Bool := decide (0 ≤ i ∧ i ≤ 61) && (M a).testBit i.toNat
theorem has_is (a i : Int) : nums_Has.f a i = some (inS a i) := by
  unfold nums_Has.f inS
  by_cases h : 0 ≤ i ∧ i ≤ 61
  · rw [bit_in i h.1 h.2, decide_eq_true h]
    have h2 : 2 ^ i.toNat ≤ 2 ^ 61 := Nat.pow_le_pow_right (by decide) (by omega : i.toNat ≤ 61)
    have h3 : 0 < 2 ^ i.toNat := Nat.two_pow_pos _
    simp only [Option.bind_some, bits_and64, M_pow _ (by omega : i.toNat ≤ 61), and_pow, Bool.true_and]
    cases (M a).testBit i.toNat with
    | true => 
      simp only [Bool.toNat_true, Nat.one_mul]
      generalize 2 ^ i.toNat = p at *
      have : wrap64 (p : Int) = p := by unfold wrap64; omega
      rw [this]; simp; omega
    | false => simp [wrap64]
  · rw [bit_out i h, decide_eq_false h]
    simp [bits_and64, M_zero, wrap64]
theorem with_in (a i : Int) (h : 0 ≤ i ∧ i ≤ 61) : nums_With.f a i = some (wrap64 ((M a ||| 2 ^ i.toNat : Nat) : Int)) := by
  unfold nums_With.f
  rw [bit_in i h.1 h.2]; simp only [Option.bind_some, bits_or64, M_pow _ (by omega : i.toNat ≤ 61)]
theorem with_out (a i : Int) (h : ¬ (0 ≤ i ∧ i ≤ 61)) (h0 : -9223372036854775808 ≤ a) (h1 : a ≤ 9223372036854775807) : nums_With.f a i = some a := by
  unfold nums_With.f
  rw [bit_out i h]; simp only [Option.bind_some, bits_or64, M_zero, Nat.or_zero, wrap_M a h0 h1]
theorem without_in (a i : Int) (h : 0 ≤ i ∧ i ≤ 61) : nums_Without.f a i = some (wrap64 ((without (M a) (2 ^ i.toNat) : Nat) : Int)) := by
  unfold nums_Without.f
  rw [bit_in i h.1 h.2]; simp only [Option.bind_some, bits_andNot64, M_pow _ (by omega : i.toNat ≤ 61)]
theorem without_zero (x : Nat) (h : x < 18446744073709551616) : without x 0 = x := by
  unfold without
  have e : ~~~BitVec.ofNat 64 0 = BitVec.allOnes 64 := by decide
  rw [e, BitVec.and_allOnes, BitVec.toNat_ofNat, Nat.mod_eq_of_lt h]
theorem without_out (a i : Int) (h : ¬ (0 ≤ i ∧ i ≤ 61)) (h0 : -9223372036854775808 ≤ a) (h1 : a ≤ 9223372036854775807) : nums_Without.f a i = some a := by
  unfold nums_Without.f
  rw [bit_out i h]; simp only [Option.bind_some, bits_andNot64, M_zero, without_zero _ (M_lt a), wrap_M a h0 h1]

/-- How many of the lowest bits are set. -/
def cn : Nat → Nat → Nat
  | 0, _ => 0
  | n + 1, x => x % 2 + cn n (x / 2)
theorem cn_le (n : Nat) : ∀ x, cn n x ≤ n := by
  induction n with
  | zero => intro x; simp [cn]
  | succ n ih => intro x; have := ih (x / 2); simp only [cn]; omega
theorem cn_add (m : Nat) : ∀ n x, cn (m + n) x = cn m x + cn n (x / 2 ^ m) := by
  induction m with
  | zero => intro n x; simp [cn]
  | succ m ih =>
    intro n x
    have e : m + 1 + n = (m + n) + 1 := by omega
    rw [e]; simp only [cn]; rw [ih, Nat.div_div_eq_div_mul, Nat.pow_succ, Nat.mul_comm 2]; omega
theorem cn_mod (n : Nat) : ∀ x, cn n (x % 2 ^ n) = cn n x := by
  induction n with
  | zero => intro x; simp [cn]
  | succ n ih =>
    intro x
    simp only [cn]
    have e1 : x % 2 ^ (n + 1) % 2 = x % 2 := by rw [Nat.pow_succ]; exact Nat.mod_mul_left_mod x (2 ^ n) 2
    have e2 : x % 2 ^ (n + 1) / 2 = (x / 2) % 2 ^ n := by rw [Nat.pow_succ, Nat.mul_comm]; exact Nat.mod_mul_right_div_self x 2 (2 ^ n)
    rw [e1, e2, ih]
theorem cn_bits (n : Nat) : ∀ (x y i : Nat), i < n → x.testBit i = true → y.testBit i = false → (∀ j, j ≠ i → x.testBit j = y.testBit j) → cn n x = cn n y + 1 := by
  induction n with
  | zero => intro x y i hi; omega
  | succ n ih =>
    intro x y i hi hx hy h
    simp only [cn]
    cases i with
    | zero =>
      have e : x / 2 = y / 2 := by
        apply Nat.eq_of_testBit_eq; intro j
        rw [Nat.testBit_div_two, Nat.testBit_div_two]; exact h (j + 1) (by omega)
      rw [Nat.testBit_zero] at hx hy
      simp at hx hy
      rw [e]; omega
    | succ i =>
      have h0 := h 0 (by omega)
      rw [Nat.testBit_zero, Nat.testBit_zero] at h0
      have h0' : x % 2 = y % 2 := by
        have := decide_eq_decide.1 h0
        omega
      rw [ih (x / 2) (y / 2) i (by omega) (by rw [Nat.testBit_div_two]; exact hx) (by rw [Nat.testBit_div_two]; exact hy) (fun j hj => by rw [Nat.testBit_div_two, Nat.testBit_div_two]; exact h (j + 1) (by omega))]
      omega
/-- A number by its bytes. -/
def val : List Nat → Nat
  | [] => 0
  | b :: l => b + 256 * val l
def mk (m : Nat) : Nat → Nat
  | 0 => 0
  | n + 1 => m + 256 * mk m n
theorem and_split (a b a' b' : Nat) (ha : a < 256) (hb : b < 256) : (a + 256 * a') &&& (b + 256 * b') = (a &&& b) + 256 * (a' &&& b') := by
  have h1 := Nat.and_mod_two_pow (a := a + 256 * a') (b := b + 256 * b') (n := 8)
  have h2 := Nat.and_div_two_pow (a := a + 256 * a') (b := b + 256 * b') (n := 8)
  simp only [Nat.reducePow] at h1 h2
  have e1 : (a + 256 * a') % 256 = a := by omega
  have e2 : (b + 256 * b') % 256 = b := by omega
  have e3 : (a + 256 * a') / 256 = a' := by omega
  have e4 : (b + 256 * b') / 256 = b' := by omega
  rw [e1, e2] at h1
  rw [e3, e4] at h2
  omega
def g1 (b : Nat) : Nat := ((b / 2) &&& 85) + (b &&& 85)
def g2 (b : Nat) : Nat := ((b / 4) &&& 51) + (b &&& 51)
def g3 (b : Nat) : Nat := (b / 16 + b) &&& 15
theorem f1 : ∀ b < 256, ∀ c < 2, (b / 2 + 128 * c) &&& 85 = (b / 2) &&& 85 := by decide +kernel
theorem f2 : ∀ b < 256, ∀ c < 4, (b / 4 + 64 * c) &&& 51 = (b / 4) &&& 51 := by decide +kernel
theorem f3 : ∀ b < 69, ∀ c < 5, (b / 16 + 16 * c + b) &&& 15 = (b / 16 + b) &&& 15 := by decide +kernel
theorem g1_lt : ∀ b < 256, g1 b < 171 := by decide +kernel
theorem g2_lt : ∀ b < 256, g2 (g1 b) < 69 ∧ g2 (g1 b) % 16 < 5 := by decide +kernel
theorem g_is : ∀ b < 256, g3 (g2 (g1 b)) = cn 8 b := by decide +kernel
theorem t1 (l : List Nat) (h : ∀ b ∈ l, b < 256) : ((val l / 2) &&& mk 85 l.length) + (val l &&& mk 85 l.length) = val (l.map g1) := by
  induction l with
  | nil => rfl
  | cons b l ih =>
    have hb := h b (by simp)
    simp only [val, mk, List.length_cons, List.map_cons]
    have e : (b + 256 * val l) / 2 = (b / 2 + 128 * (val l % 2)) + 256 * (val l / 2) := by omega
    rw [e, and_split _ _ _ _ (by omega) (by omega), and_split _ _ _ _ hb (by omega), f1 b hb _ (by omega), ← ih (fun c hc => h c (by simp [hc]))]
    unfold g1; omega
theorem t2 (l : List Nat) (h : ∀ b ∈ l, b < 256) : ((val l / 4) &&& mk 51 l.length) + (val l &&& mk 51 l.length) = val (l.map g2) := by
  induction l with
  | nil => rfl
  | cons b l ih =>
    have hb := h b (by simp)
    simp only [val, mk, List.length_cons, List.map_cons]
    have e : (b + 256 * val l) / 4 = (b / 4 + 64 * (val l % 4)) + 256 * (val l / 4) := by omega
    rw [e, and_split _ _ _ _ (by omega) (by omega), and_split _ _ _ _ hb (by omega), f2 b hb _ (by omega), ← ih (fun c hc => h c (by simp [hc]))]
    unfold g2; omega
theorem t3 (l : List Nat) (h : ∀ b ∈ l, b < 69 ∧ b % 16 < 5) : (val l / 16 + val l) &&& mk 15 l.length = val (l.map g3) := by
  induction l with
  | nil => rfl
  | cons b l ih =>
    have hb := h b (by simp)
    have hl : val l % 16 < 5 := by
      cases l with
      | nil => simp [val]
      | cons c l => have := h c (by simp); simp only [val]; omega
    simp only [val, mk, List.length_cons, List.map_cons]
    have e : (b + 256 * val l) / 16 + (b + 256 * val l) = (b / 16 + 16 * (val l % 16) + b) + 256 * (val l / 16 + val l) := by omega
    rw [e, and_split _ _ _ _ (by omega) (by omega), f3 b hb.1 _ hl, ← ih (fun c hc => h c (by simp [hc]))]
    rfl
theorem val_lt (l : List Nat) (m : Nat) (hm : m ≤ 256) (h : ∀ b ∈ l, b < m) : val l < 256 ^ l.length := by
  induction l with
  | nil => simp [val]
  | cons b l ih =>
    have := h b (by simp); have := ih (fun c hc => h c (by simp [hc]))
    simp only [val, List.length_cons, Nat.pow_succ]; omega
theorem u64and (a b : Nat) (ha : a < 18446744073709551616) (hb : b < 18446744073709551616) : Go.bits .and .u64 a b = ((a &&& b : Nat) : Int) :=
  (Go.bits_nat .u64 64 (by decide) (fun n h0 h1 => by rw [wu64]; omega) a b ha hb).1
theorem u64id (a : Nat) (h : a < 18446744073709551616) : IntKind.u64.wrap (a : Int) = a := by rw [wu64]; omega
/-- The four steps of the count. -/
def st1 (a0 : Int) : Int := IntKind.u64.wrap ((Go.bits .and .u64 (a0 / 2) 6148914691236517205) + (Go.bits .and .u64 a0 6148914691236517205))
def st2 (y : Int) : Int := IntKind.u64.wrap ((Go.bits .and .u64 (y / 4) 3689348814741910323) + (Go.bits .and .u64 y 3689348814741910323))
def st3 (z : Int) : Int := Go.bits .and .u64 (IntKind.u64.wrap (z / 16 + z)) 1085102592571150095
def st4 (w : Int) : Int := IntKind.u64.wrap (w + w / 256)
def st5 (w : Int) : Int := IntKind.u64.wrap (w + w / 65536)
def st6 (w : Int) : Int := IntKind.u64.wrap (w + w / 4294967296)
theorem ones_steps (a0 : Int) : bits_OnesCount64.f a0 = some (Go.bits .and .i64 (wrap64 (st6 (st5 (st4 (st3 (st2 (st1 a0))))))) 127) := rfl
theorem val_le (l : List Nat) (h : ∀ b ∈ l, b < 69) : 255 * val l + 68 ≤ 68 * 256 ^ l.length := by
  induction l with
  | nil => simp [val]
  | cons b l ih =>
    have := h b (by simp)
    have := ih (fun c hc => h c (by simp [hc]))
    simp only [val, List.length_cons, Nat.pow_succ]
    generalize 256 ^ l.length = P at *
    omega
theorem fold4 (d0 d1 d2 d3 d4 d5 d6 d7 : Nat) (h0 : d0 ≤ 8) (h1 : d1 ≤ 8) (h2 : d2 ≤ 8) (h3 : d3 ≤ 8) (h4 : d4 ≤ 8) (h5 : d5 ≤ 8) (h6 : d6 ≤ 8) (h7 : d7 ≤ 8) :
    st4 ((d0 + 256 * (d1 + 256 * (d2 + 256 * (d3 + 256 * (d4 + 256 * (d5 + 256 * (d6 + 256 * d7)))))) : Nat) : Int)
        = (((d0 + d1) + 256 * ((d1 + d2) + 256 * ((d2 + d3) + 256 * ((d3 + d4) + 256 * ((d4 + d5) + 256 * ((d5 + d6) + 256 * ((d6 + d7) + 256 * d7)))))) : Nat) : Int) := by
  unfold st4; rw [wu64]
  have : ((d0 + 256 * (d1 + 256 * (d2 + 256 * (d3 + 256 * (d4 + 256 * (d5 + 256 * (d6 + 256 * d7)))))) : Nat) : Int) / 256 = ((d1 + 256 * (d2 + 256 * (d3 + 256 * (d4 + 256 * (d5 + 256 * (d6 + 256 * d7))))) : Nat) : Int) := by omega
  rw [this]; omega
theorem fold5 (x0 x1 x2 x3 x4 x5 x6 d7 : Nat) (h0 : x0 ≤ 16) (h1 : x1 ≤ 16) (h2 : x2 ≤ 16) (h3 : x3 ≤ 16) (h4 : x4 ≤ 16) (h5 : x5 ≤ 16) (h6 : x6 ≤ 16) (h7 : d7 ≤ 8) :
    st5 ((x0 + 256 * (x1 + 256 * (x2 + 256 * (x3 + 256 * (x4 + 256 * (x5 + 256 * (x6 + 256 * d7)))))) : Nat) : Int)
        = (((x0 + x2) + 256 * ((x1 + x3) + 256 * ((x2 + x4) + 256 * ((x3 + x5) + 256 * ((x4 + x6) + 256 * ((x5 + d7) + 256 * (x6 + 256 * d7)))))) : Nat) : Int) := by
  unfold st5; rw [wu64]
  have : ((x0 + 256 * (x1 + 256 * (x2 + 256 * (x3 + 256 * (x4 + 256 * (x5 + 256 * (x6 + 256 * d7)))))) : Nat) : Int) / 65536 = ((x2 + 256 * (x3 + 256 * (x4 + 256 * (x5 + 256 * (x6 + 256 * d7)))) : Nat) : Int) := by omega
  rw [this]; omega
theorem fold6 (y0 y1 y2 y3 y4 y5 x6 d7 : Nat) (h0 : y0 ≤ 32) (h1 : y1 ≤ 32) (h2 : y2 ≤ 32) (h3 : y3 ≤ 32) (h4 : y4 ≤ 32) (h5 : y5 ≤ 32) (h6 : x6 ≤ 16) (h7 : d7 ≤ 8) :
    ∃ q : Nat, q < 36028797018963968 ∧ st6 ((y0 + 256 * (y1 + 256 * (y2 + 256 * (y3 + 256 * (y4 + 256 * (y5 + 256 * (x6 + 256 * d7)))))) : Nat) : Int) = ((y0 + y4 + 256 * q : Nat) : Int) := by
  refine ⟨(y1 + y5) + 256 * ((y2 + x6) + 256 * ((y3 + d7) + 256 * (y4 + 256 * (y5 + 256 * (x6 + 256 * d7))))), by omega, ?_⟩
  unfold st6; rw [wu64]
  have : ((y0 + 256 * (y1 + 256 * (y2 + 256 * (y3 + 256 * (y4 + 256 * (y5 + 256 * (x6 + 256 * d7)))))) : Nat) : Int) / 4294967296 = ((y4 + 256 * (y5 + 256 * (x6 + 256 * d7)) : Nat) : Int) := by omega
  rw [this]; omega
theorem fold_all (d0 d1 d2 d3 d4 d5 d6 d7 : Nat) (h0 : d0 ≤ 8) (h1 : d1 ≤ 8) (h2 : d2 ≤ 8) (h3 : d3 ≤ 8) (h4 : d4 ≤ 8) (h5 : d5 ≤ 8) (h6 : d6 ≤ 8) (h7 : d7 ≤ 8) :
    Go.bits .and .i64 (wrap64 (st6 (st5 (st4 ((d0 + 256 * (d1 + 256 * (d2 + 256 * (d3 + 256 * (d4 + 256 * (d5 + 256 * (d6 + 256 * d7)))))) : Nat) : Int))))) 127 = ((d0 + (d1 + (d2 + (d3 + (d4 + (d5 + (d6 + d7)))))) : Nat) : Int) := by
  rw [fold4 d0 d1 d2 d3 d4 d5 d6 d7 h0 h1 h2 h3 h4 h5 h6 h7, fold5 _ _ _ _ _ _ _ _ (by omega) (by omega) (by omega) (by omega) (by omega) (by omega) (by omega) h7]
  obtain ⟨q, hq, e⟩ := fold6 (d0 + d1 + (d2 + d3)) (d1 + d2 + (d3 + d4)) (d2 + d3 + (d4 + d5)) (d3 + d4 + (d5 + d6)) (d4 + d5 + (d6 + d7)) (d5 + d6 + d7) (d6 + d7) d7 (by omega) (by omega) (by omega) (by omega) (by omega) (by omega) (by omega) h7
  rw [e]; clear e
  have hr : wrap64 ((d0 + d1 + (d2 + d3) + (d4 + d5 + (d6 + d7)) + 256 * q : Nat) : Int) = ((d0 + d1 + (d2 + d3) + (d4 + d5 + (d6 + d7)) + 256 * q : Nat) : Int) := by unfold wrap64; omega
  rw [hr]
  have hm : Go.bits .and .i64 ((d0 + d1 + (d2 + d3) + (d4 + d5 + (d6 + d7)) + 256 * q : Nat) : Int) 127 = ((d0 + d1 + (d2 + d3) + (d4 + d5 + (d6 + d7)) + 256 * q : Nat) : Int) % 128 :=
    Go.bits_mask .i64 63 (by decide) (fun n h0 h1 => by rw [Go.IntKind.wrap_i64]; omega) 7 (by decide) _ (by omega) (by omega)
  rw [hm]; omega
theorem st1_val (l : List Nat) (hl : l.length = 8) (h : ∀ b ∈ l, b < 256) : st1 (val l : Int) = (val (l.map g1) : Nat) ∧ (∀ b ∈ l.map g1, b < 171) := by
  have p8 : 256 ^ 8 = 18446744073709551616 := by decide
  have hv : val l < 18446744073709551616 := by have := val_lt l 256 (by omega) h; rw [hl, p8] at this; exact this
  have m1 : mk 85 8 = 6148914691236517205 := by decide
  have q1 := t1 l h
  rw [hl, m1] at q1
  have h1 : ∀ b ∈ l.map g1, b < 171 := by intro b hb; obtain ⟨c, hc, rfl⟩ := List.mem_map.1 hb; exact g1_lt c (h c hc)
  have hv1 : val (l.map g1) < 18446744073709551616 := by have := val_lt (l.map g1) 171 (by omega) h1; rw [List.length_map, hl, p8] at this; exact this
  refine ⟨?_, h1⟩
  unfold st1
  have d : ((val l : Nat) : Int) / 2 = ((val l / 2 : Nat) : Int) := by omega
  rw [d, show (6148914691236517205 : Int) = ((6148914691236517205 : Nat) : Int) from rfl, u64and _ _ (by omega) (by omega), u64and _ _ hv (by omega), ← Int.natCast_add, q1, u64id _ hv1]
theorem st2_val (l : List Nat) (hl : l.length = 8) (h : ∀ b ∈ l, b < 256) (h2 : ∀ b ∈ l.map g2, b < 256) : st2 (val l : Int) = (val (l.map g2) : Nat) := by
  have p8 : 256 ^ 8 = 18446744073709551616 := by decide
  have hv : val l < 18446744073709551616 := by have := val_lt l 256 (by omega) h; rw [hl, p8] at this; exact this
  have m1 : mk 51 8 = 3689348814741910323 := by decide
  have q1 := t2 l h
  rw [hl, m1] at q1
  have hv1 : val (l.map g2) < 18446744073709551616 := by have := val_lt (l.map g2) 256 (by omega) h2; rw [List.length_map, hl, p8] at this; exact this
  unfold st2
  have d : ((val l : Nat) : Int) / 4 = ((val l / 4 : Nat) : Int) := by omega
  rw [d, show (3689348814741910323 : Int) = ((3689348814741910323 : Nat) : Int) from rfl, u64and _ _ (by omega) (by omega), u64and _ _ hv (by omega), ← Int.natCast_add, q1, u64id _ hv1]
theorem st3_val (l : List Nat) (hl : l.length = 8) (h : ∀ b ∈ l, b < 69 ∧ b % 16 < 5) : st3 (val l : Int) = (val (l.map g3) : Nat) := by
  have p8 : 256 ^ 8 = 18446744073709551616 := by decide
  have hv : 255 * val l + 68 ≤ 68 * 18446744073709551616 := by have := val_le l (fun b hb => (h b hb).1); rw [hl, p8] at this; exact this
  have m1 : mk 15 8 = 1085102592571150095 := by decide
  have q1 := t3 l h
  rw [hl, m1] at q1
  unfold st3
  have hs : val l / 16 + val l < 18446744073709551616 := by omega
  have d : ((val l : Nat) : Int) / 16 + ((val l : Nat) : Int) = ((val l / 16 + val l : Nat) : Int) := by omega
  rw [d, u64id _ hs, show (1085102592571150095 : Int) = ((1085102592571150095 : Nat) : Int) from rfl, u64and _ _ hs (by omega), q1]
theorem ones_val (l : List Nat) (hl : l.length = 8) (h : ∀ b ∈ l, b < 256) : bits_OnesCount64.f (val l : Int) = some (((l.map (cn 8)).sum : Nat) : Int) := by
  have h2 : ∀ b ∈ (l.map g1).map g2, b < 69 ∧ b % 16 < 5 := by
    intro b hb; simp only [List.map_map] at hb; obtain ⟨c, hc, rfl⟩ := List.mem_map.1 hb; exact g2_lt c (h c hc)
  have e : ((l.map g1).map g2).map g3 = l.map (cn 8) := by
    rw [List.map_map, List.map_map]; apply List.map_congr_left; intro c hc; exact g_is c (h c hc)
  obtain ⟨s1, h1⟩ := st1_val l hl h
  have s2 := st2_val (l.map g1) (by simp [hl]) (fun b hb => by have := h1 b hb; omega) (fun b hb => by have := (h2 b hb).1; omega)
  have s3 := st3_val ((l.map g1).map g2) (by simp [hl]) h2
  rw [e] at s3
  rw [ones_steps, s1, s2, s3]
  clear s1 s2 s3 h1 h2 e
  have hc : ∀ b, cn 8 b ≤ 8 := cn_le 8
  match l, hl with
  | [b0, b1, b2, b3, b4, b5, b6, b7], _ =>
    simp only [List.map_cons, List.map_nil, val, List.sum_cons, List.sum_nil, Nat.mul_zero, Nat.add_zero]
    rw [fold_all _ _ _ _ _ _ _ _ (hc b0) (hc b1) (hc b2) (hc b3) (hc b4) (hc b5) (hc b6) (hc b7)]
theorem ones_is (x : Nat) (h : x < 18446744073709551616) : bits_OnesCount64.f (x : Int) = some ((cn 64 x : Nat) : Int) := by
  have e : x = val [x % 256, x / 256 % 256, x / 65536 % 256, x / 16777216 % 256, x / 4294967296 % 256, x / 1099511627776 % 256, x / 281474976710656 % 256, x / 72057594037927936 % 256] := by
    simp only [val]; omega
  have hv := ones_val [x % 256, x / 256 % 256, x / 65536 % 256, x / 16777216 % 256, x / 4294967296 % 256, x / 1099511627776 % 256, x / 281474976710656 % 256, x / 72057594037927936 % 256] rfl
    (by intro b hb; simp at hb; omega)
  rw [← e] at hv
  rw [hv]; clear hv e
  refine congrArg (fun n : Nat => some (n : Int)) ?_
  have c8 : ∀ y, cn 8 (y % 256) = cn 8 y := fun y => cn_mod 8 y
  rw [show (64 : Nat) = 8 + (8 + (8 + (8 + (8 + (8 + (8 + 8)))))) from rfl]
  simp only [cn_add, List.map_cons, List.map_nil, List.sum_cons, List.sum_nil, c8, Nat.div_div_eq_div_mul, Nat.reducePow, Nat.reduceMul, Nat.add_zero]
theorem nbits_is (a : Int) : nums_Bits.f a = some ((cn 62 (M a) : Nat) : Int) := by
  unfold nums_Bits.f
  have hm : M a &&& M 4611686018427387903 = M a % 2 ^ 62 := by
    have : M 4611686018427387903 = 2 ^ 62 - 1 := by decide
    rw [this, Nat.and_two_pow_sub_one_eq_mod]
  rw [bits_and64, hm]
  have hlt : M a % 2 ^ 62 < 2 ^ 62 := Nat.mod_lt _ (by decide)
  have e : wrap64 ((M a % 2 ^ 62 : Nat) : Int) = ((M a % 2 ^ 62 : Nat) : Int) := by unfold wrap64; omega
  rw [e, u64id _ (by omega), ones_is _ (by omega)]
  simp only [Option.bind_some]
  refine congrArg (fun n : Nat => some (n : Int)) ?_
  have e2 : cn 64 (M a % 2 ^ 62) = cn 62 (M a % 2 ^ 62) + cn 2 (M a % 2 ^ 62 / 2 ^ 62) := cn_add 62 2 _
  have e3 : cn 2 0 = 0 := rfl
  rw [e2, cn_mod, Nat.div_eq_of_lt hlt, e3, Nat.add_zero]

theorem NumsPut : baileylaw01_NumsPut.Pure := by
  intro a i k ha _ _
  have ha' := b64 ha
  refine ⟨10, ?_⟩
  unfold baileylaw01_NumsPut.f
  by_cases h : 0 ≤ i ∧ i ≤ 61
  · rw [if_neg (by omega), decide_eq_false (by omega)]
    have h2 : 2 ^ i.toNat ≤ 2 ^ 61 := Nat.pow_le_pow_right (by decide) (by omega : i.toNat ≤ 61)
    have hM := M_lt a
    have hor : M a ||| 2 ^ i.toNat < 18446744073709551616 := by
      have := Nat.or_lt_two_pow (n := 64) (x := M a) (y := 2 ^ i.toNat) (by omega) (by omega)
      omega
    have mw := M_wrap _ hor
    have mo := M_wrap _ (without_lt (M a) (2 ^ i.toNat))
    have bw : ∀ j, (M a ||| 2 ^ i.toNat).testBit j = ((M a).testBit j || decide (i.toNat = j)) := fun j => by rw [Nat.testBit_or, Nat.testBit_two_pow]
    have bo : ∀ j, (without (M a) (2 ^ i.toNat)).testBit j = ((M a).testBit j && !decide (i.toNat = j)) := fun j => without_bit _ _ _ hM (by omega)
    simp only [baileylaw01_NumsPut.j0]
    rw [if_neg (by decide), with_in a i h, without_in a i h]
    simp only [bnd, has_is, nbits_is]
    have hw1 : inS (wrap64 ((M a ||| 2 ^ i.toNat : Nat) : Int)) i = true := by unfold inS; rw [mw, bw]; simp [h]
    have hw2 : inS (wrap64 ((without (M a) (2 ^ i.toNat) : Nat) : Int)) i = false := by unfold inS; rw [mo, bo]; simp
    rw [if_pos hw1, if_neg (by rw [hw2]; decide), mw, mo]
    have hc := cn_bits 62 (M a ||| 2 ^ i.toNat) (without (M a) (2 ^ i.toNat)) i.toNat (by omega) (by rw [bw]; simp) (by rw [bo]; simp)
      (fun j hj => by rw [bw, bo]; have : decide (i.toNat = j) = false := by simp; omega
                      simp [this])
    have hcl := cn_le 62 (without (M a) (2 ^ i.toNat))
    generalize cn 62 (M a ||| 2 ^ i.toNat) = A at *
    generalize cn 62 (without (M a) (2 ^ i.toNat)) = B at *
    have e : (((A : Nat) : Int) != wrap64 (((B : Nat) : Int) + 1)) = false := by
      rw [w64 (by omega) (by omega), hc]; simp
    rw [e]
    simp only [baileylaw01_NumsPut.j1]
    rw [if_neg (by decide)]
    by_cases hk : k = i
    · rw [if_pos hk, awake_at _ (by decide)]; rfl
    · rw [if_neg hk]
      simp only [has_is, bnd]
      have hd : 0 ≤ k ∧ k ≤ 61 → decide (i.toNat = k.toNat) = false := fun hh => by simp; omega
      have q1 : inS (wrap64 ((M a ||| 2 ^ i.toNat : Nat) : Int)) k = inS a k := by
        unfold inS; rw [mw, bw]
        by_cases hh : 0 ≤ k ∧ k ≤ 61
        · rw [hd hh]; simp
        · rw [decide_eq_false hh]; simp
      have q2 : inS (wrap64 ((without (M a) (2 ^ i.toNat) : Nat) : Int)) k = inS a k := by
        unfold inS; rw [mo, bo]
        by_cases hh : 0 ≤ k ∧ k ≤ 61
        · rw [hd hh]; simp
        · rw [decide_eq_false hh]; simp
      rw [q1, q2]
      simp [awake_at 8 (by decide)]
  · have e : (if i < 0 then baileylaw01_NumsPut.j0 10 a i k true else baileylaw01_NumsPut.j0 10 a i k (decide (i > 61))) = baileylaw01_NumsPut.j0 10 a i k true := by
      split
      · rfl
      · rw [decide_eq_true (by omega)]
    rw [e]
    simp [baileylaw01_NumsPut.j0, with_out a i h ha'.1 ha'.2, without_out a i h ha'.1 ha'.2, awake_at 9 (by decide)]

end Go.Proofs.Ytpolglgfbfjcoaa.Pure
