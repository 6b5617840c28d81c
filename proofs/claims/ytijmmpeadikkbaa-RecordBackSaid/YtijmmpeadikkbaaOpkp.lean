/- Numbers in groups of seven bits: plain. -/
import Derived.Test.YtijmmpeadikkbaaOM8
set_option linter.unusedVariables false
set_option linter.unusedSimpArgs false
set_option maxRecDepth 10000
set_option maxHeartbeats 1000000
namespace Go.T
/-- How many bytes the number has that stands ahead; or an error. -/
def numW : Nat → List Int → Int × Int
  | _, [] => (4, 0)
  | i, x :: xs => if (i = 0 ∧ x = 128) ∨ (i = 8 ∧ 128 ≤ x) then (3, 0) else if x < 128 then (0, (i : Int) + 1) else numW (i + 1) xs
theorem numW_le : ∀ (l : List Int) (i : Nat), i ≤ 8 → (numW i l).1 = 0 → (i : Int) < (numW i l).2 ∧ (numW i l).2 ≤ 9 ∧ (numW i l).2 ≤ (i : Int) + l.length := by
  intro l
  induction l with
  | nil => intro i _ h; simp [numW] at h
  | cons x xs ih =>
    intro i hi h
    simp only [numW] at h ⊢
    by_cases hb : (i = 0 ∧ x = 128) ∨ (i = 8 ∧ 128 ≤ x)
    · rw [if_pos hb] at h; simp at h
    · rw [if_neg hb] at h ⊢
      by_cases hl : x < 128
      · rw [if_pos hl]; simp; omega
      · rw [if_neg hl] at h ⊢
        have h8 : i ≠ 8 := fun e => hb (.inr ⟨e, by omega⟩)
        have := ih (i + 1) (by omega) h
        simp only [List.length_cons]
        omega
theorem numW_err : ∀ (l : List Int) (i : Nat), (numW i l).1 = 0 ∨ ((numW i l).1 = 3 ∨ (numW i l).1 = 4) ∧ (numW i l).2 = 0 := by
  intro l
  induction l with
  | nil => intro i; right; exact ⟨.inr rfl, rfl⟩
  | cons x xs ih =>
    intro i
    simp only [numW]
    split
    · right; exact ⟨.inl rfl, rfl⟩
    · split
      · left; rfl
      · exact ih (i + 1)
/-- The number that bytes are, seven bits each. -/
def numV (l : List Int) : Int := l.foldl (fun n x => n * 128 + x % 128) 0
theorem numV_snoc (l : List Int) (x : Int) : numV (l ++ [x]) = numV l * 128 + x % 128 := by simp [numV]
theorem numV_from (l : List Int) : ∀ a : Int, 0 ≤ a → 0 ≤ l.foldl (fun n x => n * 128 + x % 128) a ∧ l.foldl (fun n x => n * 128 + x % 128) a < (a + 1) * 128 ^ l.length := by
  induction l with
  | nil => intro a ha; simp; omega
  | cons x xs ih =>
    intro a ha
    have := ih (a * 128 + x % 128) (by omega)
    have hp : (0 : Int) ≤ 128 ^ xs.length := Int.pow_nonneg (by decide)
    have hm := Int.mul_le_mul_of_nonneg_right (show a * 128 + x % 128 + 1 ≤ (a + 1) * 128 by omega) hp
    simp only [List.foldl_cons, List.length_cons, Int.pow_succ]
    refine ⟨this.1, Int.lt_of_lt_of_le this.2 ?_⟩
    rw [Int.mul_comm ((128 : Int) ^ xs.length) 128, ← Int.mul_assoc]
    exact hm
theorem numV_bd (l : List Int) : 0 ≤ numV l ∧ numV l < 128 ^ l.length := by
  have := numV_from l 0 (by omega)
  simpa [numV] using this
theorem numV_small (l : List Int) (h : l.length ≤ 8) : 0 ≤ numV l ∧ numV l < 72057594037927936 := by
  have h1 := numV_bd l
  have h2 : (128 : Int) ^ l.length ≤ 128 ^ 8 := by
    have : (128 : Nat) ^ l.length ≤ 128 ^ 8 := Nat.pow_le_pow_right (by decide) h
    exact_mod_cast this
  have h3 : (128 : Int) ^ 8 = 72057594037927936 := by decide
  omega
theorem or7 (n y : Int) (h0 : 0 ≤ n) (h1 : n < 72057594037927936) (hy0 : 0 ≤ y) (hy1 : y < 128) : Go.bits .or .i64 (n * 128) y = n * 128 + y :=
  Go.bits_join .i64 63 (by decide) (fun n h0 h1 => by rw [Go.IntKind.wrap_i64]; omega) 7 (n * 128) y (by omega) (by omega) (by omega) hy0 (by omega) (by omega)
/-- What a reader reads as a number of what is left: it, how many bytes it has; or an error. -/
def rdNum (rest : List Int) (most : Int) : Int × Int × Int :=
  if (numW 0 rest).1 = 0 then (if most < numV (rest.take (numW 0 rest).2.toNat) then (0, 0, 5) else (numV (rest.take (numW 0 rest).2.toNat), (numW 0 rest).2, 0)) else (0, 0, (numW 0 rest).1)
/-- A number's groups. -/
def grp : Nat → Int → List Int
  | 0, n => [n]
  | f + 1, n => if n < 128 then [n] else grp f (n / 128) ++ [n % 128]
theorem grp_len : ∀ (f : Nat) (n : Int), 1 ≤ (grp f n).length ∧ (grp f n).length ≤ f + 1
  | 0, n => by simp [grp]
  | f + 1, n => by
    unfold grp
    split
    · simp
    · have := grp_len f (n / 128)
      simp; omega
/-- The groups as they stand in bytes: each but the last has its bit. -/
def hi : List Int → List Int
  | [] => []
  | [b] => [b]
  | b :: c :: t => (b + 128) % 256 :: hi (c :: t)
theorem hi_len : ∀ l : List Int, (hi l).length = l.length
  | [] => rfl
  | [b] => rfl
  | b :: c :: t => by unfold hi; simp [hi_len (c :: t)]
theorem hi_snoc : ∀ (l : List Int) (b : Int), hi (l ++ [b]) = l.map (fun x => (x + 128) % 256) ++ [b]
  | [], b => rfl
  | [c], b => rfl
  | c :: d :: t, b => by
    show (c + 128) % 256 :: hi ((d :: t) ++ [b]) = _
    rw [hi_snoc (d :: t) b]; rfl
/-- A number's bytes. -/
def numB (n : Int) : List Int := hi (grp 8 (max n 0))
theorem numB_len (n : Int) : 1 ≤ (numB n).length ∧ (numB n).length ≤ 9 := by
  unfold numB; rw [hi_len]; exact grp_len 8 _
/-- The groups above the last, the highest first. -/
def mids : Nat → Int → List Int
  | 0, _ => []
  | j + 1, n => ((n / 128 ^ (j + 1)) % 128 + 128) :: mids j n
theorem mids_snoc : ∀ (j : Nat) (n : Int), mids (j + 1) n = mids j (n / 128) ++ [(n / 128) % 128 + 128]
  | 0, n => by simp [mids]
  | j + 1, n => by
    show ((n / 128 ^ (j + 1 + 1)) % 128 + 128) :: mids (j + 1) n = (((n / 128) / 128 ^ (j + 1)) % 128 + 128) :: mids j (n / 128) ++ _
    rw [mids_snoc j n]
    have : n / 128 ^ (j + 1 + 1) = n / 128 / 128 ^ (j + 1) := by
      rw [Int.ediv_ediv_of_nonneg (by omega), Int.pow_succ (n := j + 1), Int.mul_comm]
    rw [this]; rfl
theorem grp_mids : ∀ (f : Nat) (n : Int), 0 ≤ n → n / 128 < 128 ^ (f + 1) → (grp f (n / 128)).map (fun x => (x + 128) % 256) = mids (grp f (n / 128)).length n
  | 0, n, h0, h => by
    simp [grp, mids]; omega
  | f + 1, n, h0, h => by
    unfold grp
    by_cases hx : n / 128 < 128
    · rw [if_pos hx]; simp [mids]; omega
    · rw [if_neg hx]
      have hp : n / 128 / 128 < 128 ^ (f + 1) := by
        apply Int.ediv_lt_of_lt_mul (by omega)
        rw [← Int.pow_succ]; exact h
      have := grp_mids f (n / 128) (by omega) hp
      rw [List.length_append, List.length_singleton, mids_snoc, ← this]
      simp; omega
theorem numB_mids (n : Int) (h0 : 0 ≤ n) (h1 : n ≤ 9223372036854775807) : numB n = mids ((numB n).length - 1) n ++ [n % 128] := by
  have hl : (numB n).length = (grp 8 (max n 0)).length := by unfold numB; rw [hi_len]
  rw [hl]
  unfold numB
  have e : max n 0 = n := by omega
  rw [e]
  show hi (if n < 128 then [n] else grp 7 (n / 128) ++ [n % 128]) = mids ((if n < 128 then [n] else grp 7 (n / 128) ++ [n % 128]).length - 1) n ++ [n % 128]
  by_cases hx : n < 128
  · rw [if_pos hx]; simp [hi, mids]; omega
  · rw [if_neg hx, hi_snoc, grp_mids 7 n h0 (by omega)]
    simp
/-- What a number that stands there is: its groups, and what follows. -/
theorem numW_yes : ∀ (l : List Int) (i : Nat) (wd : Int), (∀ x ∈ l, 0 ≤ x ∧ x ≤ 255) → i ≤ 8 → numW i l = (0, wd) → ∃ T rest, l = T ++ rest ∧ wd = (i : Int) + T.length ∧ T ≠ [] ∧ hi (T.map (· % 128)) = T ∧ i + T.length ≤ 9 ∧ (i = 0 → T.length = 1 ∨ ∃ a t, T = a :: t ∧ a % 128 ≠ 0) := by
  intro l
  induction l with
  | nil => intro i wd _ _ h; simp [numW] at h
  | cons x xs ih =>
    intro i wd hb hi8 h
    have hx := hb x (by simp)
    simp only [numW] at h
    by_cases hc : (i = 0 ∧ x = 128) ∨ (i = 8 ∧ 128 ≤ x)
    · rw [if_pos hc] at h; simp at h
    · rw [if_neg hc] at h
      by_cases hl : x < 128
      · rw [if_pos hl] at h
        simp only [Prod.mk.injEq, true_and] at h
        refine ⟨[x], xs, rfl, by simp; omega, by simp, ?_, by simp; omega, fun _ => .inl rfl⟩
        simp [hi]; omega
      · rw [if_neg hl] at h
        have h8 : i ≠ 8 := fun e => hc (.inr ⟨e, by omega⟩)
        obtain ⟨T, rest, e1, e2, e3, e4, e5, _⟩ := ih (i + 1) wd (fun y hy => hb y (by simp [hy])) (by omega) h
        refine ⟨x :: T, rest, by simp [e1], by simp; omega, by simp, ?_, by simp; omega, fun hi0 => .inr ⟨x, T, rfl, ?_⟩⟩
        · cases T with
          | nil => exact absurd rfl e3
          | cons b t =>
            show (x % 128 + 128) % 256 :: hi ((b :: t).map (· % 128)) = _
            rw [e4]; congr 1; omega
        · have hn : x ≠ 128 := fun e => hc (.inl ⟨hi0, e⟩)
          omega
theorem numV_nn (l : List Int) : 0 ≤ numV l := (numV_bd l).1
theorem numV_pos (a : Int) (t : List Int) (h : a % 128 ≠ 0) : 1 ≤ numV (a :: t) := by
  have key : ∀ (t : List Int) (v : Int), 1 ≤ v → 1 ≤ t.foldl (fun n x => n * 128 + x % 128) v := by
    intro t
    induction t with
    | nil => intro v hv; exact hv
    | cons x xs ih => intro v hv; exact ih _ (by show 1 ≤ v * 128 + x % 128; omega)
  exact key t _ (by show 1 ≤ 0 * 128 + a % 128; omega)
theorem grp_numV : ∀ (f : Nat) (T : List Int), T ≠ [] → T.length ≤ f + 1 → (T.length = 1 ∨ ∃ a t, T = a :: t ∧ a % 128 ≠ 0) → grp f (numV T) = T.map (· % 128)
  | f, T, hne, hl, hh => by
    rcases List.eq_nil_or_concat T with e | ⟨T', x, e⟩
    · exact absurd e hne
    · subst e
      rw [List.concat_eq_append] at *
      rw [numV_snoc]
      cases T' with
      | nil =>
        have e0 : numV ([] : List Int) = 0 := rfl
        rw [e0]
        cases f with
        | zero => simp [grp]
        | succ f => simp only [grp]; rw [if_pos (by omega)]; simp
      | cons a t =>
        have ha : a % 128 ≠ 0 := by
          rcases hh with h | ⟨a', t', e, h⟩
          · simp at h
          · simp at e; rw [e.1]; exact h
        have hv := numV_pos a t ha
        cases f with
        | zero => simp at hl
        | succ f =>
          simp only [grp]
          rw [if_neg (by omega)]
          have e1 : (numV (a :: t) * 128 + x % 128) / 128 = numV (a :: t) := by omega
          have e2 : (numV (a :: t) * 128 + x % 128) % 128 = x % 128 := by omega
          rw [e1, e2, grp_numV f (a :: t) (by simp) (by simp at hl ⊢; omega) (.inr ⟨a, t, rfl, ha⟩)]
          simp
/-- What was read has just its bytes. -/
theorem read_back (l : List Int) (wd : Int) (hb : ∀ x ∈ l, 0 ≤ x ∧ x ≤ 255) (h : numW 0 l = (0, wd)) : numB (numV (l.take wd.toNat)) = l.take wd.toNat ∧ 1 ≤ wd ∧ wd ≤ 9 ∧ wd ≤ l.length ∧ 0 ≤ numV (l.take wd.toNat) ∧ numV (l.take wd.toNat) ≤ 9223372036854775807 := by
  obtain ⟨T, rest, e1, e2, e3, e4, e5, e6⟩ := numW_yes l 0 wd hb (by omega) h
  have hT : 1 ≤ T.length := by cases T with | nil => exact absurd rfl e3 | cons _ _ => simp
  have et : l.take wd.toNat = T := by rw [e1]; simp [e2]
  rw [et]
  refine ⟨?_, by omega, by omega, by rw [e1]; simp; omega, numV_nn T, ?_⟩
  · unfold numB
    have : max (numV T) 0 = numV T := by have := numV_nn T; omega
    rw [this, grp_numV 8 T e3 (by omega) (e6 rfl), e4]
  · have h1 := (numV_bd T).2
    have h2 : (128 : Int) ^ T.length ≤ 128 ^ 9 := by
      have := Nat.pow_le_pow_right (n := 128) (by decide) (show T.length ≤ 9 by omega)
      have e : ((128 ^ T.length : Nat) : Int) = (128 : Int) ^ T.length := by simp
      rw [← e]; have e2 : (128 : Int) ^ 9 = ((128 ^ 9 : Nat) : Int) := by simp
      rw [e2]; exact Int.ofNat_le.2 this
    omega
theorem grp_rng : ∀ (f : Nat) (n : Int), 0 ≤ n → n < 128 ^ (f + 1) → (∀ x ∈ grp f n, 0 ≤ x ∧ x < 128) ∧ numV (grp f n) = n ∧ ((grp f n).length = 1 ∨ ∃ a t, grp f n = a :: t ∧ a ≠ 0)
  | 0, n, h0, h => by
    simp only [grp]
    refine ⟨?_, ?_, .inl rfl⟩
    · intro x hx; simp at hx; omega
    · simp [numV]; omega
  | f + 1, n, h0, h => by
    simp only [grp]
    by_cases hx : n < 128
    · rw [if_pos hx]
      refine ⟨?_, ?_, .inl rfl⟩
      · intro x hx; simp at hx; omega
      · simp [numV]; omega
    · rw [if_neg hx]
      have hp : n / 128 < 128 ^ (f + 1) := by
        apply Int.ediv_lt_of_lt_mul (by omega)
        rw [← Int.pow_succ]; exact h
      obtain ⟨i1, i2, i3⟩ := grp_rng f (n / 128) (by omega) hp
      refine ⟨?_, by rw [numV_snoc, i2]; omega, .inr ?_⟩
      · intro x hx
        rw [List.mem_append] at hx
        rcases hx with hx | hx
        · exact i1 x hx
        · simp at hx; omega
      · rcases i3 with i3 | ⟨a, t, e, ha⟩
        · have hl := grp_len f (n / 128)
          obtain ⟨a, ea⟩ : ∃ a, grp f (n / 128) = [a] := by
            cases hg : grp f (n / 128) with
            | nil => rw [hg] at i3; simp at i3
            | cons a t => rw [hg] at i3; simp at i3; exact ⟨a, by rw [i3]⟩
          rw [ea] at i2 i1
          have := i1 a (by simp)
          refine ⟨a, [n % 128], by rw [ea]; rfl, ?_⟩
          simp [numV] at i2; omega
        · exact ⟨a, t ++ [n % 128], by rw [e]; rfl, ha⟩
theorem numW_hi : ∀ (G rest : List Int) (i : Nat), G ≠ [] → (∀ x ∈ G, 0 ≤ x ∧ x < 128) → (i = 0 → G.length = 1 ∨ ∃ a t, G = a :: t ∧ a ≠ 0) → i + G.length ≤ 9 → numW i (hi G ++ rest) = (0, (i : Int) + G.length)
  | [b], rest, i, _, hb, _, _ => by
    have := hb b (by simp)
    show numW i (b :: rest) = _
    simp only [numW]
    rw [if_neg (by omega), if_pos this.2]; simp
  | b :: c :: t, rest, i, _, hb, hh, hl => by
    have hb0 := hb b (by simp)
    show numW i ((b + 128) % 256 :: (hi (c :: t) ++ rest)) = _
    simp only [numW]
    have hn : i = 0 → b ≠ 0 := by
      intro hi0
      rcases hh hi0 with h | ⟨a, t', e, h⟩
      · simp at h
      · simp at e; rw [e.1]; exact h
    simp only [List.length_cons] at hl
    rw [if_neg (by omega), if_neg (by omega), numW_hi (c :: t) rest (i + 1) (by simp) (fun x hx => hb x (by simp at hx ⊢; right; exact hx)) (by omega) (by simp; omega)]
    simp; omega
theorem numV_hi : ∀ (G : List Int) (v : Int), (hi G).foldl (fun n x => n * 128 + x % 128) v = G.foldl (fun n x => n * 128 + x % 128) v
  | [], v => rfl
  | [b], v => rfl
  | b :: c :: t, v => by
    show (hi (c :: t)).foldl (fun n x => n * 128 + x % 128) (v * 128 + (b + 128) % 256 % 128) = _
    rw [numV_hi (c :: t)]
    have : (b + 128) % 256 % 128 = b % 128 := by omega
    rw [this]; rfl
/-- What was written is read. -/
theorem num_read (n : Int) (rest : List Int) (h0 : -9223372036854775808 ≤ n) (h1 : n ≤ 9223372036854775807) (most : Int) (hm : max n 0 ≤ most) : rdNum (numB n ++ rest) most = (max n 0, ((numB n).length : Int), 0) := by
  obtain ⟨g1, g2, g3⟩ := grp_rng 8 (max n 0) (by omega) (by omega)
  have gl := grp_len 8 (max n 0)
  have hw : numW 0 (numB n ++ rest) = (0, ((numB n).length : Int)) := by
    unfold numB
    rw [numW_hi _ rest 0 (by intro e; rw [e] at gl; simp at gl) g1 (fun _ => g3) (by omega), hi_len]; simp
  have hv : numV (numB n) = max n 0 := by
    have e : numV (numB n) = numV (grp 8 (max n 0)) := by unfold numB numV; rw [numV_hi]
    rw [e, g2]
  unfold rdNum
  rw [hw]
  simp only [if_true]
  have : (numB n ++ rest).take ((numB n).length : Int).toNat = numB n := by simp
  rw [this, hv, if_neg (by omega)]
end Go.T
