/- One part of the proofs about layer 2: what was written is read, and what was read has its bytes, in plain Lean. No condition.
   (Lines that the kit's print wrote for this claim, and walks of ours, as one text of our own: not a printed one.) -/
import Derived.Test.YtagpdfekeppbgaaProg
import Derived.Below
import Derived.Deep.Draws
import Derived.Deep.AppendLies
import Derived.Maps.AppendAt
import Derived.OwnWalk
import Derived.Laws.BytesArg
import Derived.Laws.MakeOwn
import Derived.Laws.OwnMore
import Derived.Deep.OwnRows
import Derived.Tactics
import Derived.Lib.ConvBytes
import Derived.Laws.Slices
import Derived.WalkKit
import Derived.KernelRfl
import Derived.RowKit3
import Derived.Deep.LoopGhost
import Derived.Deep.QuietTactic
import Derived.BigQuiet
import Derived.WideLaws
import Derived.Deep.DeepCutAuto
import Derived.Deep.CutBlock
import Derived.Deep.RegionHeld3
import Derived.Laws.Rows
import Derived.Lib.AppendStr
import Derived.ArgAppend
import Derived.Laws.IdiomCopy
import Derived.OrdersHeld
import Derived.Laws.BitsLemmas
import Derived.RowKit
import Derived.Test.YtagpdfekeppbgaaWWords
import Derived.Test.YtagpdfekeppbgaaWLast
import Derived.Test.YtagpdfekeppbgaaWTab
import Derived.Test.YtagpdfekeppbgaaWFour
import Derived.Test.YtagpdfekeppbgaaWQPut
import Derived.Test.YtagpdfekeppbgaaWApart
import Derived.Test.YtagpdfekeppbgaaWArr
import Derived.Test.YtagpdfekeppbgaaWZeros
import Derived.Test.YtagpdfekeppbgaaWFoot
import Derived.Test.YtagpdfekeppbgaaWKept
import Derived.Test.YtagpdfekeppbgaaWShare
import Derived.Test.YtagpdfekeppbgaaWN
import Derived.Test.YtagpdfekeppbgaaWFootNe
import Derived.Test.YtagpdfekeppbgaaWAt
import Derived.Test.YtagpdfekeppbgaaWEqStruct
import Derived.Test.YtagpdfekeppbgaaWRepsOne
import Derived.Test.YtagpdfekeppbgaaWInv
import Derived.Test.YtagpdfekeppbgaaWInvWords
import Derived.Test.YtagpdfekeppbgaaWGuard
import Derived.Test.YtagpdfekeppbgaaWNEv
import Derived.Test.YtagpdfekeppbgaaWMore
import Derived.WalkSpells
import Derived.Outline
import Derived.Laws.CopyOwn
import Derived.Test.YtagpdfekeppbgaaOPkPP
import Derived.Lib.SlBytesConst
namespace Go.Proofs.Ytagpdfekeppbgaa.X
open Go.RowKit Go.Proofs.YtagpdfekeppbgaaW.PrintWords Go.Proofs.YtagpdfekeppbgaaW.PrintLast Go.Proofs.YtagpdfekeppbgaaW.PrintMore
attribute [local go_sem] max2_int min2_int max_two min_two max_three min_three max_four min_four
set_option linter.unusedVariables false
set_option linter.unusedSimpArgs false
/-- What a number that stands there is: its groups, and what follows. -/
theorem numW_yes : ∀ (l : List Int) (i : Nat) (wd : Int), (∀ x ∈ l, 0 ≤ x ∧ x ≤ 255) → i ≤ 8 → numW i l = (0, wd) → ∃ T rest, l = T ++ rest ∧ wd = (i : Int) + T.length ∧ T ≠ [] ∧ hi (T.map (· % 128)) = T ∧ i + T.length ≤ 9 ∧ (i = 0 → T.length = 1 ∨ ∃ a t, T = a :: t ∧ a % 128 ≠ 0) := by
  intro l
  induction l with
  | nil => intro i wd _ _ h; simp [numW] at h
  | cons x xs ih =>
    intro i wd hb hi8 h
    have hx := hb x (by simp)
    simp only [numW] at h
    by_cases hc : (i = 0 ∧ x = 128) ∨ (i = 8 ∧ 128 ≤ x)
    · rw [if_pos hc] at h; simp at h
    · rw [if_neg hc] at h
      by_cases hl : x < 128
      · rw [if_pos hl] at h
        simp only [Prod.mk.injEq, true_and] at h
        refine ⟨[x], xs, rfl, by simp; omega, by simp, ?_, by simp; omega, fun _ => .inl rfl⟩
        simp [hi]; omega
      · rw [if_neg hl] at h
        have h8 : i ≠ 8 := fun e => hc (.inr ⟨e, by omega⟩)
        obtain ⟨T, rest, e1, e2, e3, e4, e5, _⟩ := ih (i + 1) wd (fun y hy => hb y (by simp [hy])) (by omega) h
        refine ⟨x :: T, rest, by simp [e1], by simp; omega, by simp, ?_, by simp; omega, fun hi0 => .inr ⟨x, T, rfl, ?_⟩⟩
        · cases T with
          | nil => exact absurd rfl e3
          | cons b t =>
            show (x % 128 + 128) % 256 :: hi ((b :: t).map (· % 128)) = _
            rw [e4]; congr 1; omega
        · have hn : x ≠ 128 := fun e => hc (.inl ⟨hi0, e⟩)
          omega
theorem numV_nn (l : List Int) : 0 ≤ numV l := (numV_bd l).1
theorem numV_pos (a : Int) (t : List Int) (h : a % 128 ≠ 0) : 1 ≤ numV (a :: t) := by
  have key : ∀ (t : List Int) (v : Int), 1 ≤ v → 1 ≤ t.foldl (fun n x => n * 128 + x % 128) v := by
    intro t
    induction t with
    | nil => intro v hv; exact hv
    | cons x xs ih => intro v hv; exact ih _ (by show 1 ≤ v * 128 + x % 128; omega)
  exact key t _ (by show 1 ≤ 0 * 128 + a % 128; omega)
theorem grp_numV : ∀ (f : Nat) (T : List Int), T ≠ [] → T.length ≤ f + 1 → (T.length = 1 ∨ ∃ a t, T = a :: t ∧ a % 128 ≠ 0) → grp f (numV T) = T.map (· % 128)
  | f, T, hne, hl, hh => by
    rcases List.eq_nil_or_concat T with e | ⟨T', x, e⟩
    · exact absurd e hne
    · subst e
      rw [List.concat_eq_append] at *
      rw [numV_snoc]
      cases T' with
      | nil =>
        have e0 : numV ([] : List Int) = 0 := rfl
        rw [e0]
        cases f with
        | zero => simp [grp]
        | succ f => simp only [grp]; rw [if_pos (by omega)]; simp
      | cons a t =>
        have ha : a % 128 ≠ 0 := by
          rcases hh with h | ⟨a', t', e, h⟩
          · simp at h
          · simp at e; rw [e.1]; exact h
        have hv := numV_pos a t ha
        cases f with
        | zero => simp at hl
        | succ f =>
          simp only [grp]
          rw [if_neg (by omega)]
          have e1 : (numV (a :: t) * 128 + x % 128) / 128 = numV (a :: t) := by omega
          have e2 : (numV (a :: t) * 128 + x % 128) % 128 = x % 128 := by omega
          rw [e1, e2, grp_numV f (a :: t) (by simp) (by simp at hl ⊢; omega) (.inr ⟨a, t, rfl, ha⟩)]
          simp
/-- What was read has just its bytes. -/
theorem read_back (l : List Int) (wd : Int) (hb : ∀ x ∈ l, 0 ≤ x ∧ x ≤ 255) (h : numW 0 l = (0, wd)) : numB (numV (l.take wd.toNat)) = l.take wd.toNat ∧ 1 ≤ wd ∧ wd ≤ 9 ∧ wd ≤ l.length ∧ 0 ≤ numV (l.take wd.toNat) ∧ numV (l.take wd.toNat) ≤ 9223372036854775807 := by
  obtain ⟨T, rest, e1, e2, e3, e4, e5, e6⟩ := numW_yes l 0 wd hb (by omega) h
  have hT : 1 ≤ T.length := by cases T with | nil => exact absurd rfl e3 | cons _ _ => simp
  have et : l.take wd.toNat = T := by rw [e1]; simp [e2]
  rw [et]
  refine ⟨?_, by omega, by omega, by rw [e1]; simp; omega, numV_nn T, ?_⟩
  · unfold numB
    have : max (numV T) 0 = numV T := by have := numV_nn T; omega
    rw [this, grp_numV 8 T e3 (by omega) (e6 rfl), e4]
  · have h1 := (numV_bd T).2
    have h2 : (128 : Int) ^ T.length ≤ 128 ^ 9 := by
      have := Nat.pow_le_pow_right (n := 128) (by decide) (show T.length ≤ 9 by omega)
      have e : ((128 ^ T.length : Nat) : Int) = (128 : Int) ^ T.length := by simp
      rw [← e]; have e2 : (128 : Int) ^ 9 = ((128 ^ 9 : Nat) : Int) := by simp
      rw [e2]; exact Int.ofNat_le.2 this
    omega
theorem grp_rng : ∀ (f : Nat) (n : Int), 0 ≤ n → n < 128 ^ (f + 1) → (∀ x ∈ grp f n, 0 ≤ x ∧ x < 128) ∧ numV (grp f n) = n ∧ ((grp f n).length = 1 ∨ ∃ a t, grp f n = a :: t ∧ a ≠ 0)
  | 0, n, h0, h => by
    simp only [grp]
    refine ⟨?_, ?_, .inl rfl⟩
    · intro x hx; simp at hx; omega
    · simp [numV]; omega
  | f + 1, n, h0, h => by
    simp only [grp]
    by_cases hx : n < 128
    · rw [if_pos hx]
      refine ⟨?_, ?_, .inl rfl⟩
      · intro x hx; simp at hx; omega
      · simp [numV]; omega
    · rw [if_neg hx]
      have hp : n / 128 < 128 ^ (f + 1) := by
        apply Int.ediv_lt_of_lt_mul (by omega)
        rw [← Int.pow_succ]; exact h
      obtain ⟨i1, i2, i3⟩ := grp_rng f (n / 128) (by omega) hp
      refine ⟨?_, by rw [numV_snoc, i2]; omega, .inr ?_⟩
      · intro x hx
        rw [List.mem_append] at hx
        rcases hx with hx | hx
        · exact i1 x hx
        · simp at hx; omega
      · rcases i3 with i3 | ⟨a, t, e, ha⟩
        · have hl := grp_len f (n / 128)
          obtain ⟨a, ea⟩ : ∃ a, grp f (n / 128) = [a] := by
            cases hg : grp f (n / 128) with
            | nil => rw [hg] at i3; simp at i3
            | cons a t => rw [hg] at i3; simp at i3; exact ⟨a, by rw [i3]⟩
          rw [ea] at i2 i1
          have := i1 a (by simp)
          refine ⟨a, [n % 128], by rw [ea]; rfl, ?_⟩
          simp [numV] at i2; omega
        · exact ⟨a, t ++ [n % 128], by rw [e]; rfl, ha⟩
theorem numW_hi : ∀ (G rest : List Int) (i : Nat), G ≠ [] → (∀ x ∈ G, 0 ≤ x ∧ x < 128) → (i = 0 → G.length = 1 ∨ ∃ a t, G = a :: t ∧ a ≠ 0) → i + G.length ≤ 9 → numW i (hi G ++ rest) = (0, (i : Int) + G.length)
  | [b], rest, i, _, hb, _, _ => by
    have := hb b (by simp)
    show numW i (b :: rest) = _
    simp only [numW]
    rw [if_neg (by omega), if_pos this.2]; simp
  | b :: c :: t, rest, i, _, hb, hh, hl => by
    have hb0 := hb b (by simp)
    show numW i ((b + 128) % 256 :: (hi (c :: t) ++ rest)) = _
    simp only [numW]
    have hn : i = 0 → b ≠ 0 := by
      intro hi0
      rcases hh hi0 with h | ⟨a, t', e, h⟩
      · simp at h
      · simp at e; rw [e.1]; exact h
    simp only [List.length_cons] at hl
    rw [if_neg (by omega), if_neg (by omega), numW_hi (c :: t) rest (i + 1) (by simp) (fun x hx => hb x (by simp at hx ⊢; right; exact hx)) (by omega) (by simp; omega)]
    simp; omega
theorem numV_hi : ∀ (G : List Int) (v : Int), (hi G).foldl (fun n x => n * 128 + x % 128) v = G.foldl (fun n x => n * 128 + x % 128) v
  | [], v => rfl
  | [b], v => rfl
  | b :: c :: t, v => by
    show (hi (c :: t)).foldl (fun n x => n * 128 + x % 128) (v * 128 + (b + 128) % 256 % 128) = _
    rw [numV_hi (c :: t)]
    have : (b + 128) % 256 % 128 = b % 128 := by omega
    rw [this]; rfl
/-- What was written is read. -/
theorem num_read (n : Int) (rest : List Int) (h0 : -9223372036854775808 ≤ n) (h1 : n ≤ 9223372036854775807) (most : Int) (hm : max n 0 ≤ most) : rdNum (numB n ++ rest) most = (max n 0, ((numB n).length : Int), 0) := by
  obtain ⟨g1, g2, g3⟩ := grp_rng 8 (max n 0) (by omega) (by omega)
  have gl := grp_len 8 (max n 0)
  have hw : numW 0 (numB n ++ rest) = (0, ((numB n).length : Int)) := by
    unfold numB
    rw [numW_hi _ rest 0 (by intro e; rw [e] at gl; simp at gl) g1 (fun _ => g3) (by omega), hi_len]; simp
  have hv : numV (numB n) = max n 0 := by
    have e : numV (numB n) = numV (grp 8 (max n 0)) := by unfold numB numV; rw [numV_hi]
    rw [e, g2]
  unfold rdNum
  rw [hw]
  simp only [if_true]
  have : (numB n ++ rest).take ((numB n).length : Int).toNat = numB n := by simp
  rw [this, hv, if_neg (by omega)]
end Go.Proofs.Ytagpdfekeppbgaa.X
