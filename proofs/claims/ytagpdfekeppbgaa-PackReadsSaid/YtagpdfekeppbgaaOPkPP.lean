/- One part of the proofs about layer 2: what the writers of layer 2 write, in plain Lean. No condition.
   (Lines that the kit's print wrote for this claim, and walks of ours, as one text of our own: not a printed one.) -/
import Derived.Test.YtagpdfekeppbgaaProg
import Derived.Below
import Derived.Deep.Draws
import Derived.Deep.AppendLies
import Derived.Maps.AppendAt
import Derived.OwnWalk
import Derived.Laws.BytesArg
import Derived.Laws.MakeOwn
import Derived.Laws.OwnMore
import Derived.Deep.OwnRows
import Derived.Tactics
import Derived.Lib.ConvBytes
import Derived.Laws.Slices
import Derived.WalkKit
import Derived.KernelRfl
import Derived.RowKit3
import Derived.Deep.LoopGhost
import Derived.Deep.QuietTactic
import Derived.BigQuiet
import Derived.WideLaws
import Derived.Deep.DeepCutAuto
import Derived.Deep.CutBlock
import Derived.Deep.RegionHeld3
import Derived.Laws.Rows
import Derived.Lib.AppendStr
import Derived.ArgAppend
import Derived.Laws.IdiomCopy
import Derived.OrdersHeld
import Derived.Laws.BitsLemmas
import Derived.RowKit
import Derived.Test.YtagpdfekeppbgaaWWords
import Derived.Test.YtagpdfekeppbgaaWLast
import Derived.Test.YtagpdfekeppbgaaWTab
import Derived.Test.YtagpdfekeppbgaaWFour
import Derived.Test.YtagpdfekeppbgaaWQPut
import Derived.Test.YtagpdfekeppbgaaWApart
import Derived.Test.YtagpdfekeppbgaaWArr
import Derived.Test.YtagpdfekeppbgaaWZeros
import Derived.Test.YtagpdfekeppbgaaWFoot
import Derived.Test.YtagpdfekeppbgaaWKept
import Derived.Test.YtagpdfekeppbgaaWShare
import Derived.Test.YtagpdfekeppbgaaWN
import Derived.Test.YtagpdfekeppbgaaWFootNe
import Derived.Test.YtagpdfekeppbgaaWAt
import Derived.Test.YtagpdfekeppbgaaWEqStruct
import Derived.Test.YtagpdfekeppbgaaWRepsOne
import Derived.Test.YtagpdfekeppbgaaWInv
import Derived.Test.YtagpdfekeppbgaaWInvWords
import Derived.Test.YtagpdfekeppbgaaWGuard
import Derived.Test.YtagpdfekeppbgaaWNEv
import Derived.Test.YtagpdfekeppbgaaWMore
import Derived.WalkSpells
import Derived.Outline
import Derived.Laws.CopyOwn
import Derived.Test.YtagpdfekeppbgaaOPkAW
import Derived.Lib.SlBytesConst
namespace Go.Proofs.Ytagpdfekeppbgaa.X
open Go.RowKit Go.Proofs.YtagpdfekeppbgaaW.PrintWords Go.Proofs.YtagpdfekeppbgaaW.PrintLast Go.Proofs.YtagpdfekeppbgaaW.PrintMore
attribute [local go_sem] max2_int min2_int max_two min_two max_three min_three max_four min_four
set_option linter.unusedVariables false
set_option linter.unusedSimpArgs false
theorem pw64 {x : Int} (h0 : -9223372036854775808 ≤ x) (h1 : x ≤ 9223372036854775807) : wrap64 x = x := by
  unfold wrap64; omega
theorem pbnd {α β : Type} (x : α) (f : α → Option β) : (some x).bind f = f x := by rw [Option.bind_some]
/-- Equal bytes are told equal. -/
theorem eq_l0 (l : List Int) (hl : l.length < 9223372036854775807) : ∀ (m k : Nat) (i : Nat), l.length ≤ i + m → m < k → i ≤ l.length → slices_Equal_byte_byte.l0 k l l (l.length : Int) (i : Int) = some true
  | 0, k + 1, i, h, _, hi => by
    unfold slices_Equal_byte_byte.l0
    rw [if_neg (by omega)]
  | m + 1, k + 1, i, h, hk, hi => by
    unfold slices_Equal_byte_byte.l0
    by_cases hx : (i : Int) < (l.length : Int)
    · rw [if_pos hx, if_pos (by omega), if_pos hx, if_pos hx, if_pos rfl, pw64 (by omega) (by omega)]
      exact eq_l0 l hl m k (i + 1) (by omega) (by omega) (by omega)
    · rw [if_neg hx]
theorem eq_same (l : List Int) (hl : l.length < 9223372036854775807) (k : Nat) (hk : l.length < k) : slices_Equal_byte_byte.f k l l = some true := by
  unfold slices_Equal_byte_byte.f
  rw [if_pos rfl]
  exact eq_l0 l hl l.length k 0 (by omega) hk (by omega)
/-- A number's groups. -/
def grp : Nat → Int → List Int
  | 0, n => [n]
  | f + 1, n => if n < 128 then [n] else grp f (n / 128) ++ [n % 128]
theorem grp_len : ∀ (f : Nat) (n : Int), 1 ≤ (grp f n).length ∧ (grp f n).length ≤ f + 1
  | 0, n => by simp [grp]
  | f + 1, n => by
    unfold grp
    split
    · simp
    · have := grp_len f (n / 128)
      simp; omega
theorem groups_f : ∀ (f k : Nat) (n : Int), n < 128 ^ (f + 1) → -9223372036854775808 ≤ n → n ≤ 9223372036854775807 → f ≤ 100 → f < k → baileyref02_groups.f k n = some (grp f (max n 0))
  | f, 0, n, _, _, _, _, hk => absurd hk (Nat.not_lt_zero f)
  | f, k + 1, n, h, h0, h1, hf, hk => by
    unfold baileyref02_groups.f
    by_cases hn : n < 128
    · rw [if_pos hn]
      have : (mx n 0) % 256 = max n 0 := by unfold mx; split <;> omega
      rw [this]
      cases f with
      | zero => rfl
      | succ f => unfold grp; rw [if_pos (by omega)]
    · rw [if_neg hn]
      cases f with
      | zero => omega
      | succ f =>
        have e : Int.tdiv n 128 = n / 128 := Int.tdiv_eq_ediv_of_nonneg (by omega)
        have e2 : Int.tmod n 128 = n % 128 := Int.tmod_eq_emod_of_nonneg (by omega)
        have hp : n / 128 < 128 ^ (f + 1) := by
          apply Int.ediv_lt_of_lt_mul (by omega)
          rw [← Int.pow_succ]; exact h
        rw [e, e2, pw64 (by omega) (by omega), groups_f f k (n / 128) hp (by omega) (by omega) (by omega) (by omega), pbnd]
        have hl := grp_len f (max (n / 128) 0)
        have hg : grp (f + 1) (max n 0) = grp f (max (n / 128) 0) ++ [n % 128] := by
          have e1 : max n 0 = n := by omega
          have e3 : max (n / 128) 0 = n / 128 := by omega
          rw [e1, e3]
          show (if n < 128 then [n] else grp f (n / 128) ++ [n % 128]) = _
          rw [if_neg hn]
        rw [if_pos (by omega), hg]
        have : n % 128 % 256 = n % 128 := by omega
        rw [this]
/-- The groups as they stand in bytes: each but the last has its bit. -/
def hi : List Int → List Int
  | [] => []
  | [b] => [b]
  | b :: c :: t => (b + 128) % 256 :: hi (c :: t)
theorem hi_len : ∀ l : List Int, (hi l).length = l.length
  | [] => rfl
  | [b] => rfl
  | b :: c :: t => by unfold hi; simp [hi_len (c :: t)]
theorem hi_snoc : ∀ (l : List Int) (b : Int), hi (l ++ [b]) = l.map (fun x => (x + 128) % 256) ++ [b]
  | [], b => rfl
  | [c], b => rfl
  | c :: d :: t, b => by
    show (c + 128) % 256 :: hi ((d :: t) ++ [b]) = _
    rw [hi_snoc (d :: t) b]; rfl
theorem ref_l0 (x0 : List Int) (hx : x0.length < 140737488355328) : ∀ (B A : List Int) (k : Nat), B ≠ [] → x0.length + (A ++ B).length < 140737488355328 → B.length ≤ k → baileyref02_Num.l0 k x0 (A ++ B) (A.length : Int) = some (x0 ++ (A ++ hi B))
  | [b], A, k + 1, _, h, _ => by
    unfold baileyref02_Num.l0
    simp only [List.length_append, List.length_cons, List.length_nil] at h
    rw [pw64 (by omega) (by omega), if_neg (by simp)]
    unfold copied.f
    rw [if_pos hx, pbnd, if_pos (by simp; omega)]
    rfl
  | b :: c :: t, A, k + 1, _, h, hk => by
    unfold baileyref02_Num.l0
    simp only [List.length_append, List.length_cons] at h hk
    rw [pw64 (by omega) (by omega), if_pos (by simp; omega), if_pos (by omega), if_pos (by simp; omega)]
    have e1 : rd (A ++ b :: c :: t) (A.length : Int) = b := by simp [rd]
    have e2 : (A ++ b :: c :: t).set (A.length : Int).toNat ((rd (A ++ b :: c :: t) (A.length : Int) + 128) % 256) = (A ++ [(b + 128) % 256]) ++ c :: t := by
      rw [e1]; simp
    rw [e2]
    have e3 : ((A.length : Int) + 1) = ((A ++ [(b + 128) % 256]).length : Int) := by simp
    rw [e3, ref_l0 x0 hx (c :: t) (A ++ [(b + 128) % 256]) k (by simp) (by simp; omega) (by simp; omega)]
    show some (x0 ++ ((A ++ [(b + 128) % 256]) ++ hi (c :: t))) = some (x0 ++ (A ++ ((b + 128) % 256 :: hi (c :: t))))
    simp
  | [], _, _, h, _, _ => absurd rfl h
  | b :: t, A, 0, _, _, h => by simp at h
/-- A number's bytes. -/
def numB (n : Int) : List Int := hi (grp 8 (max n 0))
theorem numB_len (n : Int) : 1 ≤ (numB n).length ∧ (numB n).length ≤ 9 := by
  unfold numB; rw [hi_len]; exact grp_len 8 _
theorem ref_Num (l : List Int) (n : Int) (k : Nat) (hl : l.length ≤ 5000) (h0 : -9223372036854775808 ≤ n) (h1 : n ≤ 9223372036854775807) (hk : 10 ≤ k) : baileyref02_Num.f k l n = some (l ++ numB n) := by
  unfold baileyref02_Num.f
  rw [groups_f 8 k n (by omega) h0 h1 (by omega) (by omega), pbnd]
  have hg := grp_len 8 (max n 0)
  have := ref_l0 l (by omega) (grp 8 (max n 0)) [] k (by intro e; rw [e] at hg; simp at hg) (by simp; omega) (by omega)
  simpa [numB] using this
theorem size_l0 : ∀ (f k : Nat) (n s : Int), 0 ≤ n → n < 128 ^ (f + 1) → 0 ≤ s → s + f ≤ 1000 → f ≤ 100 → f < k → pack_Size.l0 k n s = some (s + (grp f n).length - 1)
  | f, 0, n, s, _, _, _, _, _, hk => absurd hk (Nat.not_lt_zero f)
  | f, k + 1, n, s, hn, h, h0, h1, hf, hk => by
    unfold pack_Size.l0
    by_cases hx : n < 128
    · rw [if_neg (by omega)]
      have : (grp f n).length = 1 := by
        cases f with
        | zero => rfl
        | succ f => unfold grp; rw [if_pos hx]; rfl
      rw [this]; congr 1; omega
    · rw [if_pos (by omega)]
      cases f with
      | zero => omega
      | succ f =>
        have hp : n / 128 < 128 ^ (f + 1) := by
          apply Int.ediv_lt_of_lt_mul (by omega)
          rw [← Int.pow_succ]; exact h
        rw [pw64 (by omega) (by omega)]
        rw [size_l0 f k (n / 128) (s + 1) (by omega) hp (by omega) (by omega) (by omega) (by omega)]
        have hg : grp (f + 1) n = grp f (n / 128) ++ [n % 128] := by
          show (if n < 128 then [n] else grp f (n / 128) ++ [n % 128]) = _
          rw [if_neg hx]
        rw [hg]; simp; omega
theorem pack_size (n : Int) (k : Nat) (h0 : -9223372036854775808 ≤ n) (h1 : n ≤ 9223372036854775807) (hk : 10 ≤ k) : pack_Size.f k n = some ((numB n).length : Int) := by
  unfold pack_Size.f
  by_cases hn : 0 ≤ n
  · rw [size_l0 8 k n 1 hn (by omega) (by omega) (by omega) (by omega) (by omega)]
    have : max n 0 = n := by omega
    unfold numB; rw [hi_len, this]; congr 1; omega
  · have : max n 0 = 0 := by omega
    obtain ⟨j, rfl⟩ : ∃ j, k = j + 1 := ⟨k - 1, by omega⟩
    unfold pack_Size.l0 numB
    rw [if_neg (by omega), hi_len, this]; rfl
theorem ref_size (n : Int) (k : Nat) (h0 : -9223372036854775808 ≤ n) (h1 : n ≤ 9223372036854775807) (hk : 10 ≤ k) : baileyref02_Size.f k n = some ((numB n).length : Int) := by
  unfold baileyref02_Size.f
  rw [groups_f 8 k n (by omega) h0 h1 (by omega) (by omega), pbnd]
  unfold numB; rw [hi_len]
/-- The groups above the last, the highest first. -/
def mids : Nat → Int → List Int
  | 0, _ => []
  | j + 1, n => ((n / 128 ^ (j + 1)) % 128 + 128) :: mids j n
theorem mids_snoc : ∀ (j : Nat) (n : Int), mids (j + 1) n = mids j (n / 128) ++ [(n / 128) % 128 + 128]
  | 0, n => by simp [mids]
  | j + 1, n => by
    show ((n / 128 ^ (j + 1 + 1)) % 128 + 128) :: mids (j + 1) n = (((n / 128) / 128 ^ (j + 1)) % 128 + 128) :: mids j (n / 128) ++ _
    rw [mids_snoc j n]
    have : n / 128 ^ (j + 1 + 1) = n / 128 / 128 ^ (j + 1) := by
      rw [Int.ediv_ediv_of_nonneg (by omega), Int.pow_succ (n := j + 1), Int.mul_comm]
    rw [this]; rfl
theorem grp_mids : ∀ (f : Nat) (n : Int), 0 ≤ n → n / 128 < 128 ^ (f + 1) → (grp f (n / 128)).map (fun x => (x + 128) % 256) = mids (grp f (n / 128)).length n
  | 0, n, h0, h => by
    simp [grp, mids]; omega
  | f + 1, n, h0, h => by
    unfold grp
    by_cases hx : n / 128 < 128
    · rw [if_pos hx]; simp [mids]; omega
    · rw [if_neg hx]
      have hp : n / 128 / 128 < 128 ^ (f + 1) := by
        apply Int.ediv_lt_of_lt_mul (by omega)
        rw [← Int.pow_succ]; exact h
      have := grp_mids f (n / 128) (by omega) hp
      rw [List.length_append, List.length_singleton, mids_snoc, ← this]
      simp; omega
theorem numB_mids (n : Int) (h0 : 0 ≤ n) (h1 : n ≤ 9223372036854775807) : numB n = mids ((numB n).length - 1) n ++ [n % 128] := by
  have hl : (numB n).length = (grp 8 (max n 0)).length := by unfold numB; rw [hi_len]
  rw [hl]
  unfold numB
  have e : max n 0 = n := by omega
  rw [e]
  show hi (if n < 128 then [n] else grp 7 (n / 128) ++ [n % 128]) = mids ((if n < 128 then [n] else grp 7 (n / 128) ++ [n % 128]).length - 1) n ++ [n % 128]
  by_cases hx : n < 128
  · rw [if_pos hx]; simp [hi, mids]; omega
  · rw [if_neg hx, hi_snoc, grp_mids 7 n h0 (by omega)]
    simp
theorem or8 (y : Int) : Go.bits .or .u8 (y % 256) 128 = y % 128 + 128 := by
  obtain ⟨n, hn⟩ := Int.eq_ofNat_of_zero_le (show 0 ≤ y % 256 by omega)
  have key : ∀ m : Fin 256, Go.bits .or .u8 ((m.val : Nat) : Int) 128 = ((m.val : Nat) : Int) % 128 + 128 := by decide +kernel
  have := key ⟨n, by omega⟩
  rw [hn]
  simp only at this
  rw [this]; omega
theorem shr7 (n : Int) (j : Nat) (hj : j ≤ 8) : shr .i64 n (7 * (j : Int)) = n / 128 ^ j := by
  unfold shr
  have : min (7 * (j : Int)).toNat (IntKind.i64).bits = 7 * j := by simp [IntKind.bits]; omega
  rw [this, Int.pow_mul]; rfl
theorem put_l0 (n : Int) : ∀ (j k : Nat) (x0 : List Int), j ≤ 8 → j < k → x0.length + j ≤ 10000 → pack_put.l0 k x0 n (7 * (j : Int)) = some (x0 ++ (mids j n ++ [n % 128]))
  | j, 0, x0, _, hk, _ => absurd hk (Nat.not_lt_zero j)
  | 0, k + 1, x0, _, _, h => by
    unfold pack_put.l0
    rw [if_neg (by omega), if_pos (by omega), andNot8]
    have : n % 256 % 128 = n % 128 := by omega
    rw [this]; rfl
  | j + 1, k + 1, x0, hj, hk, h => by
    unfold pack_put.l0
    rw [if_pos (by omega), if_pos (by omega), if_pos (by omega), or8, shr7 n (j + 1) hj]
    have : wrap64 (7 * ((j + 1 : Nat) : Int) - 7) = 7 * (j : Int) := by rw [pw64 (by omega) (by omega)]; omega
    rw [this, put_l0 n j k _ (by omega) (by omega) (by simp; omega)]
    show some (x0 ++ [_] ++ (mids j n ++ [n % 128])) = some (x0 ++ ((_ :: mids j n) ++ [n % 128]))
    simp
theorem mx_max (a b : Int) : mx a b = max a b := by unfold mx; split <;> omega
theorem pack_put_f (l : List Int) (n : Int) (k : Nat) (hl : l.length ≤ 9000) (h0 : -9223372036854775808 ≤ n) (h1 : n ≤ 9223372036854775807) (hk : 10 ≤ k) : pack_put.f k l n = some (l ++ numB n) := by
  unfold pack_put.f
  have e : numB (mx n 0) = numB n := by unfold numB; rw [mx_max]; congr 2; omega
  rw [pack_size (mx n 0) k (by rw [mx_max]; omega) (by rw [mx_max]; omega) hk, pbnd, e]
  have hb := numB_len n
  have e2 : wrap64 (7 * wrap64 (((numB n).length : Int) - 1)) = 7 * (((numB n).length - 1 : Nat) : Int) := by
    rw [pw64 (x := _ - 1) (by omega) (by omega), pw64 (by omega) (by omega)]; omega
  rw [e2, put_l0 _ _ k l (by omega) (by omega) (by omega)]
  have := numB_mids (mx n 0) (by rw [mx_max]; omega) (by rw [mx_max]; omega)
  rw [e] at this
  rw [← this]
theorem pack_num (l : List Int) (n : Int) (k : Nat) (hl : l.length ≤ 5000) (h0 : -9223372036854775808 ≤ n) (h1 : n ≤ 9223372036854775807) (hk : 10 ≤ k) : pack_Num.f k l n = some (l ++ numB n) := by
  unfold pack_Num.f room.f
  rw [if_pos (by omega), if_pos (by omega), pbnd, pack_put_f l n k (by omega) h0 h1 hk, pbnd]
theorem pack_text (l : List Int) (s : ByteArray) (k : Nat) (hl : l.length ≤ 3000) (hs : s.size ≤ 2000) (hk : 10 ≤ k) : pack_Text.f k l s = some (l ++ numB (s.size : Int) ++ bytesOf s) := by
  unfold pack_Text.f room.f
  have hb := numB_len (s.size : Int)
  rw [pw64 (by omega) (by omega), if_pos (by omega), if_pos (by omega), pbnd, pack_put_f l _ k (by omega) (by omega) (by omega) hk, pbnd, if_pos (by simp; omega)]
theorem ref_text (l : List Int) (s : ByteArray) (k : Nat) (hl : l.length ≤ 3000) (hs : s.size ≤ 2000) (hk : 10 ≤ k) : baileyref02_Text.f k l s = some (l ++ numB (s.size : Int) ++ bytesOf s) := by
  unfold baileyref02_Text.f
  have hb := numB_len (s.size : Int)
  rw [ref_Num l _ k (by omega) (by omega) (by omega) hk, pbnd, if_pos (by simp; omega)]
theorem pack_yes (l : List Int) (y : Bool) (k : Nat) (hl : l.length ≤ 5000) (hk : 10 ≤ k) : pack_Yes.f k l y = some (l ++ [if y then 1 else 0]) := by
  unfold pack_Yes.f
  cases y
  · rw [if_neg (by simp), pack_num l 0 k hl (by omega) (by omega) hk, pbnd]; rfl
  · rw [if_pos rfl, pack_num l 1 k hl (by omega) (by omega) hk, pbnd]; rfl
theorem ref_yes (l : List Int) (y : Bool) (hl : l.length ≤ 5000) : baileyref02_Yes.f l y = some (l ++ [if y then 1 else 0]) := by
  unfold baileyref02_Yes.f copied.f
  cases y
  · rw [if_neg (by simp), if_pos (by omega), pbnd, if_pos (by omega)]; rfl
  · rw [if_pos rfl, if_pos (by omega), pbnd, if_pos (by omega)]; rfl
end Go.Proofs.Ytagpdfekeppbgaa.X
