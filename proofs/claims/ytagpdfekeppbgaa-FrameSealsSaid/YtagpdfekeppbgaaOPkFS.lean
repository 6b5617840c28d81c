/- One part of the proofs about layer 2: both make the same frame, in plain Lean. No condition.
   (Lines that the kit's print wrote for this claim, and walks of ours, as one text of our own: not a printed one.) -/
import Derived.Test.YtagpdfekeppbgaaProg
import Derived.Below
import Derived.Deep.Draws
import Derived.Deep.AppendLies
import Derived.Maps.AppendAt
import Derived.OwnWalk
import Derived.Laws.BytesArg
import Derived.Laws.MakeOwn
import Derived.Laws.OwnMore
import Derived.Deep.OwnRows
import Derived.Tactics
import Derived.Lib.ConvBytes
import Derived.Laws.Slices
import Derived.WalkKit
import Derived.KernelRfl
import Derived.RowKit3
import Derived.Deep.LoopGhost
import Derived.Deep.QuietTactic
import Derived.BigQuiet
import Derived.WideLaws
import Derived.Deep.DeepCutAuto
import Derived.Deep.CutBlock
import Derived.Deep.RegionHeld3
import Derived.Laws.Rows
import Derived.Lib.AppendStr
import Derived.ArgAppend
import Derived.Laws.IdiomCopy
import Derived.OrdersHeld
import Derived.Laws.BitsLemmas
import Derived.RowKit
import Derived.Test.YtagpdfekeppbgaaWWords
import Derived.Test.YtagpdfekeppbgaaWLast
import Derived.Test.YtagpdfekeppbgaaWTab
import Derived.Test.YtagpdfekeppbgaaWFour
import Derived.Test.YtagpdfekeppbgaaWQPut
import Derived.Test.YtagpdfekeppbgaaWApart
import Derived.Test.YtagpdfekeppbgaaWArr
import Derived.Test.YtagpdfekeppbgaaWZeros
import Derived.Test.YtagpdfekeppbgaaWFoot
import Derived.Test.YtagpdfekeppbgaaWKept
import Derived.Test.YtagpdfekeppbgaaWShare
import Derived.Test.YtagpdfekeppbgaaWN
import Derived.Test.YtagpdfekeppbgaaWFootNe
import Derived.Test.YtagpdfekeppbgaaWAt
import Derived.Test.YtagpdfekeppbgaaWEqStruct
import Derived.Test.YtagpdfekeppbgaaWRepsOne
import Derived.Test.YtagpdfekeppbgaaWInv
import Derived.Test.YtagpdfekeppbgaaWInvWords
import Derived.Test.YtagpdfekeppbgaaWGuard
import Derived.Test.YtagpdfekeppbgaaWNEv
import Derived.Test.YtagpdfekeppbgaaWMore
import Derived.WalkSpells
import Derived.Outline
import Derived.Laws.CopyOwn
import Derived.Test.YtagpdfekeppbgaaOPkF1
import Derived.Test.YtagpdfekeppbgaaOPkPQ
import Derived.Lib.SlBytesConst
namespace Go.Proofs.Ytagpdfekeppbgaa.X
open Go.RowKit Go.Proofs.YtagpdfekeppbgaaW.PrintWords Go.Proofs.YtagpdfekeppbgaaW.PrintLast Go.Proofs.YtagpdfekeppbgaaW.PrintMore
attribute [local go_sem] max2_int min2_int max_two min_two max_three min_three max_four min_four
set_option linter.unusedVariables false
set_option linter.unusedSimpArgs false
end Go.Proofs.Ytagpdfekeppbgaa.X
namespace Go.Proofs.Ytagpdfekeppbgaa.Ad
open Go.RowKit Go.Proofs.YtagpdfekeppbgaaW.PrintWords Go.Proofs.YtagpdfekeppbgaaW.PrintLast Go.Proofs.YtagpdfekeppbgaaW.PrintMore Go.Proofs.Ytagpdfekeppbgaa.X
set_option linter.unusedSimpArgs false
set_option linter.unusedVariables false
theorem b64 {x : Int} (h : (Lit.int .i64 x).wf = true) : -9223372036854775808 ≤ x ∧ x ≤ 9223372036854775807 := by
  simpa [Lit.wf, IntKind.min, IntKind.max, IntKind.signed, IntKind.bits] using h
theorem b32 {x : Int} (h : (Lit.int .u32 x).wf = true) : 0 ≤ x ∧ x ≤ 4294967295 := by
  simpa [Lit.wf, IntKind.min, IntKind.max, IntKind.signed, IntKind.bits] using h
theorem b8 {x : Int} (h : (Lit.int .u8 x).wf = true) : 0 ≤ x ∧ x ≤ 255 := by
  simpa [Lit.wf, IntKind.min, IntKind.max, IntKind.signed, IntKind.bits] using h
theorem w64 {x : Int} (h0 : -9223372036854775808 ≤ x) (h1 : x ≤ 9223372036854775807) : wrap64 x = x := by
  unfold wrap64; omega
theorem wu64 (x : Int) : IntKind.u64.wrap x = x % 18446744073709551616 := by
  simp [IntKind.wrap, IntKind.bits, IntKind.signed]
theorem rd_drop (l : List Int) (i : Nat) (h : i < l.length) : l.drop i = rd l (i : Int) :: l.drop (i + 1) := by
  rw [List.drop_eq_getElem_cons h]; congr 1
  simp [rd, List.getD_eq_getElem?_getD, List.getElem?_eq_getElem h]
theorem rd_mem (l : List Int) (i : Nat) (h : i < l.length) : rd l (i : Int) ∈ l := by
  have : rd l (i : Int) = l[i] := by simp [rd, List.getD_eq_getElem?_getD, List.getElem?_eq_getElem h]
  rw [this]; exact List.getElem_mem h
/-- 'Option.bind_some', as a rule that is no mere reduction (the kernel need not reduce what stands beside it). -/
theorem bnd {α β : Type} (x : α) (f : α → Option β) : (some x).bind f = f x := by rw [Option.bind_some]
/-- One byte more, not reduced. -/
def uFold (p : Int × Int) (l : List Int) : Int × Int := l.foldl (fun p b => (p.1 + b, p.2 + (p.1 + b))) p
def tri : List Int → Int
  | [] => 0
  | b :: l => ((l.length : Int) + 1) * b + tri l
theorem uFold_cons (p : Int × Int) (b : Int) (l : List Int) : uFold p (b :: l) = uFold (p.1 + b, p.2 + (p.1 + b)) l := rfl
theorem uFold_eq (l : List Int) : ∀ x y : Int, uFold (x, y) l = (x + l.sum, y + (l.length : Int) * x + tri l) := by
  induction l with
  | nil => intro x y; simp [uFold, tri]
  | cons b l ih =>
    intro x y
    rw [uFold_cons, ih]
    simp only [tri, List.sum_cons, List.length_cons]
    refine Prod.ext (by simp; omega) ?_
    simp only [Int.add_mul, Int.mul_add, Int.one_mul, Int.natCast_add, Int.natCast_one]
    omega
theorem tri_app (l : List Int) (c : Int) : tri (l ++ [c]) = tri l + l.sum + c := by
  induction l with
  | nil => simp [tri]
  | cons b l ih => simp only [List.cons_append, tri, ih, List.sum_cons, List.length_append, List.length_cons, List.length_nil]; simp [Int.add_mul]; omega
theorem tri_append (l m : List Int) : tri (l ++ m) = tri l + (m.length : Int) * l.sum + tri m := by
  induction l with
  | nil => simp [tri]
  | cons b l ih => simp only [List.cons_append, tri, ih, List.sum_cons, List.length_append]; simp [Int.add_mul, Int.mul_add]; omega
theorem mod_mul (n a : Int) : (n * (a % 65521)) % 65521 = (n * a) % 65521 := by
  rw [Int.mul_emod, Int.emod_emod_of_dvd _ (Int.dvd_refl _), ← Int.mul_emod]
/-- A sum of two halves. -/
def cat2 (x y : Int) : Int := (y % 65521) * 65536 + x % 65521
/-- The sum behind bytes, from two numbers on. -/
def ad (x y : Int) (l : List Int) : Int := cat2 (x + l.sum) (y + (l.length : Int) * x + tri l)
theorem cat2_congr {x y x' y' : Int} (hx : x % 65521 = x' % 65521) (hy : y % 65521 = y' % 65521) : cat2 x y = cat2 x' y' := by
  unfold cat2; rw [hx, hy]
theorem ad_mod (x y : Int) (l : List Int) : ad (x % 65521) (y % 65521) l = ad x y l := by
  unfold ad
  refine cat2_congr (by omega) ?_
  have := mod_mul (l.length : Int) x
  omega
theorem ad_append (x y : Int) (l m : List Int) : ad x y (l ++ m) = ad (x + l.sum) (y + (l.length : Int) * x + tri l) m := by
  unfold ad
  refine cat2_congr (by simp; omega) ?_
  congr 1
  rw [tri_append]; simp [Int.add_mul, Int.mul_add]; omega
theorem or_cat (x y : Int) (hx : 0 ≤ x) (hx' : x < 65521) (hy : 0 ≤ y) (hy' : y < 65521) : Go.bits .or .u32 ((y * 65536) % 4294967296) x = y * 65536 + x := by
  have e : (y * 65536) % 4294967296 = y * 65536 := by omega
  rw [e]
  exact Go.bits_join .u32 32 (by decide) (fun n h0 h1 => by rw [Go.IntKind.wrap_u32]; omega) 16 (y * 65536) x (by omega) (by omega) (by omega) hx (by omega) (by omega)
theorem and_16 (s : Int) (h : 0 ≤ s) (h' : s ≤ 4294967295) : Go.bits .and .u32 s 65535 = s % 65536 :=
  Go.bits_mask .u32 32 (by decide) (fun n h0 h1 => by rw [Go.IntKind.wrap_u32]; omega) 16 (by decide) s h (by omega)
theorem tmod_nn (x m : Int) (h : 0 ≤ x) : Int.tmod x m = x % m := Int.tmod_eq_emod_of_nonneg h
def lo (s : Int) : Int := (s % 65536) % 65521
def hi (s : Int) : Int := (s / 65536) % 65521
theorem of_is (s : Int) (h : 0 ≤ s) (h' : s ≤ 4294967295) : adler_of.f s = some (lo s, hi s) := by
  unfold adler_of.f lo hi
  rw [and_16 s h h', tmod_nn _ _ (by omega), tmod_nn _ _ (by omega)]
theorem halves_is (x y : Int) (hx : 0 ≤ x) (hx' : x < 65521) (hy : 0 ≤ y) (hy' : y < 65521) : adler_halves_sum.f x y = some (cat2 x y) := by
  unfold adler_halves_sum.f cat2
  rw [or_cat x y hx hx' hy hy']
  have e1 : x % 65521 = x := by omega
  have e2 : y % 65521 = y := by omega
  rw [e1, e2]
theorem inner (x1 : List Int) (n : Int) (hn0 : 0 ≤ n) (hn1 : n ≤ x1.length) (y : List Int) (hy : y.length ≤ 5000) (hw : ∀ b ∈ y, 0 ≤ b ∧ b ≤ 255) (d : Nat) :
    ∀ (k i : Nat) (x z : Int), i + d = y.length → 0 ≤ x → x ≤ 65520 + 255 * (i : Int) → 0 ≤ z → 2 * z ≤ 131040 + 131040 * (i : Int) + 255 * ((i : Int) * i + i) →
      adler_More.l1 (k + d + 1) x1 n y (y.length : Int) (i : Int) x z = adler_More.l0 k (x1.drop n.toNat) ((x + (y.drop i).sum) % 65521) ((z + d * x + tri (y.drop i)) % 65521) := by
  induction d with
  | zero =>
    intro k i x z hi h0 h1 h2 h3
    have hi' : i = y.length := by omega
    subst hi'
    rw [List.drop_length]
    simp only [adler_More.l1, Nat.add_zero, tri, List.sum_nil]
    rw [if_neg (by omega), if_pos hn0, if_pos hn1, tmod_nn _ _ h0, tmod_nn _ _ h2]
    simp
  | succ d ih =>
    intro k i x z hi h0 h1 h2 h3
    have hlt : i < y.length := by omega
    rw [rd_drop y i hlt]
    have hb := hw _ (rd_mem y i hlt)
    generalize hxe : rd y (i : Int) = b at *
    have e : k + (d + 1) + 1 = (k + d + 1) + 1 := by omega
    rw [e]
    generalize hK : k + d + 1 = K
    simp only [adler_More.l1]
    rw [← hK]
    rw [if_pos (by omega), if_pos (by omega), if_pos (by omega), hxe, w64 (by omega) (by omega)]
    have hii : (i : Int) * i ≤ 5000 * i := Int.mul_le_mul_of_nonneg_right (by omega) (by omega)
    have e1 : (x + b % 4294967296) % 4294967296 = x + b := by omega
    have hz : z + (x + b) < 4294967296 := by omega
    have e2 : (z + (x + b)) % 4294967296 = z + (x + b) := by omega
    rw [e1, e2]
    have hsq : ((i : Int) + 1) * (i + 1) = i * i + 2 * i + 1 := by simp only [Int.add_mul, Int.mul_add]; omega
    have := ih k (i + 1) (x + b) (z + (x + b)) (by omega) (by omega) (by push_cast; omega) (by omega) (by push_cast; rw [hsq]; omega)
    have e3 : ((i + 1 : Nat) : Int) = (i : Int) + 1 := by omega
    rw [e3] at this
    rw [this]
    have hl : (y.drop (i + 1)).length = d := by simp; omega
    simp only [List.sum_cons, tri, hl]
    congr 1
    · congr 1; omega
    · congr 1; simp only [Int.mul_add, Int.add_mul, Int.natCast_add, Int.natCast_one]; omega
theorem more_loop (m : Nat) : ∀ (l : List Int) (x y : Int) (k : Nat), l.length = m → m ≤ 1000000 → (∀ b ∈ l, 0 ≤ b ∧ b ≤ 255) → 0 ≤ x → x < 65521 → 0 ≤ y → y < 65521 → 3 * m + 1 ≤ k →
    adler_More.l0 k l x y = some (ad x y l) := by
  induction m using Nat.strongRecOn with
  | _ m ih =>
    intro l x y k hl hm hw h0 h1 h2 h3 hk
    obtain ⟨k, rfl⟩ : ∃ j, k = j + 1 := ⟨k - 1, by omega⟩
    simp only [adler_More.l0]
    by_cases hz : l = []
    · subst hz
      rw [if_neg (by simp), halves_is x y h0 h1 h2 h3]
      simp [ad, tri]
    · have hpos : 0 < l.length := List.length_pos_iff.2 hz
      rw [if_pos (by omega)]
      have hmn : mn (l.length : Int) 5000 = ((min l.length 5000 : Nat) : Int) := by unfold mn; split <;> omega
      rw [hmn]
      generalize hc : min l.length 5000 = c
      have hc0 : 0 < c := by omega
      have hc1 : c ≤ l.length := by omega
      have hc2 : c ≤ 5000 := by omega
      rw [if_pos (by omega), if_pos (by omega)]
      simp only [bnd, Int.toNat_natCast]
      have hyl : (l.take c).length = c := by simp; omega
      obtain ⟨k', hk'⟩ : ∃ j, k = j + c + 1 := ⟨k - c - 1, by omega⟩
      have := inner l (c : Int) (by omega) (by omega) (l.take c) (by omega) (fun b hb => hw b (List.mem_of_mem_take hb)) c k' 0 x y (by omega) h0 (by omega) h2 (by omega)
      rw [hk']
      simp only [Int.natCast_zero, Int.toNat_natCast, List.drop_zero] at this
      rw [this]
      rw [ih (l.drop c).length (by simp; omega) (l.drop c) _ _ k' rfl (by simp; omega) (fun b hb => hw b (List.mem_of_mem_drop hb)) (by omega) (by omega) (by omega) (by omega) (by simp; omega)]
      rw [ad_mod]
      have e : ad x y l = ad x y (l.take c ++ l.drop c) := by rw [List.take_append_drop]
      rw [e, ad_append, hyl]
theorem more_is (s : Int) (l : List Int) (k : Nat) (hs : 0 ≤ s) (hs' : s ≤ 4294967295) (hl : l.length ≤ 1000000) (hw : ∀ b ∈ l, 0 ≤ b ∧ b ≤ 255) (hk : 3 * l.length + 1 ≤ k) :
    adler_More.f k s l = some (ad (lo s) (hi s) l) := by
  unfold adler_More.f
  rw [of_is s hs hs']; simp only [bnd]
  exact more_loop l.length l _ _ k rfl hl hw (by unfold lo; omega) (by unfold lo; omega) (by unfold hi; omega) (by unfold hi; omega) hk
theorem sum_is (l : List Int) (k : Nat) (hl : l.length ≤ 1000000) (hw : ∀ b ∈ l, 0 ≤ b ∧ b ≤ 255) (hk : 3 * l.length + 1 ≤ k) :
    adler_Sum.f k l = some (ad 1 0 l) := by
  unfold adler_Sum.f
  rw [more_is 1 l k (by omega) (by omega) hl hw hk]; rfl
theorem ad_range (x y : Int) (l : List Int) : 0 ≤ ad x y l ∧ ad x y l ≤ 4294967295 := by unfold ad cat2; omega
theorem lo_ad (x y : Int) (l : List Int) : lo (ad x y l) = (x + l.sum) % 65521 := by unfold lo ad cat2; omega
theorem hi_ad (x y : Int) (l : List Int) : hi (ad x y l) = (y + (l.length : Int) * x + tri l) % 65521 := by unfold hi ad cat2; omega

theorem ref_low (s : Int) (h : 0 ≤ s) : baileyref05_low.f s = some (lo s) := by
  unfold baileyref05_low.f lo
  rw [tmod_nn s _ h, w64 (by omega) (by omega), tmod_nn _ _ (by omega)]
theorem ref_high (s : Int) (h : 0 ≤ s) (h' : s ≤ 4294967295) : baileyref05_high.f s = some (hi s) := by
  unfold baileyref05_high.f hi
  rw [Int.tdiv_eq_ediv_of_nonneg h]
  congr 1; omega
theorem ref_of (x y : Int) (hx : 0 ≤ x) (hx' : x < 65521) (hy : 0 ≤ y) (hy' : y < 65521) : baileyref05_of.f x y = some (cat2 x y) := by
  unfold baileyref05_of.f cat2
  rw [tmod_nn x _ hx, tmod_nn y _ hy, if_neg (by omega), if_neg (by omega), w64 (x := y % 65521 * 65536) (by omega) (by omega), w64 (by omega) (by omega)]
  congr 1; omega
theorem ref_loop (l : List Int) (hl : l.length ≤ 1000000) (hw : ∀ b ∈ l, 0 ≤ b ∧ b ≤ 255) (d : Nat) :
    ∀ (k i : Nat) (x y : Int), i + d = l.length → 0 ≤ x → x < 65521 → 0 ≤ y → y < 65521 → d < k →
      baileyref05_More.l0 k l x y (i : Int) = some (ad x y (l.drop i)) := by
  induction d with
  | zero =>
    intro k i x y hi h0 h1 h2 h3 hk
    obtain ⟨k, rfl⟩ : ∃ m, k = m + 1 := ⟨k - 1, by omega⟩
    have hi' : i = l.length := by omega
    subst hi'
    rw [List.drop_length]
    simp only [baileyref05_More.l0]
    rw [if_neg (by omega), ref_of x y h0 h1 h2 h3]
    simp [ad, tri]
  | succ d ih =>
    intro k i x y hi h0 h1 h2 h3 hk
    obtain ⟨k, rfl⟩ : ∃ m, k = m + 1 := ⟨k - 1, by omega⟩
    have hlt : i < l.length := by omega
    rw [rd_drop l i hlt]
    have hb := hw _ (rd_mem l i hlt)
    generalize hxe : rd l (i : Int) = b at *
    simp only [baileyref05_More.l0]
    rw [if_pos (by omega), if_pos (by omega), hxe, w64 (x := b) (by omega) (by omega), w64 (x := x + b) (by omega) (by omega), tmod_nn (x + b) _ (by omega), w64 (x := y + (x + b) % 65521) (by omega) (by omega), tmod_nn _ _ (by omega), w64 (by omega) (by omega)]
    have := ih k (i + 1) ((x + b) % 65521) ((y + (x + b) % 65521) % 65521) (by omega) (by omega) (by omega) (by omega) (by omega) (by omega)
    have e3 : ((i + 1 : Nat) : Int) = (i : Int) + 1 := by omega
    rw [e3] at this
    rw [this, ad_mod]
    have e4 : ad (x + b) (y + (x + b) % 65521) (l.drop (i + 1)) = ad (x + b) (y + (x + b)) (l.drop (i + 1)) := by
      rw [← ad_mod (x + b), ← ad_mod (x + b) (y + (x + b))]
      congr 1; omega
    have e5 := ad_append x y [b] (l.drop (i + 1))
    simp only [List.singleton_append, List.sum_cons, List.sum_nil, List.length_cons, List.length_nil, tri] at e5
    rw [e4, e5]
    congr 2 <;> simp <;> omega
theorem ref_is (s : Int) (l : List Int) (k : Nat) (hs : 0 ≤ s) (hs' : s ≤ 4294967295) (hl : l.length ≤ 1000000) (hw : ∀ b ∈ l, 0 ≤ b ∧ b ≤ 255) (hk : l.length + 1 ≤ k) :
    baileyref05_More.f k s l = some (ad (lo s) (hi s) l) := by
  unfold baileyref05_More.f
  rw [ref_low s hs, ref_high s hs hs']; simp only [bnd]
  have := ref_loop l hl hw l.length k 0 (lo s) (hi s) (by omega) (by unfold lo; omega) (by unfold lo; omega) (by unfold hi; omega) (by unfold hi; omega) (by omega)
  simpa using this

theorem ref_sum_is (l : List Int) (k : Nat) (hl : l.length ≤ 1000000) (hw : ∀ b ∈ l, 0 ≤ b ∧ b ≤ 255) (hk : 3 * l.length + 1 ≤ k) :
    baileyref05_Sum.f k l = some (ad 1 0 l) := by
  unfold baileyref05_Sum.f baileyref05_More.f
  rw [ref_low 1 (by omega), ref_high 1 (by omega) (by omega)]
  simp only [bnd]
  have e1 : lo 1 = 1 := by unfold lo; omega
  have e2 : hi 1 = 0 := by unfold hi; omega
  have := ref_loop l hl hw l.length k 0 (lo 1) (hi 1) (by omega) (by omega) (by omega) (by omega) (by omega) (by omega)
  rw [e1, e2] at this ⊢
  rw [show ((0 : Nat) : Int) = 0 from rfl] at this
  rw [this, List.drop_zero]
  rfl
theorem hi_rng : ∀ G : List Int, (∀ x ∈ G, 0 ≤ x ∧ x < 128) → ∀ x ∈ X.hi G, 0 ≤ x ∧ x ≤ 255
  | [], _, x, h => by simp [X.hi] at h
  | [b], hb, x, h => by
    simp [X.hi] at h
    have := hb b (by simp)
    subst h; omega
  | b :: c :: t, hb, x, h => by
    have h' : x ∈ ((b + 128) % 256 :: X.hi (c :: t)) := h
    rw [List.mem_cons] at h'
    rcases h' with e | h'
    · omega
    · exact hi_rng (c :: t) (fun y hy => hb y (by simp at hy ⊢; right; exact hy)) x h'
theorem numB_rng (n : Int) (h1 : n ≤ 9223372036854775807) : ∀ x ∈ numB n, 0 ≤ x ∧ x ≤ 255 :=
  hi_rng _ (grp_rng 8 (max n 0) (by omega) (by omega)).1
theorem bytes_rng (s : ByteArray) : ∀ x ∈ bytesOf s, 0 ≤ x ∧ x ≤ 255 := by
  intro x hx
  unfold bytesOf at hx
  rw [List.mem_map] at hx
  obtain ⟨b, _, rfl⟩ := hx
  have := b.toNat_lt
  omega
theorem pack_text0 (s : ByteArray) (k : Nat) (hs : s.size ≤ 300000) (hk : 10 ≤ k) : pack_Text.f k [] s = some (numB (s.size : Int) ++ bytesOf s) := by
  unfold pack_Text.f room.f
  have hb := numB_len (s.size : Int)
  rw [pw64 (by omega) (by omega), if_pos (by omega), if_pos (by simp; omega), pbnd, pack_put_f [] _ k (by simp) (by omega) (by omega) hk, pbnd, if_pos (by simp; omega)]
  simp
theorem ref_text0 (s : ByteArray) (k : Nat) (hs : s.size ≤ 300000) (hk : 10 ≤ k) : baileyref02_Text.f k [] s = some (numB (s.size : Int) ++ bytesOf s) := by
  unfold baileyref02_Text.f
  have hb := numB_len (s.size : Int)
  rw [ref_Num [] _ k (by simp) (by omega) (by omega) hk, pbnd, if_pos (by simp; omega)]
  simp
theorem str_size (l : List Int) : (strOfNums l).size = l.length := by
  unfold strOfNums
  simp [ByteArray.size]
theorem seal_both (l : List Int) (hl : l.length ≤ 300000) (k : Nat) (hk : 1000000 ≤ k) : ∃ r e, frame_Seal.f k l = some (r, e) ∧ baileyref10_Seal.f k l = some (r, e) ∧ r.length ≤ 400000 := by
  unfold frame_Seal.f baileyref10_Seal.f
  by_cases hx : (l.length : Int) > 262144
  · rw [if_pos hx, if_pos hx]
    exact ⟨[], 5, rfl, rfl, by simp⟩
  · rw [if_neg hx, if_neg hx]
    have hz := str_size l
    rw [pack_text0 _ k (by omega) (by omega), pbnd, ref_text0 _ k (by omega) (by omega), pbnd]
    obtain ⟨t, ht⟩ : ∃ t, t = numB ((strOfNums l).size : Int) ++ bytesOf (strOfNums l) := ⟨_, rfl⟩
    have hb := numB_len ((strOfNums l).size : Int)
    have hbl := bytesOf_length (strOfNums l)
    have tl : t.length ≤ 300000 := by rw [ht]; simp; omega
    have tw : ∀ b ∈ t, 0 ≤ b ∧ b ≤ 255 := by
      intro b hbm
      rw [ht, List.mem_append] at hbm
      rcases hbm with h | h
      · exact numB_rng _ (by omega) b h
      · exact bytes_rng _ b h
    rw [← ht, sum_is t k (by omega) tw (by omega), ref_sum_is t k (by omega) tw (by omega), pbnd, pbnd]
    unfold frame_sealed.f
    simp only [Option.bind_some]
    rw [if_pos (by simp; omega)]
    exact ⟨_, _, rfl, rfl, by simp; omega⟩
end Go.Proofs.Ytagpdfekeppbgaa.Ad
