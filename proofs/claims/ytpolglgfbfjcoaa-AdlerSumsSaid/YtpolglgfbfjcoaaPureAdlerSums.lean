/- The sum of any bytes, on from any sum, is what the document says, for every sum and every bytes. No condition. -/
import Derived.Test.YtpolglgfbfjcoaaOAdlerSumsx1
import Derived.Test.YtpolglgfbfjcoaaWSized
namespace Go.Proofs.Ytpolglgfbfjcoaa.Pure
open Go.RowKit Go.Proofs.Ytpolglgfbfjcoaa.OAdlerSums Go.Proofs.YtpolglgfbfjcoaaW.PrintWords Go.Proofs.YtpolglgfbfjcoaaW.PrintLast

/-- The row's word for a slice's weight, under the name that the printed row asks for. -/
theorem _root_.Go.Proofs.Ytpolglgfbfjcoaa.PrintWords.sized_ints {H : Type} {enc : TypeId × Value → H} {P : Program} {W : World} {base : Nat} {spare : Nat → Bool} {held : Bool} {t e : TypeId} {k : IntKind} {a : Option Addr} {len cap : Nat} {d : DataW H} {ps : List MemPlace} {ts : List TypeId} {ds : List (DataW H)} {j : Nat}
    (hsz : (DataW.weightsEach P ts ds).all (· ≤ reachBytes) = true) (ht : ts[j]? = some t) (hd : ds[j]? = some d) (hu : P.underlying t = some (.slice e)) (he : P.underlying e = some (.int k)) (hc : P.cellsOf e = 1) {B : Nat} (hB : P.bytesOf e = B)
    (h : DataW.Trod enc P W base spare held t (.slice a len cap) d ps) : len * B ≤ 140737488351232 :=
  Go.Proofs.YtpolglgfbfjcoaaW.PrintWords.sized_ints hsz ht hd hu he hc hB h

set_option linter.unusedSimpArgs false
set_option linter.unusedVariables false
theorem b64 {x : Int} (h : (Lit.int .i64 x).wf = true) : -9223372036854775808 ≤ x ∧ x ≤ 9223372036854775807 := by
  simpa [Lit.wf, IntKind.min, IntKind.max, IntKind.signed, IntKind.bits] using h
theorem b32 {x : Int} (h : (Lit.int .u32 x).wf = true) : 0 ≤ x ∧ x ≤ 4294967295 := by
  simpa [Lit.wf, IntKind.min, IntKind.max, IntKind.signed, IntKind.bits] using h
theorem b8 {x : Int} (h : (Lit.int .u8 x).wf = true) : 0 ≤ x ∧ x ≤ 255 := by
  simpa [Lit.wf, IntKind.min, IntKind.max, IntKind.signed, IntKind.bits] using h
theorem w64 {x : Int} (h0 : -9223372036854775808 ≤ x) (h1 : x ≤ 9223372036854775807) : wrap64 x = x := by
  unfold wrap64; omega
theorem wu64 (x : Int) : IntKind.u64.wrap x = x % 18446744073709551616 := by
  simp [IntKind.wrap, IntKind.bits, IntKind.signed]
theorem rd_drop (l : List Int) (i : Nat) (h : i < l.length) : l.drop i = rd l (i : Int) :: l.drop (i + 1) := by
  rw [List.drop_eq_getElem_cons h]; congr 1
  simp [rd, List.getD_eq_getElem?_getD, List.getElem?_eq_getElem h]
theorem rd_mem (l : List Int) (i : Nat) (h : i < l.length) : rd l (i : Int) ∈ l := by
  have : rd l (i : Int) = l[i] := by simp [rd, List.getD_eq_getElem?_getD, List.getElem?_eq_getElem h]
  rw [this]; exact List.getElem_mem h
/-- 'Option.bind_some', as a rule that is no mere reduction (the kernel need not reduce what stands beside it). -/
theorem bnd {α β : Type} (x : α) (f : α → Option β) : (some x).bind f = f x := by rw [Option.bind_some]

/-- One byte more, not reduced. -/
def uFold (p : Int × Int) (l : List Int) : Int × Int := l.foldl (fun p b => (p.1 + b, p.2 + (p.1 + b))) p
def tri : List Int → Int
  | [] => 0
  | b :: l => ((l.length : Int) + 1) * b + tri l
theorem uFold_cons (p : Int × Int) (b : Int) (l : List Int) : uFold p (b :: l) = uFold (p.1 + b, p.2 + (p.1 + b)) l := rfl
theorem uFold_eq (l : List Int) : ∀ x y : Int, uFold (x, y) l = (x + l.sum, y + (l.length : Int) * x + tri l) := by
  induction l with
  | nil => intro x y; simp [uFold, tri]
  | cons b l ih =>
    intro x y
    rw [uFold_cons, ih]
    simp only [tri, List.sum_cons, List.length_cons]
    refine Prod.ext (by simp; omega) ?_
    simp only [Int.add_mul, Int.mul_add, Int.one_mul, Int.natCast_add, Int.natCast_one]
    omega
theorem tri_app (l : List Int) (c : Int) : tri (l ++ [c]) = tri l + l.sum + c := by
  induction l with
  | nil => simp [tri]
  | cons b l ih => simp only [List.cons_append, tri, ih, List.sum_cons, List.length_append, List.length_cons, List.length_nil]; simp [Int.add_mul]; omega
theorem tri_append (l m : List Int) : tri (l ++ m) = tri l + (m.length : Int) * l.sum + tri m := by
  induction l with
  | nil => simp [tri]
  | cons b l ih => simp only [List.cons_append, tri, ih, List.sum_cons, List.length_append]; simp [Int.add_mul, Int.mul_add]; omega
theorem mod_mul (n a : Int) : (n * (a % 65521)) % 65521 = (n * a) % 65521 := by
  rw [Int.mul_emod, Int.emod_emod_of_dvd _ (Int.dvd_refl _), ← Int.mul_emod]
/-- A sum of two halves. -/
def cat2 (x y : Int) : Int := (y % 65521) * 65536 + x % 65521
/-- The sum behind bytes, from two numbers on. -/
def ad (x y : Int) (l : List Int) : Int := cat2 (x + l.sum) (y + (l.length : Int) * x + tri l)
theorem cat2_congr {x y x' y' : Int} (hx : x % 65521 = x' % 65521) (hy : y % 65521 = y' % 65521) : cat2 x y = cat2 x' y' := by
  unfold cat2; rw [hx, hy]
theorem ad_mod (x y : Int) (l : List Int) : ad (x % 65521) (y % 65521) l = ad x y l := by
  unfold ad
  refine cat2_congr (by omega) ?_
  have := mod_mul (l.length : Int) x
  omega
theorem ad_append (x y : Int) (l m : List Int) : ad x y (l ++ m) = ad (x + l.sum) (y + (l.length : Int) * x + tri l) m := by
  unfold ad
  refine cat2_congr (by simp; omega) ?_
  congr 1
  rw [tri_append]; simp [Int.add_mul, Int.mul_add]; omega
theorem or_cat (x y : Int) (hx : 0 ≤ x) (hx' : x < 65521) (hy : 0 ≤ y) (hy' : y < 65521) : Go.bits .or .u32 ((y * 65536) % 4294967296) x = y * 65536 + x := by
  have e : (y * 65536) % 4294967296 = y * 65536 := by omega
  rw [e]
  exact Go.bits_join .u32 32 (by decide) (fun n h0 h1 => by rw [Go.IntKind.wrap_u32]; omega) 16 (y * 65536) x (by omega) (by omega) (by omega) hx (by omega) (by omega)
theorem and_16 (s : Int) (h : 0 ≤ s) (h' : s ≤ 4294967295) : Go.bits .and .u32 s 65535 = s % 65536 :=
  Go.bits_mask .u32 32 (by decide) (fun n h0 h1 => by rw [Go.IntKind.wrap_u32]; omega) 16 (by decide) s h (by omega)
theorem tmod_nn (x m : Int) (h : 0 ≤ x) : Int.tmod x m = x % m := Int.tmod_eq_emod_of_nonneg h
def lo (s : Int) : Int := (s % 65536) % 65521
def hi (s : Int) : Int := (s / 65536) % 65521
theorem of_is (s : Int) (h : 0 ≤ s) (h' : s ≤ 4294967295) : adler_of.f s = some (lo s, hi s) := by
  unfold adler_of.f lo hi
  rw [and_16 s h h', tmod_nn _ _ (by omega), tmod_nn _ _ (by omega)]
theorem halves_is (x y : Int) (hx : 0 ≤ x) (hx' : x < 65521) (hy : 0 ≤ y) (hy' : y < 65521) : adler_halves_sum.f x y = some (cat2 x y) := by
  unfold adler_halves_sum.f cat2
  rw [or_cat x y hx hx' hy hy']
  have e1 : x % 65521 = x := by omega
  have e2 : y % 65521 = y := by omega
  rw [e1, e2]
theorem inner (x1 : List Int) (n : Int) (hn0 : 0 ≤ n) (hn1 : n ≤ x1.length) (y : List Int) (hy : y.length ≤ 5000) (hw : ∀ b ∈ y, 0 ≤ b ∧ b ≤ 255) (d : Nat) :
    ∀ (k i : Nat) (x z : Int), i + d = y.length → 0 ≤ x → x ≤ 65520 + 255 * (i : Int) → 0 ≤ z → 2 * z ≤ 131040 + 131040 * (i : Int) + 255 * ((i : Int) * i + i) →
      adler_More.l1 (k + d + 1) x1 n y (y.length : Int) (i : Int) x z = adler_More.l0 k (x1.drop n.toNat) ((x + (y.drop i).sum) % 65521) ((z + d * x + tri (y.drop i)) % 65521) := by
  induction d with
  | zero =>
    intro k i x z hi h0 h1 h2 h3
    have hi' : i = y.length := by omega
    subst hi'
    rw [List.drop_length]
    simp only [adler_More.l1, Nat.add_zero, tri, List.sum_nil]
    rw [if_neg (by omega), if_pos hn0, if_pos hn1, tmod_nn _ _ h0, tmod_nn _ _ h2]
    simp
  | succ d ih =>
    intro k i x z hi h0 h1 h2 h3
    have hlt : i < y.length := by omega
    rw [rd_drop y i hlt]
    have hb := hw _ (rd_mem y i hlt)
    generalize hxe : rd y (i : Int) = b at *
    have e : k + (d + 1) + 1 = (k + d + 1) + 1 := by omega
    rw [e]
    generalize hK : k + d + 1 = K
    simp only [adler_More.l1]
    rw [← hK]
    rw [if_pos (by omega), if_pos (by omega), if_pos (by omega), hxe, w64 (by omega) (by omega)]
    have hii : (i : Int) * i ≤ 5000 * i := Int.mul_le_mul_of_nonneg_right (by omega) (by omega)
    have e1 : (x + b % 4294967296) % 4294967296 = x + b := by omega
    have hz : z + (x + b) < 4294967296 := by omega
    have e2 : (z + (x + b)) % 4294967296 = z + (x + b) := by omega
    rw [e1, e2]
    have hsq : ((i : Int) + 1) * (i + 1) = i * i + 2 * i + 1 := by simp only [Int.add_mul, Int.mul_add]; omega
    have := ih k (i + 1) (x + b) (z + (x + b)) (by omega) (by omega) (by push_cast; omega) (by omega) (by push_cast; rw [hsq]; omega)
    have e3 : ((i + 1 : Nat) : Int) = (i : Int) + 1 := by omega
    rw [e3] at this
    rw [this]
    have hl : (y.drop (i + 1)).length = d := by simp; omega
    simp only [List.sum_cons, tri, hl]
    congr 1
    · congr 1; omega
    · congr 1; simp only [Int.mul_add, Int.add_mul, Int.natCast_add, Int.natCast_one]; omega
theorem more_loop (m : Nat) : ∀ (l : List Int) (x y : Int) (k : Nat), l.length = m → m ≤ 1000000 → (∀ b ∈ l, 0 ≤ b ∧ b ≤ 255) → 0 ≤ x → x < 65521 → 0 ≤ y → y < 65521 → 3 * m + 1 ≤ k →
    adler_More.l0 k l x y = some (ad x y l) := by
  induction m using Nat.strongRecOn with
  | _ m ih =>
    intro l x y k hl hm hw h0 h1 h2 h3 hk
    obtain ⟨k, rfl⟩ : ∃ j, k = j + 1 := ⟨k - 1, by omega⟩
    simp only [adler_More.l0]
    by_cases hz : l = []
    · subst hz
      rw [if_neg (by simp), halves_is x y h0 h1 h2 h3]
      simp [ad, tri]
    · have hpos : 0 < l.length := List.length_pos_iff.2 hz
      rw [if_pos (by omega)]
      have hmn : mn (l.length : Int) 5000 = ((min l.length 5000 : Nat) : Int) := by unfold mn; split <;> omega
      rw [hmn]
      generalize hc : min l.length 5000 = c
      have hc0 : 0 < c := by omega
      have hc1 : c ≤ l.length := by omega
      have hc2 : c ≤ 5000 := by omega
      rw [if_pos (by omega), if_pos (by omega)]
      simp only [bnd, Int.toNat_natCast]
      have hyl : (l.take c).length = c := by simp; omega
      obtain ⟨k', hk'⟩ : ∃ j, k = j + c + 1 := ⟨k - c - 1, by omega⟩
      have := inner l (c : Int) (by omega) (by omega) (l.take c) (by omega) (fun b hb => hw b (List.mem_of_mem_take hb)) c k' 0 x y (by omega) h0 (by omega) h2 (by omega)
      rw [hk']
      simp only [Int.natCast_zero, Int.toNat_natCast, List.drop_zero] at this
      rw [this]
      rw [ih (l.drop c).length (by simp; omega) (l.drop c) _ _ k' rfl (by simp; omega) (fun b hb => hw b (List.mem_of_mem_drop hb)) (by omega) (by omega) (by omega) (by omega) (by simp; omega)]
      rw [ad_mod]
      have e : ad x y l = ad x y (l.take c ++ l.drop c) := by rw [List.take_append_drop]
      rw [e, ad_append, hyl]
theorem more_is (s : Int) (l : List Int) (k : Nat) (hs : 0 ≤ s) (hs' : s ≤ 4294967295) (hl : l.length ≤ 1000000) (hw : ∀ b ∈ l, 0 ≤ b ∧ b ≤ 255) (hk : 3 * l.length + 1 ≤ k) :
    adler_More.f k s l = some (ad (lo s) (hi s) l) := by
  unfold adler_More.f
  rw [of_is s hs hs']; simp only [bnd]
  exact more_loop l.length l _ _ k rfl hl hw (by unfold lo; omega) (by unfold lo; omega) (by unfold hi; omega) (by unfold hi; omega) hk
theorem sum_is (l : List Int) (k : Nat) (hl : l.length ≤ 1000000) (hw : ∀ b ∈ l, 0 ≤ b ∧ b ≤ 255) (hk : 3 * l.length + 1 ≤ k) :
    adler_Sum.f k l = some (ad 1 0 l) := by
  unfold adler_Sum.f
  rw [more_is 1 l k (by omega) (by omega) hl hw hk]; rfl
theorem ad_range (x y : Int) (l : List Int) : 0 ≤ ad x y l ∧ ad x y l ≤ 4294967295 := by unfold ad cat2; omega
theorem lo_ad (x y : Int) (l : List Int) : lo (ad x y l) = (x + l.sum) % 65521 := by unfold lo ad cat2; omega
theorem hi_ad (x y : Int) (l : List Int) : hi (ad x y l) = (y + (l.length : Int) * x + tri l) % 65521 := by unfold hi ad cat2; omega

theorem awake_at (k : Nat) (hk : 40 ≤ k) : baileylaw05_awake.f k = some true := by
  have h : baileylaw05_awake.f 40 = some true := by decide +kernel
  exact at_rounds baileylaw05_awake.mono hk h

theorem ref_low (s : Int) (h : 0 ≤ s) : baileyref05_low.f s = some (lo s) := by
  unfold baileyref05_low.f lo
  rw [tmod_nn s _ h, w64 (by omega) (by omega), tmod_nn _ _ (by omega)]
theorem ref_high (s : Int) (h : 0 ≤ s) (h' : s ≤ 4294967295) : baileyref05_high.f s = some (hi s) := by
  unfold baileyref05_high.f hi
  rw [Int.tdiv_eq_ediv_of_nonneg h]
  congr 1; omega
theorem ref_of (x y : Int) (hx : 0 ≤ x) (hx' : x < 65521) (hy : 0 ≤ y) (hy' : y < 65521) : baileyref05_of.f x y = some (cat2 x y) := by
  unfold baileyref05_of.f cat2
  rw [tmod_nn x _ hx, tmod_nn y _ hy, if_neg (by omega), if_neg (by omega), w64 (x := y % 65521 * 65536) (by omega) (by omega), w64 (by omega) (by omega)]
  congr 1; omega
theorem ref_loop (l : List Int) (hl : l.length ≤ 1000000) (hw : ∀ b ∈ l, 0 ≤ b ∧ b ≤ 255) (d : Nat) :
    ∀ (k i : Nat) (x y : Int), i + d = l.length → 0 ≤ x → x < 65521 → 0 ≤ y → y < 65521 → d < k →
      baileyref05_More.l0 k l x y (i : Int) = some (ad x y (l.drop i)) := by
  induction d with
  | zero =>
    intro k i x y hi h0 h1 h2 h3 hk
    obtain ⟨k, rfl⟩ : ∃ m, k = m + 1 := ⟨k - 1, by omega⟩
    have hi' : i = l.length := by omega
    subst hi'
    rw [List.drop_length]
    simp only [baileyref05_More.l0]
    rw [if_neg (by omega), ref_of x y h0 h1 h2 h3]
    simp [ad, tri]
  | succ d ih =>
    intro k i x y hi h0 h1 h2 h3 hk
    obtain ⟨k, rfl⟩ : ∃ m, k = m + 1 := ⟨k - 1, by omega⟩
    have hlt : i < l.length := by omega
    rw [rd_drop l i hlt]
    have hb := hw _ (rd_mem l i hlt)
    generalize hxe : rd l (i : Int) = b at *
    simp only [baileyref05_More.l0]
    rw [if_pos (by omega), if_pos (by omega), hxe, w64 (x := b) (by omega) (by omega), w64 (x := x + b) (by omega) (by omega), tmod_nn (x + b) _ (by omega), w64 (x := y + (x + b) % 65521) (by omega) (by omega), tmod_nn _ _ (by omega), w64 (by omega) (by omega)]
    have := ih k (i + 1) ((x + b) % 65521) ((y + (x + b) % 65521) % 65521) (by omega) (by omega) (by omega) (by omega) (by omega) (by omega)
    have e3 : ((i + 1 : Nat) : Int) = (i : Int) + 1 := by omega
    rw [e3] at this
    rw [this, ad_mod]
    have e4 : ad (x + b) (y + (x + b) % 65521) (l.drop (i + 1)) = ad (x + b) (y + (x + b)) (l.drop (i + 1)) := by
      rw [← ad_mod (x + b), ← ad_mod (x + b) (y + (x + b))]
      congr 1; omega
    have e5 := ad_append x y [b] (l.drop (i + 1))
    simp only [List.singleton_append, List.sum_cons, List.sum_nil, List.length_cons, List.length_nil, tri] at e5
    rw [e4, e5]
    congr 2 <;> simp <;> omega
theorem ref_is (s : Int) (l : List Int) (k : Nat) (hs : 0 ≤ s) (hs' : s ≤ 4294967295) (hl : l.length ≤ 1000000) (hw : ∀ b ∈ l, 0 ≤ b ∧ b ≤ 255) (hk : l.length + 1 ≤ k) :
    baileyref05_More.f k s l = some (ad (lo s) (hi s) l) := by
  unfold baileyref05_More.f
  rw [ref_low s hs, ref_high s hs hs']; simp only [bnd]
  have := ref_loop l hl hw l.length k 0 (lo s) (hi s) (by omega) (by unfold lo; omega) (by unfold lo; omega) (by unfold hi; omega) (by unfold hi; omega) (by omega)
  simpa using this
theorem AdlerSums : baileylaw05_AdlerSums.Pure := by
  intro s l hs _ _ hw
  have hw' : ∀ x ∈ l, 0 ≤ x ∧ x ≤ 255 := fun x hx => b8 (hw x hx)
  have hs' := b32 hs
  refine ⟨100000, ?_⟩
  unfold baileylaw05_AdlerSums.f
  by_cases h : (l.length : Int) > 20000
  · simp [h, awake_at 100000 (by decide)]
  · rw [if_neg h, sum_is l 100000 (by omega) hw' (by omega), more_is s l 100000 hs'.1 hs'.2 (by omega) hw' (by omega), ref_is s l 100000 hs'.1 hs'.2 (by omega) hw' (by omega)]
    have e : baileyref05_Sum.f 100000 l = some (ad 1 0 l) := by
      unfold baileyref05_Sum.f
      rw [ref_is 1 l 100000 (by omega) (by omega) (by omega) hw' (by omega)]; rfl
    rw [e]
    simp [awake_at 100000 (by decide)]

end Go.Proofs.Ytpolglgfbfjcoaa.Pure
