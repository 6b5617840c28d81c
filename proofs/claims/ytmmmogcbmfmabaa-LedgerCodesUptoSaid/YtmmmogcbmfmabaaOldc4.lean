/- A ledger's bytes: read back. -/
import Derived.Test.YtmmmogcbmfmabaaOldc3
import Derived.Test.YtmmmogcbmfmabaaOled8c
set_option linter.unusedVariables false
set_option linter.unusedSimpArgs false
set_option maxRecDepth 10000
set_option maxHeartbeats 1000000
namespace Go.T
attribute [local irreducible] Run Back RS Ap
variable {H : Heap}
theorem rN_back (n m : Int) (rest : List Int) (hn : 0 ≤ n ∧ n ≤ m) (hm : m ≤ 9223372036854775807) : rN m (numB n ++ rest, 0) = (n, (rest, 0)) := by
  have e : max n 0 = n := by omega
  have h := num_read n rest (by omega) (by omega) m (by omega)
  rw [e] at h
  unfold rN
  rw [if_pos rfl, h, if_pos rfl]
  simp only [Int.toNat_natCast, List.drop_left]
theorem strOf_strB (s : ByteArray) : strOf (strB s) = s := by
  unfold strOf
  have e : (bl (strB s)).map byteOf = s.data.toList := by
    unfold bl strB
    rw [List.map_map, List.map_map]
    conv => rhs; rw [← List.map_id s.data.toList]
    apply List.map_congr_left
    intro b _
    simp [byteOf]
  rw [e]
theorem rT_back (s : ByteArray) (m : Int) (rest : List Int) (hs : (s.size : Int) ≤ m) (hm : m ≤ 9223372036854775807) : rT m (numB s.size ++ (strB s ++ rest), 0) = (s, (rest, 0)) := by
  have hN := rN_back s.size m (strB s ++ rest) ⟨by omega, hs⟩ hm
  unfold rT
  rw [hN]
  simp only [ne_eq, not_true_eq_false, if_false, Int.toNat_natCast]
  rw [if_neg (by rw [List.length_append, strB_len]; omega), ← strB_len s, List.take_left, List.drop_left, strOf_strB]
def hdB (h : Hd) : List Int := numB h.id ++ (numB h.cl ++ (numB h.nb ++ (numB h.un ++ (numB h.ti ++ (numB h.sp.size ++ strB h.sp)))))
theorem putHd_eq (acc : List Int) (h : Hd) : putHd acc h = acc ++ hdB h := by
  unfold putHd hdB putAll
  simp
def hdsB (l : List Hd) : List Int := l.flatMap hdB
theorem putHs_eq (l : List Hd) : ∀ acc, putHs acc l = acc ++ hdsB l := by
  induction l with
  | nil => intro acc; simp [putHs, hdsB]
  | cons h l ih =>
    intro acc
    show putHs (putHd acc h) l = _
    rw [ih, putHd_eq, List.append_assoc]; rfl
theorem rdHd_back (h : Hd) (hb : holdB h = true) (rest : List Int) : rdHd (hdB h ++ rest, 0) = (h, (rest, 0)) := by
  simp only [holdB, Bool.and_eq_true, within_iff, nameB] at hb
  obtain ⟨h1, h2, h3, h4, h5, h6, _⟩ := hb
  unfold rdHd hdB
  simp only [List.append_assoc]
  rw [rN_back _ _ _ ⟨by omega, by omega⟩ (by decide)]
  simp only
  rw [rN_back _ _ _ ⟨by omega, by omega⟩ (by decide)]
  simp only
  rw [rN_back _ _ _ ⟨by omega, by omega⟩ (by decide)]
  simp only
  rw [rN_back _ _ _ ⟨by omega, by omega⟩ (by decide)]
  simp only
  rw [rN_back _ _ _ ⟨by omega, by omega⟩ (by decide)]
  simp only
  rw [rT_back _ _ _ (by omega) (by decide)]
theorem rdHs_back (l : List Hd) : ∀ (hs : List Hd) (rest : List Int), l.all holdB = true → rdHs l.length hs (hdsB l ++ rest, 0) = (hs ++ l, (rest, 0)) := by
  induction l with
  | nil => intro hs rest _; simp [rdHs, hdsB]
  | cons h l ih =>
    intro hs rest hb
    rw [List.all_cons, Bool.and_eq_true] at hb
    show rdHs l.length (hs ++ [(rdHd _).1]) (rdHd _).2 = _
    have e : hdsB (h :: l) ++ rest = hdB h ++ (hdsB l ++ rest) := by simp [hdsB]
    rw [e, rdHd_back h hb.1, ih _ _ hb.2]; simp
theorem rdLg_back (l : Lg) (g : Good l) : rdLg (putLg [] l, 0) = (l, ([], 0)) := by
  have g1 := g.q
  have g2 := g.u
  have g3 := g.he
  have g4 := g.nx
  have g5 := g.len
  have e : putLg [] l = numB l.q ++ (numB l.u ++ (numB l.he ++ (numB l.nx ++ (numB l.hs.length ++ (hdsB l.hs ++ []))))) := by
    unfold putLg
    rw [putHs_eq]
    simp [putAll]
  rw [e]
  unfold rdLg
  rw [rN_back _ _ _ ⟨by omega, by omega⟩ (by decide)]
  simp only
  rw [rN_back _ _ _ ⟨by omega, by omega⟩ (by decide)]
  simp only
  rw [rN_back _ _ _ ⟨by omega, by omega⟩ (by decide)]
  simp only
  rw [rN_back _ _ _ ⟨by omega, by omega⟩ (by decide)]
  simp only
  rw [rN_back _ _ _ ⟨by omega, by omega⟩ (by decide)]
  simp only [Int.toNat_natCast]
  rw [rdHs_back l.hs [] [] g.all, List.nil_append]
  unfold rdEnd rdSt
  rw [if_pos ((good_iff l).2 g), if_neg (by simp)]
theorem numB_by (n : Int) (hn : n ≤ 9223372036854775807) : ∀ x ∈ numB n, 0 ≤ x ∧ x ≤ 255 := by
  have h1 := (grp_rng 8 (max n 0) (by omega) (by omega)).1
  unfold numB
  generalize grp 8 (max n 0) = g at h1
  induction g with
  | nil => intro x hx; cases hx
  | cons a t ih =>
    cases t with
    | nil => intro x hx; have := h1 a (by simp); simp [hi] at hx; omega
    | cons b t =>
      intro x hx
      simp only [hi, List.mem_cons] at hx
      rcases hx with rfl | hx
      · omega
      · exact ih (fun y hy => h1 y (by simp at hy ⊢; right; exact hy)) x (by simpa [hi] using hx)
theorem strB_by (s : ByteArray) : ∀ x ∈ strB s, 0 ≤ x ∧ x ≤ 255 := by
  intro x hx
  unfold strB at hx
  obtain ⟨b, _, rfl⟩ := List.mem_map.1 hx
  have := b.toNat_lt
  omega
theorem putAll_by (l : List Int) : ∀ acc, (∀ x ∈ acc, (0 : Int) ≤ x ∧ x ≤ 255) → (∀ n ∈ l, I64 n) → ∀ x ∈ putAll acc l, 0 ≤ x ∧ x ≤ 255 := by
  induction l with
  | nil => intro acc h _; exact h
  | cons n l ih =>
    intro acc h hn
    refine ih (acc ++ numB n) ?_ fun m hm => hn m (by simp [hm])
    intro x hx
    rcases List.mem_append.1 hx with hx | hx
    · exact h x hx
    · exact numB_by n (hn n (by simp)).2 x hx
theorem putLg_by (b : List Int) (l : Lg) (hl : l.ok) (hb : ∀ x ∈ b, (0 : Int) ≤ x ∧ x ≤ 255) (hm : l.hs.length ≤ 30) (hn : nameN l.hs ≤ 1048576) : ∀ x ∈ putLg b l, 0 ≤ x ∧ x ≤ 255 := by
  have key : ∀ (hs : List Hd) (acc : List Int), (∀ h ∈ hs, h.ok) → nameN hs ≤ 1048576 → (∀ x ∈ acc, (0 : Int) ≤ x ∧ x ≤ 255) → ∀ x ∈ putHs acc hs, 0 ≤ x ∧ x ≤ 255 := by
    intro hs
    induction hs with
    | nil => intro acc _ _ h; exact h
    | cons h hs ih =>
      intro acc ho hN ha
      have ho1 := ho h (by simp)
      simp only [nameN, List.map_cons, List.sum_cons] at hN
      refine ih (putHd acc h) (fun y hy => ho y (by simp [hy])) (by unfold nameN; omega) ?_
      intro x hx
      unfold putHd at hx
      rcases List.mem_append.1 hx with hx | hx
      · rcases List.mem_append.1 hx with hx | hx
        · refine putAll_by _ acc ha ?_ x hx
          intro n hn; simp at hn; rcases hn with rfl | rfl | rfl | rfl | rfl
          · exact ho1.id
          · exact ho1.cl
          · exact ho1.nb
          · exact ho1.un
          · exact ho1.ti
        · exact numB_by _ (by omega) x hx
      · exact strB_by _ x hx
  refine key l.hs _ hl.hs hn ?_
  refine putAll_by _ b hb ?_
  intro n hn; simp at hn; rcases hn with rfl | rfl | rfl | rfl | rfl
  · exact hl.q
  · exact hl.u
  · exact hl.he
  · exact hl.nx
  · unfold I64; omega
theorem putLg_len (b : List Int) (l : Lg) : (putLg b l).length ≤ b.length + 45 + 54 * l.hs.length + nameN l.hs := by
  have h1 := putAll_len [l.q, l.u, l.he, l.nx, l.hs.length] b
  have h2 := putHs_len l.hs (putAll b [l.q, l.u, l.he, l.nx, l.hs.length])
  simp only [List.length_cons, List.length_nil] at h1
  unfold putLg; omega
end Go.T
