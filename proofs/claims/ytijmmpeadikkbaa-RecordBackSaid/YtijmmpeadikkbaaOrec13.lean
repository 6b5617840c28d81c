/- What was read of bytes has just these bytes. -/
import Derived.Test.YtijmmpeadikkbaaOrec12
set_option linter.unusedVariables false
set_option linter.unusedSimpArgs false
set_option maxRecDepth 10000
set_option pp.deepTerms true
set_option pp.maxSteps 1000000
set_option maxHeartbeats 2000000
namespace Go.T
attribute [local irreducible] Run Back RS Ap
variable {K0 K H H0 : Heap} {i j : Nat} {s : RSt}
def By (l : List Int) : Prop := ∀ x ∈ l, 0 ≤ x ∧ x ≤ 255
theorem rd_ok (b : List Int) (hby : ∀ x ∈ b, 0 ≤ x ∧ x ≤ 255) (m : Int) (h : (rdNum b m).2.2 = 0) : ∃ n wd : Nat, rdNum b m = ((n : Int), (wd : Int), 0) ∧ 1 ≤ wd ∧ wd ≤ 9 ∧ wd ≤ b.length ∧ numB (n : Int) = b.take wd ∧ (n : Int) ≤ m ∧ (n : Int) ≤ 9223372036854775807 := by
  unfold rdNum at h ⊢
  by_cases h0 : (numW 0 b).1 = 0
  · rw [if_pos h0] at h ⊢
    by_cases h1 : m < numV (b.take (numW 0 b).2.toNat)
    · rw [if_pos h1] at h; exact absurd h (by decide)
    · rw [if_neg h1]
      obtain ⟨r1, r2, r3, r4, r5, r6⟩ := read_back b (numW 0 b).2 hby (Prod.ext h0 rfl)
      refine ⟨(numV (b.take (numW 0 b).2.toNat)).toNat, (numW 0 b).2.toNat, ?_, by omega, by omega, by omega, ?_, by omega, by omega⟩
      · rw [Int.toNat_of_nonneg r5, Int.toNat_of_nonneg (by omega)]
      · rw [Int.toNat_of_nonneg r5]; exact r1
  · rw [if_neg h0] at h
    exact absurd h h0
theorem By.right {a b : List Int} (h : By (a ++ b)) : By b := fun x hx => h x (List.mem_append_right _ hx)
theorem By.left {a b : List Int} (h : By (a ++ b)) : By a := fun x hx => h x (List.mem_append_left _ hx)
theorem rN_ok {m : Int} {s : RSt} (hb : By s.1) (h : (rN m s).2.2 = 0) : s.2 = 0 ∧ s.1 = numB (rN m s).1 ++ (rN m s).2.1 := by
  by_cases h0 : s.2 = 0
  · refine ⟨h0, ?_⟩
    unfold rN at h ⊢
    rw [if_pos h0] at h ⊢
    by_cases h1 : (rdNum s.1 m).2.2 = 0
    · obtain ⟨n, wd, e1, e2, e3, e4, e5, e6, e7⟩ := rd_ok s.1 hb m h1
      rw [if_pos h1, e1]
      simp only [Int.toNat_natCast]
      rw [e5, List.take_append_drop]
    · rw [if_neg h1] at h
      exact absurd h h1
  · exfalso
    unfold rN at h
    rw [if_neg h0] at h
    exact h0 h
theorem rT_ok {m : Int} {s : RSt} (hb : By s.1) (h : (rT m s).2.2 = 0) : s.2 = 0 ∧ s.1 = numB (strB (rT m s).1).length ++ (strB (rT m s).1 ++ (rT m s).2.1) := by
  by_cases h1 : (rN m s).2.2 = 0
  · obtain ⟨a, e⟩ := rN_ok hb h1
    refine ⟨a, ?_⟩
    have hb2 : By (rN m s).2.1 := by rw [e] at hb; exact hb.right
    have hn := rN_nn m s
    unfold rT at h ⊢
    rw [if_neg (by simp [h1])] at h ⊢
    by_cases h2 : ((rN m s).2.1.length : Int) < (rN m s).1
    · rw [if_pos h2] at h; exact absurd h (by decide)
    · rw [if_neg h2]
      simp only
      rw [strB_strOf _ (fun x hx => hb2 x (List.mem_of_mem_take hx)), List.take_append_drop, List.length_take]
      have : ((min (rN m s).1.toNat (rN m s).2.1.length : Nat) : Int) = (rN m s).1 := by omega
      rw [this]; exact e
  · exfalso
    unfold rT at h
    rw [if_pos h1] at h
    exact h1 h
theorem rN_e {m : Int} {s : RSt} (h : (rN m s).2.2 = 0) : s.2 = 0 := by
  by_cases h0 : s.2 = 0
  · exact h0
  · unfold rN at h; rw [if_neg h0] at h; exact h
theorem rT_e {m : Int} {s : RSt} (h : (rT m s).2.2 = 0) : s.2 = 0 := by
  by_cases h1 : (rN m s).2.2 = 0
  · exact rN_e h1
  · unfold rT at h; rw [if_pos h1] at h; exact absurd h h1
theorem rdEn_ok {s : RSt} (hb : By s.1) (h : (rdEn s).2.2 = 0) : s.2 = 0 ∧ entB (rdEn s).1 = true ∧ s.1 = numB (rdEn s).1.ix ++ (numB (rdEn s).1.tm ++ (numB (rdEn s).1.kd ++ (numB (rdEn s).1.dt.length ++ ((rdEn s).1.dt ++ (rdEn s).2.1)))) := by
  have key : ∀ (t1 t2 t3 : Int × RSt) (t4 : ByteArray × RSt), (if (rdEnE ⟨t1.1, t2.1, t3.1, strB t4.1⟩ t4.2).2 ≠ 0 then (zEn, rdEnE ⟨t1.1, t2.1, t3.1, strB t4.1⟩ t4.2) else (⟨t1.1, t2.1, t3.1, strB t4.1⟩, rdEnE ⟨t1.1, t2.1, t3.1, strB t4.1⟩ t4.2) : En × RSt).2.2 = 0 → (if (rdEnE ⟨t1.1, t2.1, t3.1, strB t4.1⟩ t4.2).2 ≠ 0 then (zEn, rdEnE ⟨t1.1, t2.1, t3.1, strB t4.1⟩ t4.2) else (⟨t1.1, t2.1, t3.1, strB t4.1⟩, rdEnE ⟨t1.1, t2.1, t3.1, strB t4.1⟩ t4.2) : En × RSt) = (⟨t1.1, t2.1, t3.1, strB t4.1⟩, t4.2) ∧ t4.2.2 = 0 ∧ entB ⟨t1.1, t2.1, t3.1, strB t4.1⟩ = true := by
    intro t1 t2 t3 t4 h
    by_cases hc : (rdEnE ⟨t1.1, t2.1, t3.1, strB t4.1⟩ t4.2).2 ≠ 0
    · rw [if_pos hc] at h
      exact absurd h hc
    · rw [if_neg hc] at h ⊢
      simp only at h
      by_cases he : entB ⟨t1.1, t2.1, t3.1, strB t4.1⟩ = true
      · have : rdEnE ⟨t1.1, t2.1, t3.1, strB t4.1⟩ t4.2 = t4.2 := by unfold rdEnE; rw [if_pos he]
        rw [this] at h ⊢
        exact ⟨rfl, h, he⟩
      · exfalso
        unfold rdEnE at h
        rw [if_neg he] at h
        by_cases h0 : t4.2.2 = 0
        · rw [if_pos h0] at h; exact absurd h (by decide)
        · rw [if_neg h0] at h; exact h0 h
  obtain ⟨k1, k2, k3⟩ := key _ _ _ _ h
  have er : rdEn s = _ := k1
  have hb0 := hb
  have g3 := rT_e k2
  have g2 := rN_e g3
  have g1 := rN_e g2
  obtain ⟨a1, b1⟩ := rN_ok hb g1
  have hb1 : By (rN 2147483648 s).2.1 := by rw [b1] at hb; exact hb.right
  obtain ⟨a2, b2⟩ := rN_ok hb1 g2
  have hb2 : By (rN 2147483648 (rN 2147483648 s).2).2.1 := by rw [b2] at hb1; exact hb1.right
  obtain ⟨a3, b3⟩ := rN_ok hb2 g3
  have hb3 : By (rN 2 (rN 2147483648 (rN 2147483648 s).2).2).2.1 := by rw [b3] at hb2; exact hb2.right
  obtain ⟨a4, b4⟩ := rT_ok hb3 k2
  refine ⟨a1, ?_, ?_⟩
  · rw [er]; exact k3
  · rw [er]
    simp only
    rw [← b4, ← b3, ← b2, ← b1]
theorem rdEn_e {s : RSt} (h : (rdEn s).2.2 = 0) : s.2 = 0 := by
  unfold rdEn at h
  simp only at h
  have key : ∀ (e : En) (t : RSt), (if (rdEnE e t).2 ≠ 0 then (zEn, rdEnE e t) else (e, rdEnE e t) : En × RSt).2.2 = 0 → t.2 = 0 := by
    intro e t h
    have h' : (rdEnE e t).2 = 0 := by
      by_cases hc : (rdEnE e t).2 ≠ 0
      · rw [if_pos hc] at h; exact h
      · rw [if_neg hc] at h; exact h
    unfold rdEnE at h'
    split at h'
    · exact h'
    · split at h'
      · assumption
      · exact h'
  exact rN_e (rN_e (rN_e (rT_e (key _ _ h))))
theorem i64_rN (m : Int) (hm : 0 ≤ m ∧ m ≤ 9223372036854775807) (s : RSt) : I64 (rN m s).1 := by
  have h1 := rN_nn m s
  have h2 := rN_le m hm.1 s
  exact ⟨by omega, by omega⟩
theorem zEn_ok : zEn.ok := ⟨by decide, by decide, by decide, (fun x hx => by cases hx), by decide⟩
theorem rdEn_ok64 (s : RSt) : (rdEn s).1.ok ∧ (rdEn s).1.dt.length ≤ 4096 := by
  have hts := rT_size 4096 (by decide) (rN 2 (rN 2147483648 (rN 2147483648 s).2).2).2
  unfold rdEn
  simp only
  split
  · exact ⟨zEn_ok, show (0 : Nat) ≤ 4096 from by decide⟩
  · refine ⟨⟨i64_rN _ (by decide) _, i64_rN _ (by decide) _, i64_rN _ (by decide) _, strB_by _, ?_⟩, ?_⟩
    · simp only [strB_len]; omega
    · simp only [strB_len]; omega
theorem i64_0 : I64 0 := by decide
theorem rdBody_ok (a : Int × RSt) (ha : I64 a.1) : (rdBody a).1.ok ∧ (rdBody a).1.small := by
  have z : ∀ x ∈ ([] : List Int), 0 ≤ x ∧ x ≤ 255 := fun x hx => by cases hx
  have zl : ([] : List Int).length ≤ 9223372036854775807 := by decide
  have zs : ([] : List Int).length ≤ 1000000 := by decide
  have ze : zEn.dt.length ≤ 1000000 := by decide
  unfold rdBody
  by_cases h1 : a.1 = 1
  · rw [if_pos h1]
    have hts := rT_size 131072 (by decide) (rN 127 (rN 2147483648 (rN 2147483648 a.2).2).2).2
    exact ⟨⟨ha, i64_rN _ (by decide) _, i64_0, zEn_ok, i64_rN _ (by decide) _, i64_rN _ (by decide) _, strB_by _, by simp only [strB_len]; omega⟩, ⟨by simp only [strB_len]; omega, ze⟩⟩
  rw [if_neg h1]
  by_cases h2 : a.1 = 2
  · rw [if_pos h2]; exact ⟨⟨ha, i64_rN _ (by decide) _, i64_rN _ (by decide) _, zEn_ok, i64_0, i64_0, z, zl⟩, ⟨zs, ze⟩⟩
  rw [if_neg h2]
  by_cases h3 : a.1 = 3
  · rw [if_pos h3]
    have he := rdEn_ok64 a.2
    exact ⟨⟨ha, i64_0, i64_0, he.1, i64_0, i64_0, z, zl⟩, ⟨zs, by have := he.2; simp only; omega⟩⟩
  rw [if_neg h3]
  by_cases h4 : a.1 = 4
  · rw [if_pos h4]; exact ⟨⟨ha, i64_0, i64_0, zEn_ok, i64_rN _ (by decide) _, i64_0, z, zl⟩, ⟨zs, ze⟩⟩
  rw [if_neg h4]; exact ⟨⟨ha, i64_0, i64_0, zEn_ok, i64_0, i64_0, z, zl⟩, ⟨zs, ze⟩⟩
/-- What was read has just these bytes. -/
theorem rdR_ok (b : List Int) (hby : By b) (h : (rdR b).2 = 0) : checkB (rdR b).1 = true ∧ encR (rdR b).1 = b ∧ (rdR b).1.ok ∧ (rdR b).1.small := by
  have hk2 := i64_rN 4 (by decide) (b, 0)
  have e1 := fun h => rN_ok (m := 4) (s := (b, 0)) hby h
  unfold rdR at h ⊢
  simp only at h ⊢
  generalize hA : rN 4 (b, 0) = a at *
  have hok := rdBody_ok a hk2
  by_cases hc : endC (rdRE (rdBody a).1 (rdBody a).2) ≠ 0
  · rw [if_pos hc] at h; exact absurd h hc
  rw [if_neg hc]
  simp only
  have hc0 : endC (rdRE (rdBody a).1 (rdBody a).2) = 0 := by simpa using hc
  have hck : checkB (rdBody a).1 = true := by
    by_cases hq : checkB (rdBody a).1 = true
    · exact hq
    · exfalso
      unfold rdRE at hc0
      rw [if_neg hq] at hc0
      by_cases h0 : (rdBody a).2.2 = 0
      · rw [if_pos h0] at hc0; exact absurd hc0 (by decide)
      · rw [if_neg h0] at hc0
        unfold endC at hc0
        split at hc0
        · exact absurd hc0 (by decide)
        · exact h0 hc0
  have hs : (rdBody a).2 = ([], 0) := by
    have : rdRE (rdBody a).1 (rdBody a).2 = (rdBody a).2 := by unfold rdRE; rw [if_pos hck]
    rw [this] at hc0
    unfold endC at hc0
    split at hc0
    · exact absurd hc0 (by decide)
    · rename_i hl
      refine Prod.ext (List.eq_nil_of_length_eq_zero (by omega)) hc0
  refine ⟨hck, ?_, hok⟩
  have hkd := checkB_kd hck
  -- the number of the kind, then what the kind has
  have fin : a.2.2 = 0 → ∀ rest, a.2.1 = rest → b = numB a.1 ++ rest := by
    intro h0 rest hr
    have := (e1 h0).2
    rw [hr] at this
    exact this
  have hba : a.2.2 = 0 → By a.2.1 := by
    intro h0
    have := (e1 h0).2
    simp only at this
    rw [this] at hby
    exact hby.right
  unfold rdBody at hs hck ⊢
  by_cases h1 : a.1 = 1
  · rw [if_pos h1] at hs ⊢
    simp only at hs ⊢
    have k4 : (rT 131072 (rN 127 (rN 2147483648 (rN 2147483648 a.2).2).2).2).2.2 = 0 := by rw [hs]
    have k3 := rT_e k4
    have k2 := rN_e k3
    have k1 := rN_e k2
    have k0 := rN_e k1
    have y0 := hba k0
    obtain ⟨_, b1⟩ := rN_ok y0 k1
    have y1 : By (rN 2147483648 a.2).2.1 := by rw [b1] at y0; exact y0.right
    obtain ⟨_, b2⟩ := rN_ok y1 k2
    have y2 : By (rN 2147483648 (rN 2147483648 a.2).2).2.1 := by rw [b2] at y1; exact y1.right
    obtain ⟨_, b3⟩ := rN_ok y2 k3
    have y3 : By (rN 127 (rN 2147483648 (rN 2147483648 a.2).2).2).2.1 := by rw [b3] at y2; exact y2.right
    obtain ⟨_, b4⟩ := rT_ok y3 k4
    rw [hs] at b4
    have := fin k0 _ (b1.trans (by rw [b2, b3, b4]))
    rw [this]
    unfold encR
    rw [if_pos h1]
    simp [putAll]
  rw [if_neg h1] at hs ⊢
  by_cases h2 : a.1 = 2
  · rw [if_pos h2] at hs ⊢
    simp only at hs ⊢
    have k2 : (rN 7 (rN 2147483648 a.2).2).2.2 = 0 := by rw [hs]
    have k1 := rN_e k2
    have k0 := rN_e k1
    have y0 := hba k0
    obtain ⟨_, b1⟩ := rN_ok y0 k1
    have y1 : By (rN 2147483648 a.2).2.1 := by rw [b1] at y0; exact y0.right
    obtain ⟨_, b2⟩ := rN_ok y1 k2
    rw [hs] at b2
    have := fin k0 _ (b1.trans (by rw [b2]))
    rw [this]
    unfold encR
    rw [if_neg h1, if_pos h2]
    simp [putAll]
  rw [if_neg h2] at hs ⊢
  by_cases h3 : a.1 = 3
  · rw [if_pos h3] at hs ⊢
    simp only at hs ⊢
    have k1 : (rdEn a.2).2.2 = 0 := by rw [hs]
    have k0 : a.2.2 = 0 := by
      by_cases g : a.2.2 = 0
      · exact g
      · exfalso; exact g (rdEn_e k1)
    have y0 := hba k0
    obtain ⟨_, he, b1⟩ := rdEn_ok y0 k1
    rw [hs] at b1
    have := fin k0 _ b1
    rw [this]
    unfold encR putE
    rw [if_neg h1, if_neg h2, if_pos h3, if_pos he]
    simp [putAll]
  rw [if_neg h3] at hs ⊢
  have h4 : a.1 = 4 := by
    unfold rdBody at hkd
    rw [if_neg h1, if_neg h2, if_neg h3] at hkd
    by_cases h4 : a.1 = 4
    · exact h4
    · rw [if_neg h4] at hkd; simp only at hkd; omega
  rw [if_pos h4] at hs ⊢
  simp only at hs ⊢
  have k1 : (rN 2147483648 a.2).2.2 = 0 := by rw [hs]
  have k0 := rN_e k1
  have y0 := hba k0
  obtain ⟨_, b1⟩ := rN_ok y0 k1
  rw [hs] at b1
  have := fin k0 _ b1
  rw [this]
  unfold encR
  rw [if_neg h1, if_neg h2, if_neg h3]
  simp [putAll]
end Go.T
