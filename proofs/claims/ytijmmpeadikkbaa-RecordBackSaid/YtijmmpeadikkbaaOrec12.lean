/- A record that may be is read of its bytes, and what was read has just these bytes. -/
import Derived.Test.YtijmmpeadikkbaaOrec11
set_option linter.unusedVariables false
set_option linter.unusedSimpArgs false
set_option maxRecDepth 10000
set_option pp.deepTerms true
set_option pp.maxSteps 1000000
set_option maxHeartbeats 2000000
namespace Go.T
attribute [local irreducible] Run Back RS Ap
variable {K0 K H H0 : Heap} {i j : Nat} {s : RSt}
theorem rT_back (l rest : List Int) (m : Int) (hl : (l.length : Int) ≤ m) (hm : m ≤ 9223372036854775807) : rT m (numB l.length ++ (l ++ rest), 0) = (strOf l, (rest, 0)) := by
  have h := rN_back l.length m (l ++ rest) (by omega) hm
  unfold rT
  rw [h]
  simp only [List.length_append]
  rw [if_neg (by simp), if_neg (by omega)]
  simp only [Int.toNat_natCast, List.take_left, List.drop_left]
theorem rdEn_back (e : En) (rest : List Int) (he : entB e = true) (hb : ∀ x ∈ e.dt, 0 ≤ x ∧ x ≤ 255) : rdEn (numB e.ix ++ (numB e.tm ++ (numB e.kd ++ (numB e.dt.length ++ (e.dt ++ rest)))), 0) = (e, (rest, 0)) := by
  have he' := he
  unfold entB at he'
  simp only [Bool.and_eq_true, within_iff, decide_eq_true_eq] at he'
  have h1 := rN_back e.ix 2147483648 (numB e.tm ++ (numB e.kd ++ (numB e.dt.length ++ (e.dt ++ rest)))) (by omega) (by decide)
  have h2 := rN_back e.tm 2147483648 (numB e.kd ++ (numB e.dt.length ++ (e.dt ++ rest))) (by omega) (by decide)
  have h3 := rN_back e.kd 2 (numB e.dt.length ++ (e.dt ++ rest)) (by omega) (by decide)
  have h4 := rT_back e.dt rest 4096 (by omega) (by decide)
  unfold rdEn
  simp only [h1, h2, h3, h4, strB_strOf _ hb]
  have hr : rdEnE e (rest, 0) = (rest, 0) := by unfold rdEnE; rw [he, if_pos rfl]
  have ee : (⟨e.ix, e.tm, e.kd, e.dt⟩ : En) = e := rfl
  rw [ee, hr, if_neg (by simp)]
/-- A record that may be, read of its bytes. -/
theorem rdR_back (r : Rc) (hr : r.ok) (hc : checkB r = true) : rdR (encR r) = (r, 0) := by
  have hc' := hc
  unfold checkB at hc'
  simp only [Bool.and_eq_true, within_iff, decide_eq_true_eq, sameR, Bool.or_eq_true, Bool.not_eq_true', beq_eq_false_iff_ne, ne_eq] at hc'
  obtain ⟨hk, hn, hs, he, hb⟩ := hc'
  have key : ∀ rest, rdBody (r.kd, (rest, 0)) = (r, ([], 0)) → encR r = numB r.kd ++ rest → rdR (encR r) = (r, 0) := by
    intro rest h1 h2
    have h3 := rN_back r.kd 4 rest (by omega) (by decide)
    unfold rdR
    rw [h2, h3, h1]
    have h4 : rdRE r ([], 0) = ([], 0) := by unfold rdRE; rw [hc, if_pos rfl]
    simp only [h4]
    rfl
  unfold bareR at hb
  unfold Rc.nums at hn
  by_cases h1 : r.kd = 1
  · rw [if_pos h1] at hb hn
    simp only [List.all_cons, List.all_nil, Bool.and_true, Bool.and_eq_true, within_iff] at hn
    refine key (numB r.ix ++ (numB r.tm ++ (numB r.cf ++ (numB r.sn.length ++ (r.sn ++ []))))) ?_ ?_
    · have a1 := rN_back r.ix 2147483648 (numB r.tm ++ (numB r.cf ++ (numB r.sn.length ++ (r.sn ++ [])))) (by omega) (by decide)
      have a2 := rN_back r.tm 2147483648 (numB r.cf ++ (numB r.sn.length ++ (r.sn ++ []))) (by omega) (by decide)
      have a3 := rN_back r.cf 127 (numB r.sn.length ++ (r.sn ++ [])) (by omega) (by decide)
      have a4 := rT_back r.sn [] 131072 hs (by decide)
      unfold rdBody
      rw [if_pos h1]
      simp only [a1, a2, a3, a4, strB_strOf _ hr.sn]
      conv => rhs; rw [hb]
      rw [h1]
    · unfold encR
      rw [if_pos h1]
      simp [putAll]
  rw [if_neg h1] at hb hn
  by_cases h2 : r.kd = 2
  · rw [if_pos h2] at hb hn
    simp only [List.all_cons, List.all_nil, Bool.and_true, Bool.and_eq_true, within_iff] at hn
    refine key (numB r.tm ++ (numB r.vo ++ [])) ?_ ?_
    · have a2 := rN_back r.tm 2147483648 (numB r.vo ++ []) (by omega) (by decide)
      have a3 := rN_back r.vo 7 [] (by omega) (by decide)
      unfold rdBody
      rw [if_neg (by simpa using h1), if_pos h2]
      simp only [a2, a3]
      conv => rhs; rw [hb]
      rw [h2]
    · unfold encR
      rw [if_neg h1, if_pos h2]
      simp [putAll]
  rw [if_neg h2] at hb hn
  by_cases h3 : r.kd = 3
  · rw [if_pos h3] at hb
    have he2 : entB r.en = true := by
      rcases he with h | h
      · exact absurd h3 h
      · exact h
    refine key (numB r.en.ix ++ (numB r.en.tm ++ (numB r.en.kd ++ (numB r.en.dt.length ++ (r.en.dt ++ []))))) ?_ ?_
    · have a1 := rdEn_back r.en [] he2 hr.en.dt
      unfold rdBody
      rw [if_neg (by simpa using h1), if_neg (by simpa using h2), if_pos h3]
      simp only [a1]
      conv => rhs; rw [hb]
      rw [h3]
    · unfold encR putE
      rw [if_neg h1, if_neg h2, if_pos h3, if_pos he2]
      simp [putAll]
  rw [if_neg h3] at hb
  have h4 : r.kd = 4 := by omega
  rw [if_pos h4] at hn
  simp only [List.all_cons, List.all_nil, Bool.and_true, within_iff] at hn
  refine key (numB r.ix ++ []) ?_ ?_
  · have a2 := rN_back r.ix 2147483648 [] (by omega) (by decide)
    unfold rdBody
    rw [if_neg (by simpa using h1), if_neg (by simpa using h2), if_neg (by simpa using h3), if_pos h4]
    simp only [a2]
    conv => rhs; rw [hb]
    rw [h4]
  · unfold encR
    rw [if_neg h1, if_neg h2, if_neg h3]
    simp [putAll]
end Go.T
