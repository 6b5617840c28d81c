/- RecordBack, in the small machine. -/
import Derived.Test.YtijmmpeadikkbaaOrec13
set_option linter.unusedVariables false
set_option linter.unusedSimpArgs false
set_option maxRecDepth 10000
set_option pp.deepTerms true
set_option pp.maxSteps 1000000
set_option maxHeartbeats 2000000
namespace Go.T
attribute [local irreducible] Run Back RS Ap
variable {K0 K H H0 : Heap} {i j : Nat} {s : RSt}
theorem By.app {a b : List Int} (ha : By a) (hb : By b) : By (a ++ b) := fun x hx => by
  rcases List.mem_append.1 hx with h | h
  · exact ha x h
  · exact hb x h
theorem putAll_by (l : List Int) (hl : ∀ n ∈ l, n ≤ 9223372036854775807) : ∀ acc, By acc → By (putAll acc l) := by
  induction l with
  | nil => intro acc h; exact h
  | cons n l ih =>
    intro acc h
    exact ih (fun m hm => hl m (List.mem_cons_of_mem _ hm)) _ (h.app (numB_by n (hl n (List.mem_cons_self ..))))
theorem encR_by (r : Rc) (hr : r.ok) : By (encR r) := by
  have h0 : By (numB r.kd) := numB_by r.kd hr.kd.2
  unfold encR
  by_cases h1 : r.kd = 1
  · rw [if_pos h1]
    refine ((putAll_by _ ?_ _ h0).app (numB_by _ (by have := hr.len; omega))).app hr.sn
    intro n hn
    simp only [List.mem_cons, List.not_mem_nil, or_false] at hn
    rcases hn with rfl | rfl | rfl
    · exact hr.ix.2
    · exact hr.tm.2
    · exact hr.cf.2
  rw [if_neg h1]
  by_cases h2 : r.kd = 2
  · rw [if_pos h2]
    refine putAll_by _ ?_ _ h0
    intro n hn
    simp only [List.mem_cons, List.not_mem_nil, or_false] at hn
    rcases hn with rfl | rfl
    · exact hr.tm.2
    · exact hr.vo.2
  rw [if_neg h2]
  by_cases h3 : r.kd = 3
  · rw [if_pos h3]
    unfold putE
    split
    · refine ((putAll_by _ ?_ _ h0).app (numB_by _ (by have := hr.en.len; omega))).app hr.en.dt
      intro n hn
      simp only [List.mem_cons, List.not_mem_nil, or_false] at hn
      rcases hn with rfl | rfl | rfl
      · exact hr.en.ix.2
      · exact hr.en.tm.2
      · exact hr.en.kd.2
    · exact h0
  rw [if_neg h3]
  refine putAll_by _ ?_ _ h0
  intro n hn
  simp only [List.mem_cons, List.not_mem_nil, or_false] at hn
  rw [hn]; exact hr.ix.2
theorem back11 (r : Rc) (hr : r.ok) (b : List Int) (hby : ∀ x ∈ b, 0 ≤ x ∧ x ≤ 255) : CT n_law11_RecordBack [r.tv, .sl .shr (bl b)] [] = some ⟨.bool true, [], false⟩ := by
  have A0 := awake11_ok
  have Fr := law11_few (H := []) r
  by_cases f1 : (r.sn.length : Int) ≤ 131172 ∧ (r.en.dt.length : Int) ≤ 5000
  rotate_left
  · have e : (decide ((r.sn.length : Int) ≤ 131172) && decide ((r.en.dt.length : Int) ≤ 5000)) = false := by
      rw [← Bool.decide_and]; exact decide_eq_false f1
    rw [e] at Fr
    rw [Rc.tv_eq] at Fr ⊢
    refine callT_of rfl tab_law11_RecordBack ?_
    simp (maxSteps := 4000000) only [↓set16, ↓sl16, zaa, zab, zac, zad, zz0, zz1, zz2, zz3, zz4, zae, zaf, zag, zah, zai, zaj, zak, zal, zam, zan, zao, zap, zaq, zar, zas, zat, zau, zav, zaw, zax, zay, zaz, zba, zbb, zbc, zbd, zbe, zbf, zbg, zbh, zbi, zbj, zbk, zbl, zbm, zbn, zbo, zbp, zbq, zbr, zbs, zbt, zbu, zbv, zbw, zbx, zby, zbz, zca, zcb, zcc, zcd, zce, zcf, zcg, zch, zci, zcj, zck, zcl, zcm, zcn, ne_eq, zco, zcp, zcq, zcr, zcs, List.replicate, zct, zcu, zcv, zcw, zcx, zcy, zcz, zda, zdb, zdc, zdd, zde, zdf, zdg, zdh, zdi, killT, delta, tak, ev, ad, taks, evs, nL, getH, pack, arith, callD, Nat.reduceAdd, Nat.reduceSub, Nat.reduceMul, Nat.reduceLeDiff, Nat.reduceEqDiff, Nat.reduceBEq, Nat.reduceBNe, Nat.reduceLT, Nat.reduceDiv, Int.reduceNeg, Int.reduceLT, Int.reduceLE, Int.reduceEq, Int.reduceNe, Int.reduceAdd, Int.reduceSub, Int.reduceMul, Int.reduceToNat, Int.reduceBEq, Int.reduceBNe, fillP, fillE, okE, okW, bound, elS, srcS, Fin, finish, ress, resOf, one, keeps, ↓reduceIte, Dl.ap, Dl.slots, okD, isLp, zeros, reduceCtorEq, zdj, zdk, tf_law11_RecordBack, Fr, A0]
  have e1 : (decide ((r.sn.length : Int) ≤ 131172) && decide ((r.en.dt.length : Int) ≤ 5000)) = true := by
    rw [← Bool.decide_and]; exact decide_eq_true f1
  rw [e1] at Fr
  by_cases f3 : (6000 : Int) < b.length
  · rw [Rc.tv_eq] at Fr ⊢
    refine callT_of rfl tab_law11_RecordBack ?_
    simp (maxSteps := 4000000) only [↓set16, ↓sl16, zaa, zab, zac, zad, zz0, zz1, zz2, zz3, zz4, zae, zaf, zag, zah, zai, zaj, zak, zal, zam, zan, zao, zap, zaq, zar, zas, zat, zau, zav, zaw, zax, zay, zaz, zba, zbb, zbc, zbd, zbe, zbf, zbg, zbh, zbi, zbj, zbk, zbl, zbm, zbn, zbo, zbp, zbq, zbr, zbs, zbt, zbu, zbv, zbw, zbx, zby, zbz, zca, zcb, zcc, zcd, zce, zcf, zcg, zch, zci, zcj, zck, zcl, zcm, zcn, ne_eq, zco, zcp, zcq, zcr, zcs, List.replicate, zct, zcu, zcv, zcw, zcx, zcy, zcz, zda, zdb, zdc, zdd, zde, zdf, zdg, zdh, zdi, killT, delta, tak, ev, ad, taks, evs, nL, getH, pack, arith, callD, Nat.reduceAdd, Nat.reduceSub, Nat.reduceMul, Nat.reduceLeDiff, Nat.reduceEqDiff, Nat.reduceBEq, Nat.reduceBNe, Nat.reduceLT, Nat.reduceDiv, Int.reduceNeg, Int.reduceLT, Int.reduceLE, Int.reduceEq, Int.reduceNe, Int.reduceAdd, Int.reduceSub, Int.reduceMul, Int.reduceToNat, Int.reduceBEq, Int.reduceBNe, fillP, fillE, okE, okW, bound, elS, srcS, Fin, finish, ress, resOf, one, keeps, ↓reduceIte, Dl.ap, Dl.slots, okD, isLp, zeros, reduceCtorEq, zdj, zdk, tf_law11_RecordBack, Fr, bl_len, gt_iff_lt, f3, A0]
  have rs : r.small := ⟨by omega, by omega⟩
  obtain ⟨g1, U1⟩ := record_Encode (H := []) r hr rs
  have hel := encR_len r
  obtain ⟨V1, W1, v1, w1, D1⟩ := record_Decode (H := []) (encR r) (by omega) (encR_by r hr)
  obtain ⟨V2, W2, v2, w2, D2⟩ := record_Decode (H := []) b (by omega) hby
  have S1 := record_Same (H := []) r r hr.en.len hr.len
  rw [sameR_refl] at S1
  have hB := rdR_ok b hby
  have hE2 : (rdR b).2 = 0 → ∃ g, CT n_record_Encode [(rdR b).1.tv] [] = some ⟨.tup [.sl g (bl b), .int .i64 0], [], false⟩ := by
    intro h
    obtain ⟨h1, h2, h3, h4⟩ := hB h
    obtain ⟨g, U⟩ := record_Encode (H := []) (rdR b).1 h3 h4
    rw [if_pos h1, h2] at U
    exact ⟨g, U⟩
  have E1 := bytes_Same (H := []) b (by omega)
  have back := rdR_back r hr
  have a0 := v1.s
  have a1 := v1.c
  have b0 := w1.s
  have b1 := w1.c
  have c0 := v2.s
  have c1 := v2.c
  have d0 := w2.s
  have d1 := w2.c
  unfold Rc.cells at D1 D2
  generalize encR r = Y at *
  generalize rdR b = X at *
  rw [Rc.tv_eq] at Fr U1
  rw [Rc.tv_eq] at S1
  rw [Rc.tv_eq]
  cases hc : checkB r <;> rw [hc] at U1
  · rw [if_neg (by simp)] at U1
    by_cases h2 : X.2 = 0
    · obtain ⟨g2, U2⟩ := hE2 h2
      rw [Rc.tv_eq] at U2
      rw [h2] at D2
      refine callT_of rfl tab_law11_RecordBack ?_
      simp (maxSteps := 4000000) only [↓set16, ↓sl16, zaa, zab, zac, zad, zz0, zz1, zz2, zz3, zz4, zae, zaf, zag, zah, zai, zaj, zak, zal, zam, zan, zao, zap, zaq, zar, zas, zat, zau, zav, zaw, zax, zay, zaz, zba, zbb, zbc, zbd, zbe, zbf, zbg, zbh, zbi, zbj, zbk, zbl, zbm, zbn, zbo, zbp, zbq, zbr, zbs, zbt, zbu, zbv, zbw, zbx, zby, zbz, zca, zcb, zcc, zcd, zce, zcf, zcg, zch, zci, zcj, zck, zcl, zcm, zcn, ne_eq, zco, zcp, zcq, zcr, zcs, List.replicate, zct, zcu, zcv, zcw, zcx, zcy, zcz, zda, zdb, zdc, zdd, zde, zdf, zdg, zdh, zdi, killT, delta, tak, ev, ad, taks, evs, nL, getH, pack, arith, callD, Nat.reduceAdd, Nat.reduceSub, Nat.reduceMul, Nat.reduceLeDiff, Nat.reduceEqDiff, Nat.reduceBEq, Nat.reduceBNe, Nat.reduceLT, Nat.reduceDiv, Int.reduceNeg, Int.reduceLT, Int.reduceLE, Int.reduceEq, Int.reduceNe, Int.reduceAdd, Int.reduceSub, Int.reduceMul, Int.reduceToNat, Int.reduceBEq, Int.reduceBNe, fillP, fillE, okE, okW, bound, elS, srcS, Fin, finish, ress, resOf, one, keeps, ↓reduceIte, Dl.ap, Dl.slots, okD, isLp, zeros, reduceCtorEq, zdj, zdk, tf_law11_RecordBack, jn_law11_RecordBack_2, jn_law11_RecordBack_1, Fr, bl_len, gt_iff_lt, f3, U1, show ((1 : Int) == 0) = false from rfl, D2, c0, c1, d0, d1, BEq.rfl, beq_self_eq_true, U2, bne_self_eq_false, E1, A0]
    · have hq : (X.2 == 0) = false := by simp [h2]
      refine callT_of rfl tab_law11_RecordBack ?_
      simp (maxSteps := 4000000) only [↓set16, ↓sl16, zaa, zab, zac, zad, zz0, zz1, zz2, zz3, zz4, zae, zaf, zag, zah, zai, zaj, zak, zal, zam, zan, zao, zap, zaq, zar, zas, zat, zau, zav, zaw, zax, zay, zaz, zba, zbb, zbc, zbd, zbe, zbf, zbg, zbh, zbi, zbj, zbk, zbl, zbm, zbn, zbo, zbp, zbq, zbr, zbs, zbt, zbu, zbv, zbw, zbx, zby, zbz, zca, zcb, zcc, zcd, zce, zcf, zcg, zch, zci, zcj, zck, zcl, zcm, zcn, ne_eq, zco, zcp, zcq, zcr, zcs, List.replicate, zct, zcu, zcv, zcw, zcx, zcy, zcz, zda, zdb, zdc, zdd, zde, zdf, zdg, zdh, zdi, killT, delta, tak, ev, ad, taks, evs, nL, getH, pack, arith, callD, Nat.reduceAdd, Nat.reduceSub, Nat.reduceMul, Nat.reduceLeDiff, Nat.reduceEqDiff, Nat.reduceBEq, Nat.reduceBNe, Nat.reduceLT, Nat.reduceDiv, Int.reduceNeg, Int.reduceLT, Int.reduceLE, Int.reduceEq, Int.reduceNe, Int.reduceAdd, Int.reduceSub, Int.reduceMul, Int.reduceToNat, Int.reduceBEq, Int.reduceBNe, fillP, fillE, okE, okW, bound, elS, srcS, Fin, finish, ress, resOf, one, keeps, ↓reduceIte, Dl.ap, Dl.slots, okD, isLp, zeros, reduceCtorEq, zdj, zdk, tf_law11_RecordBack, jn_law11_RecordBack_2, jn_law11_RecordBack_1, Fr, bl_len, gt_iff_lt, f3, U1, show ((1 : Int) == 0) = false from rfl, D2, c0, c1, d0, d1, hq, A0]
  · rw [if_pos rfl] at U1
    rw [back hc] at D1 a0 b0
    simp only at D1 a0 b0
    by_cases h2 : X.2 = 0
    · obtain ⟨g2, U2⟩ := hE2 h2
      rw [Rc.tv_eq] at U2
      rw [h2] at D2
      refine callT_of rfl tab_law11_RecordBack ?_
      simp (maxSteps := 4000000) only [↓set16, ↓sl16, zaa, zab, zac, zad, zz0, zz1, zz2, zz3, zz4, zae, zaf, zag, zah, zai, zaj, zak, zal, zam, zan, zao, zap, zaq, zar, zas, zat, zau, zav, zaw, zax, zay, zaz, zba, zbb, zbc, zbd, zbe, zbf, zbg, zbh, zbi, zbj, zbk, zbl, zbm, zbn, zbo, zbp, zbq, zbr, zbs, zbt, zbu, zbv, zbw, zbx, zby, zbz, zca, zcb, zcc, zcd, zce, zcf, zcg, zch, zci, zcj, zck, zcl, zcm, zcn, ne_eq, zco, zcp, zcq, zcr, zcs, List.replicate, zct, zcu, zcv, zcw, zcx, zcy, zcz, zda, zdb, zdc, zdd, zde, zdf, zdg, zdh, zdi, killT, delta, tak, ev, ad, taks, evs, nL, getH, pack, arith, callD, Nat.reduceAdd, Nat.reduceSub, Nat.reduceMul, Nat.reduceLeDiff, Nat.reduceEqDiff, Nat.reduceBEq, Nat.reduceBNe, Nat.reduceLT, Nat.reduceDiv, Int.reduceNeg, Int.reduceLT, Int.reduceLE, Int.reduceEq, Int.reduceNe, Int.reduceAdd, Int.reduceSub, Int.reduceMul, Int.reduceToNat, Int.reduceBEq, Int.reduceBNe, fillP, fillE, okE, okW, bound, elS, srcS, Fin, finish, ress, resOf, one, keeps, ↓reduceIte, Dl.ap, Dl.slots, okD, isLp, zeros, reduceCtorEq, zdj, zdk, tf_law11_RecordBack, jn_law11_RecordBack_2, jn_law11_RecordBack_1, Fr, bl_len, gt_iff_lt, f3, U1, D1, a0, a1, b0, b1, S1, D2, c0, c1, d0, d1, BEq.rfl, beq_self_eq_true, U2, bne_self_eq_false, E1, A0]
    · have hq : (X.2 == 0) = false := by simp [h2]
      refine callT_of rfl tab_law11_RecordBack ?_
      simp (maxSteps := 4000000) only [↓set16, ↓sl16, zaa, zab, zac, zad, zz0, zz1, zz2, zz3, zz4, zae, zaf, zag, zah, zai, zaj, zak, zal, zam, zan, zao, zap, zaq, zar, zas, zat, zau, zav, zaw, zax, zay, zaz, zba, zbb, zbc, zbd, zbe, zbf, zbg, zbh, zbi, zbj, zbk, zbl, zbm, zbn, zbo, zbp, zbq, zbr, zbs, zbt, zbu, zbv, zbw, zbx, zby, zbz, zca, zcb, zcc, zcd, zce, zcf, zcg, zch, zci, zcj, zck, zcl, zcm, zcn, ne_eq, zco, zcp, zcq, zcr, zcs, List.replicate, zct, zcu, zcv, zcw, zcx, zcy, zcz, zda, zdb, zdc, zdd, zde, zdf, zdg, zdh, zdi, killT, delta, tak, ev, ad, taks, evs, nL, getH, pack, arith, callD, Nat.reduceAdd, Nat.reduceSub, Nat.reduceMul, Nat.reduceLeDiff, Nat.reduceEqDiff, Nat.reduceBEq, Nat.reduceBNe, Nat.reduceLT, Nat.reduceDiv, Int.reduceNeg, Int.reduceLT, Int.reduceLE, Int.reduceEq, Int.reduceNe, Int.reduceAdd, Int.reduceSub, Int.reduceMul, Int.reduceToNat, Int.reduceBEq, Int.reduceBNe, fillP, fillE, okE, okW, bound, elS, srcS, Fin, finish, ress, resOf, one, keeps, ↓reduceIte, Dl.ap, Dl.slots, okD, isLp, zeros, reduceCtorEq, zdj, zdk, tf_law11_RecordBack, jn_law11_RecordBack_2, jn_law11_RecordBack_1, Fr, bl_len, gt_iff_lt, f3, U1, D1, a0, a1, b0, b1, S1, D2, c0, c1, d0, d1, hq, BEq.rfl, beq_self_eq_true, bne_self_eq_false, A0]
end Go.T
