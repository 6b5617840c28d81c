/- Any record has the bytes of the document, and any bytes are the record that it says. -/
import Derived.Test.YtijmmpeadikkbaaOrec10
set_option linter.unusedVariables false
set_option linter.unusedSimpArgs false
set_option maxRecDepth 10000
set_option pp.deepTerms true
set_option pp.maxSteps 1000000
set_option maxHeartbeats 2000000
namespace Go.T
attribute [local irreducible] Run Back RS Ap
variable {K0 K H H0 : Heap} {i j : Nat} {s : RSt}
theorem rdBody_by (a : Int × RSt) : (∀ x ∈ (rdBody a).1.en.dt, 0 ≤ x ∧ x ≤ 255) ∧ (∀ x ∈ (rdBody a).1.sn, 0 ≤ x ∧ x ≤ 255) := by
  have z : ∀ x ∈ ([] : List Int), 0 ≤ x ∧ x ≤ 255 := fun x hx => by cases hx
  unfold rdBody
  by_cases h1 : a.1 = 1
  · rw [if_pos h1]; exact ⟨z, strB_by _⟩
  rw [if_neg h1]
  by_cases h2 : a.1 = 2
  · rw [if_pos h2]; exact ⟨z, z⟩
  rw [if_neg h2]
  by_cases h3 : a.1 = 3
  · rw [if_pos h3]; exact ⟨rdEn_by _, z⟩
  rw [if_neg h3]
  by_cases h4 : a.1 = 4
  · rw [if_pos h4]; exact ⟨z, z⟩
  rw [if_neg h4]; exact ⟨z, z⟩
theorem rdR_by (b : List Int) : (∀ x ∈ (rdR b).1.en.dt, 0 ≤ x ∧ x ≤ 255) ∧ (∀ x ∈ (rdR b).1.sn, 0 ≤ x ∧ x ≤ 255) := by
  have z : ∀ x ∈ ([] : List Int), 0 ≤ x ∧ x ≤ 255 := fun x hx => by cases hx
  have h := rdBody_by (rN 4 (b, 0))
  unfold rdR
  simp only
  split
  · exact ⟨z, z⟩
  · exact h
theorem encR_len (r : Rc) : (encR r).length ≤ 100 + r.sn.length + r.en.dt.length := by
  have l0 := numB_len r.kd
  have l1 := numB_len r.sn.length
  have p1 := putAll_len [r.ix, r.tm, r.cf] (numB r.kd)
  have p2 := putAll_len [r.tm, r.vo] (numB r.kd)
  have p3 := putAll_len [r.ix] (numB r.kd)
  have p4 := putE_len (numB r.kd) r.en
  simp only [List.length_cons, List.length_nil] at p1 p2 p3
  unfold encR
  by_cases h1 : r.kd = 1
  · rw [if_pos h1, List.length_append, List.length_append]; omega
  rw [if_neg h1]
  by_cases h2 : r.kd = 2
  · rw [if_pos h2]; omega
  rw [if_neg h2]
  by_cases h3 : r.kd = 3
  · rw [if_pos h3]; omega
  rw [if_neg h3]; omega
theorem sameR_refl (a : Rc) : sameR a a = true := by simp [sameR]
theorem codes11 (r s : Rc) (hr : r.ok) (hs : s.ok) (b : List Int) (hby : ∀ x ∈ b, 0 ≤ x ∧ x ≤ 255) : CT n_law11_RecordCodes [r.tv, s.tv, .sl .shr (bl b)] [] = some ⟨.bool true, [], false⟩ := by
  have A0 := awake11_ok
  have Fr := law11_few (H := []) r
  have Fs := law11_few (H := []) s
  by_cases f1 : (r.sn.length : Int) ≤ 131172 ∧ (r.en.dt.length : Int) ≤ 5000
  rotate_left
  · have e : (decide ((r.sn.length : Int) ≤ 131172) && decide ((r.en.dt.length : Int) ≤ 5000)) = false := by
      rw [← Bool.decide_and]; exact decide_eq_false f1
    rw [e] at Fr
    rw [Rc.tv_eq] at Fr ⊢
    rw [Rc.tv_eq]
    refine callT_of rfl tab_law11_RecordCodes ?_
    simp (maxSteps := 4000000) only [↓set16, ↓sl16, zaa, zab, zac, zad, zz0, zz1, zz2, zz3, zz4, zae, zaf, zag, zah, zai, zaj, zak, zal, zam, zan, zao, zap, zaq, zar, zas, zat, zau, zav, zaw, zax, zay, zaz, zba, zbb, zbc, zbd, zbe, zbf, zbg, zbh, zbi, zbj, zbk, zbl, zbm, zbn, zbo, zbp, zbq, zbr, zbs, zbt, zbu, zbv, zbw, zbx, zby, zbz, zca, zcb, zcc, zcd, zce, zcf, zcg, zch, zci, zcj, zck, zcl, zcm, zcn, ne_eq, zco, zcp, zcq, zcr, zcs, List.replicate, zct, zcu, zcv, zcw, zcx, zcy, zcz, zda, zdb, zdc, zdd, zde, zdf, zdg, zdh, zdi, killT, delta, tak, ev, ad, taks, evs, nL, getH, pack, arith, callD, Nat.reduceAdd, Nat.reduceSub, Nat.reduceMul, Nat.reduceLeDiff, Nat.reduceEqDiff, Nat.reduceBEq, Nat.reduceBNe, Nat.reduceLT, Nat.reduceDiv, Int.reduceNeg, Int.reduceLT, Int.reduceLE, Int.reduceEq, Int.reduceNe, Int.reduceAdd, Int.reduceSub, Int.reduceMul, Int.reduceToNat, Int.reduceBEq, Int.reduceBNe, fillP, fillE, okE, okW, bound, elS, srcS, Fin, finish, ress, resOf, one, keeps, ↓reduceIte, Dl.ap, Dl.slots, okD, isLp, zeros, reduceCtorEq, zdj, zdk, tf_law11_RecordCodes, Fr, A0]
  have e1 : (decide ((r.sn.length : Int) ≤ 131172) && decide ((r.en.dt.length : Int) ≤ 5000)) = true := by
    rw [← Bool.decide_and]; exact decide_eq_true f1
  rw [e1] at Fr
  by_cases f2 : (s.sn.length : Int) ≤ 131172 ∧ (s.en.dt.length : Int) ≤ 5000
  rotate_left
  · have e : (decide ((s.sn.length : Int) ≤ 131172) && decide ((s.en.dt.length : Int) ≤ 5000)) = false := by
      rw [← Bool.decide_and]; exact decide_eq_false f2
    rw [e] at Fs
    rw [Rc.tv_eq] at Fr Fs ⊢
    rw [Rc.tv_eq]
    refine callT_of rfl tab_law11_RecordCodes ?_
    simp (maxSteps := 4000000) only [↓set16, ↓sl16, zaa, zab, zac, zad, zz0, zz1, zz2, zz3, zz4, zae, zaf, zag, zah, zai, zaj, zak, zal, zam, zan, zao, zap, zaq, zar, zas, zat, zau, zav, zaw, zax, zay, zaz, zba, zbb, zbc, zbd, zbe, zbf, zbg, zbh, zbi, zbj, zbk, zbl, zbm, zbn, zbo, zbp, zbq, zbr, zbs, zbt, zbu, zbv, zbw, zbx, zby, zbz, zca, zcb, zcc, zcd, zce, zcf, zcg, zch, zci, zcj, zck, zcl, zcm, zcn, ne_eq, zco, zcp, zcq, zcr, zcs, List.replicate, zct, zcu, zcv, zcw, zcx, zcy, zcz, zda, zdb, zdc, zdd, zde, zdf, zdg, zdh, zdi, killT, delta, tak, ev, ad, taks, evs, nL, getH, pack, arith, callD, Nat.reduceAdd, Nat.reduceSub, Nat.reduceMul, Nat.reduceLeDiff, Nat.reduceEqDiff, Nat.reduceBEq, Nat.reduceBNe, Nat.reduceLT, Nat.reduceDiv, Int.reduceNeg, Int.reduceLT, Int.reduceLE, Int.reduceEq, Int.reduceNe, Int.reduceAdd, Int.reduceSub, Int.reduceMul, Int.reduceToNat, Int.reduceBEq, Int.reduceBNe, fillP, fillE, okE, okW, bound, elS, srcS, Fin, finish, ress, resOf, one, keeps, ↓reduceIte, Dl.ap, Dl.slots, okD, isLp, zeros, reduceCtorEq, zdj, zdk, tf_law11_RecordCodes, Fr, Fs, A0]
  have e2 : (decide ((s.sn.length : Int) ≤ 131172) && decide ((s.en.dt.length : Int) ≤ 5000)) = true := by
    rw [← Bool.decide_and]; exact decide_eq_true f2
  rw [e2] at Fs
  by_cases f3 : (6000 : Int) < b.length
  · rw [Rc.tv_eq] at Fr Fs ⊢
    rw [Rc.tv_eq]
    refine callT_of rfl tab_law11_RecordCodes ?_
    simp (maxSteps := 4000000) only [↓set16, ↓sl16, zaa, zab, zac, zad, zz0, zz1, zz2, zz3, zz4, zae, zaf, zag, zah, zai, zaj, zak, zal, zam, zan, zao, zap, zaq, zar, zas, zat, zau, zav, zaw, zax, zay, zaz, zba, zbb, zbc, zbd, zbe, zbf, zbg, zbh, zbi, zbj, zbk, zbl, zbm, zbn, zbo, zbp, zbq, zbr, zbs, zbt, zbu, zbv, zbw, zbx, zby, zbz, zca, zcb, zcc, zcd, zce, zcf, zcg, zch, zci, zcj, zck, zcl, zcm, zcn, ne_eq, zco, zcp, zcq, zcr, zcs, List.replicate, zct, zcu, zcv, zcw, zcx, zcy, zcz, zda, zdb, zdc, zdd, zde, zdf, zdg, zdh, zdi, killT, delta, tak, ev, ad, taks, evs, nL, getH, pack, arith, callD, Nat.reduceAdd, Nat.reduceSub, Nat.reduceMul, Nat.reduceLeDiff, Nat.reduceEqDiff, Nat.reduceBEq, Nat.reduceBNe, Nat.reduceLT, Nat.reduceDiv, Int.reduceNeg, Int.reduceLT, Int.reduceLE, Int.reduceEq, Int.reduceNe, Int.reduceAdd, Int.reduceSub, Int.reduceMul, Int.reduceToNat, Int.reduceBEq, Int.reduceBNe, fillP, fillE, okE, okW, bound, elS, srcS, Fin, finish, ress, resOf, one, keeps, ↓reduceIte, Dl.ap, Dl.slots, okD, isLp, zeros, reduceCtorEq, zdj, zdk, tf_law11_RecordCodes, Fr, Fs, bl_len, gt_iff_lt, f3, A0]
  have rs : r.small := ⟨by omega, by omega⟩
  obtain ⟨g1, U1⟩ := record_Encode (H := []) r hr rs
  obtain ⟨g2, U2⟩ := ref11_Encode (H := []) r hr rs
  have M1 := record_Check (H := []) r hr.en.len hr.len
  have M2 := ref11_Check (H := []) r hr.en.dt hr.sn
  have S1 := record_Same (H := []) r s hr.en.len hr.len
  have S2 := ref11_Same (H := []) r s hr.en.dt hs.en.dt hr.sn hs.sn
  obtain ⟨V1, W1, v1, w1, D1⟩ := record_Decode (H := []) b (by omega) hby
  obtain ⟨V2, W2, v2, w2, D2⟩ := ref11_Decode (H := []) b (by omega) hby
  have hd := rdR_by b
  have S3 := ref11_Same (H := []) (rdR b).1 (rdR b).1 hd.1 hd.1 hd.2 hd.2
  rw [sameR_refl] at S3
  have a0 := v1.s
  have a1 := v1.c
  have b0 := w1.s
  have b1 := w1.c
  have c0 := v2.s
  have c1 := v2.c
  have d0 := w2.s
  have d1 := w2.c
  have hel := encR_len r
  have E1 := bytes_Same (H := []) (encR r) (by omega)
  have E0 := bytes_Same (H := []) [] (by simp)
  have nb : bl [] = [] := rfl
  rw [nb] at E0
  generalize rdR b = X at *
  generalize encR r = Y at *
  rw [Rc.tv_eq] at Fr Fs U1 U2 M1 M2
  rw [Rc.tv_eq, Rc.tv_eq] at S1 S2
  rw [Rc.tv_eq] at S3
  unfold Rc.cells at D1 D2
  rw [Rc.tv_eq, Rc.tv_eq]
  cases hc : checkB r <;> rw [hc] at U1 U2 M1 M2 <;> cases hq : sameR r s <;> rw [hq] at S1 S2
  · rw [if_neg (by simp)] at U1 U2
    refine callT_of rfl tab_law11_RecordCodes ?_
    simp (maxSteps := 4000000) only [↓set16, ↓sl16, zaa, zab, zac, zad, zz0, zz1, zz2, zz3, zz4, zae, zaf, zag, zah, zai, zaj, zak, zal, zam, zan, zao, zap, zaq, zar, zas, zat, zau, zav, zaw, zax, zay, zaz, zba, zbb, zbc, zbd, zbe, zbf, zbg, zbh, zbi, zbj, zbk, zbl, zbm, zbn, zbo, zbp, zbq, zbr, zbs, zbt, zbu, zbv, zbw, zbx, zby, zbz, zca, zcb, zcc, zcd, zce, zcf, zcg, zch, zci, zcj, zck, zcl, zcm, zcn, ne_eq, zco, zcp, zcq, zcr, zcs, List.replicate, zct, zcu, zcv, zcw, zcx, zcy, zcz, zda, zdb, zdc, zdd, zde, zdf, zdg, zdh, zdi, killT, delta, tak, ev, ad, taks, evs, nL, getH, pack, arith, callD, Nat.reduceAdd, Nat.reduceSub, Nat.reduceMul, Nat.reduceLeDiff, Nat.reduceEqDiff, Nat.reduceBEq, Nat.reduceBNe, Nat.reduceLT, Nat.reduceDiv, Int.reduceNeg, Int.reduceLT, Int.reduceLE, Int.reduceEq, Int.reduceNe, Int.reduceAdd, Int.reduceSub, Int.reduceMul, Int.reduceToNat, Int.reduceBEq, Int.reduceBNe, fillP, fillE, okE, okW, bound, elS, srcS, Fin, finish, ress, resOf, one, keeps, ↓reduceIte, Dl.ap, Dl.slots, okD, isLp, zeros, reduceCtorEq, zdj, zdk, tf_law11_RecordCodes, Fr, Fs, bl_len, gt_iff_lt, f3, U1, U2, E0, M1, M2, S1, S2, bne_self_eq_false, D1, D2, a0, a1, b0, b1, c0, c1, d0, d1, S3, BEq.rfl, beq_self_eq_true, A0]
  · rw [if_neg (by simp)] at U1 U2
    refine callT_of rfl tab_law11_RecordCodes ?_
    simp (maxSteps := 4000000) only [↓set16, ↓sl16, zaa, zab, zac, zad, zz0, zz1, zz2, zz3, zz4, zae, zaf, zag, zah, zai, zaj, zak, zal, zam, zan, zao, zap, zaq, zar, zas, zat, zau, zav, zaw, zax, zay, zaz, zba, zbb, zbc, zbd, zbe, zbf, zbg, zbh, zbi, zbj, zbk, zbl, zbm, zbn, zbo, zbp, zbq, zbr, zbs, zbt, zbu, zbv, zbw, zbx, zby, zbz, zca, zcb, zcc, zcd, zce, zcf, zcg, zch, zci, zcj, zck, zcl, zcm, zcn, ne_eq, zco, zcp, zcq, zcr, zcs, List.replicate, zct, zcu, zcv, zcw, zcx, zcy, zcz, zda, zdb, zdc, zdd, zde, zdf, zdg, zdh, zdi, killT, delta, tak, ev, ad, taks, evs, nL, getH, pack, arith, callD, Nat.reduceAdd, Nat.reduceSub, Nat.reduceMul, Nat.reduceLeDiff, Nat.reduceEqDiff, Nat.reduceBEq, Nat.reduceBNe, Nat.reduceLT, Nat.reduceDiv, Int.reduceNeg, Int.reduceLT, Int.reduceLE, Int.reduceEq, Int.reduceNe, Int.reduceAdd, Int.reduceSub, Int.reduceMul, Int.reduceToNat, Int.reduceBEq, Int.reduceBNe, fillP, fillE, okE, okW, bound, elS, srcS, Fin, finish, ress, resOf, one, keeps, ↓reduceIte, Dl.ap, Dl.slots, okD, isLp, zeros, reduceCtorEq, zdj, zdk, tf_law11_RecordCodes, Fr, Fs, bl_len, gt_iff_lt, f3, U1, U2, E0, M1, M2, S1, S2, bne_self_eq_false, D1, D2, a0, a1, b0, b1, c0, c1, d0, d1, S3, BEq.rfl, beq_self_eq_true, A0]
  · rw [if_pos rfl] at U1 U2
    refine callT_of rfl tab_law11_RecordCodes ?_
    simp (maxSteps := 4000000) only [↓set16, ↓sl16, zaa, zab, zac, zad, zz0, zz1, zz2, zz3, zz4, zae, zaf, zag, zah, zai, zaj, zak, zal, zam, zan, zao, zap, zaq, zar, zas, zat, zau, zav, zaw, zax, zay, zaz, zba, zbb, zbc, zbd, zbe, zbf, zbg, zbh, zbi, zbj, zbk, zbl, zbm, zbn, zbo, zbp, zbq, zbr, zbs, zbt, zbu, zbv, zbw, zbx, zby, zbz, zca, zcb, zcc, zcd, zce, zcf, zcg, zch, zci, zcj, zck, zcl, zcm, zcn, ne_eq, zco, zcp, zcq, zcr, zcs, List.replicate, zct, zcu, zcv, zcw, zcx, zcy, zcz, zda, zdb, zdc, zdd, zde, zdf, zdg, zdh, zdi, killT, delta, tak, ev, ad, taks, evs, nL, getH, pack, arith, callD, Nat.reduceAdd, Nat.reduceSub, Nat.reduceMul, Nat.reduceLeDiff, Nat.reduceEqDiff, Nat.reduceBEq, Nat.reduceBNe, Nat.reduceLT, Nat.reduceDiv, Int.reduceNeg, Int.reduceLT, Int.reduceLE, Int.reduceEq, Int.reduceNe, Int.reduceAdd, Int.reduceSub, Int.reduceMul, Int.reduceToNat, Int.reduceBEq, Int.reduceBNe, fillP, fillE, okE, okW, bound, elS, srcS, Fin, finish, ress, resOf, one, keeps, ↓reduceIte, Dl.ap, Dl.slots, okD, isLp, zeros, reduceCtorEq, zdj, zdk, tf_law11_RecordCodes, Fr, Fs, bl_len, gt_iff_lt, f3, U1, U2, E1, M1, M2, S1, S2, bne_self_eq_false, D1, D2, a0, a1, b0, b1, c0, c1, d0, d1, S3, BEq.rfl, beq_self_eq_true, A0]
  · rw [if_pos rfl] at U1 U2
    refine callT_of rfl tab_law11_RecordCodes ?_
    simp (maxSteps := 4000000) only [↓set16, ↓sl16, zaa, zab, zac, zad, zz0, zz1, zz2, zz3, zz4, zae, zaf, zag, zah, zai, zaj, zak, zal, zam, zan, zao, zap, zaq, zar, zas, zat, zau, zav, zaw, zax, zay, zaz, zba, zbb, zbc, zbd, zbe, zbf, zbg, zbh, zbi, zbj, zbk, zbl, zbm, zbn, zbo, zbp, zbq, zbr, zbs, zbt, zbu, zbv, zbw, zbx, zby, zbz, zca, zcb, zcc, zcd, zce, zcf, zcg, zch, zci, zcj, zck, zcl, zcm, zcn, ne_eq, zco, zcp, zcq, zcr, zcs, List.replicate, zct, zcu, zcv, zcw, zcx, zcy, zcz, zda, zdb, zdc, zdd, zde, zdf, zdg, zdh, zdi, killT, delta, tak, ev, ad, taks, evs, nL, getH, pack, arith, callD, Nat.reduceAdd, Nat.reduceSub, Nat.reduceMul, Nat.reduceLeDiff, Nat.reduceEqDiff, Nat.reduceBEq, Nat.reduceBNe, Nat.reduceLT, Nat.reduceDiv, Int.reduceNeg, Int.reduceLT, Int.reduceLE, Int.reduceEq, Int.reduceNe, Int.reduceAdd, Int.reduceSub, Int.reduceMul, Int.reduceToNat, Int.reduceBEq, Int.reduceBNe, fillP, fillE, okE, okW, bound, elS, srcS, Fin, finish, ress, resOf, one, keeps, ↓reduceIte, Dl.ap, Dl.slots, okD, isLp, zeros, reduceCtorEq, zdj, zdk, tf_law11_RecordCodes, Fr, Fs, bl_len, gt_iff_lt, f3, U1, U2, E1, M1, M2, S1, S2, bne_self_eq_false, D1, D2, a0, a1, b0, b1, c0, c1, d0, d1, S3, BEq.rfl, beq_self_eq_true, A0]
end Go.T
