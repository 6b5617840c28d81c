/- What the record's functions answer: a record, read as the document has it. -/
import Derived.Test.YtijmmpeadikkbaaOrec9
set_option linter.unusedVariables false
set_option linter.unusedSimpArgs false
set_option maxRecDepth 10000
set_option pp.deepTerms true
set_option pp.maxSteps 1000000
set_option maxHeartbeats 2000000
namespace Go.T
attribute [local irreducible] Run Back RS Ap
variable {K0 K H H0 : Heap} {i j : Nat} {s : RSt}
theorem RR.endC (h : RR H0 i s H) : CT n_ref02_Reader_End [.ptr i 0] H = some ⟨.int .i64 (endC s), H, false⟩ := h.end_
theorem endC_e {s : RSt} (he : s.2 ≠ 0 → s.1 = []) (h : s.2 ≠ 0) : endC s = s.2 := by
  unfold Go.T.endC; rw [he h]; simp
theorem rdRE_e {x : Rc} {s : RSt} (h : s.2 ≠ 0) : rdRE x s = s := by
  unfold rdRE
  by_cases hc : checkB x = true
  · rw [if_pos hc]
  · rw [if_neg hc, if_neg h]
theorem ref11_Decode (b : List Int) (hb : b.length ≤ 4000000) (hby : ∀ x ∈ b, 0 ≤ x ∧ x ≤ 255) : ∃ V W, RdB V (rdR b).1.en.dt ∧ RdB W (rdR b).1.sn ∧ CT n_ref11_Decode [.sl .shr (bl b)] H = some ⟨.tup [.agg ((rdR b).1.cells V W), .int .i64 (rdR b).2], H, false⟩ := by
  have O := ref02_Open (H := H) b hb
  have P0 := RR.open_ (H := H) b hb hby
  obtain ⟨K0', P1, C1⟩ := P0.num 4 (by decide)
  have hk1 := rN_nn 4 (b, 0)
  have hk2 := rN_le 4 (by decide) (b, 0)
  unfold rdR
  generalize rN 4 (b, 0) = a at *
  obtain ⟨k, s⟩ := a
  simp only at P1 C1 hk1 hk2
  generalize hZ : H ++ [[TV.sl .shr (bl b), .int .i64 0]] = Z at *
  have tz : ∀ K s, RR Z H.length s K → ∀ e, trim true H.length ⟨.tup [.agg [.int .i64 0, .int .i64 0, .int .i64 0, .int .i64 0, .int .i64 0, .int .i64 0, .nils, .int .i64 0, .int .i64 0, .nils], .int .i64 e], K, false⟩ = ⟨.tup [.agg [.int .i64 0, .int .i64 0, .int .i64 0, .int .i64 0, .int .i64 0, .int .i64 0, .nils, .int .i64 0, .int .i64 0, .nils], .int .i64 e], H, false⟩ := fun K s p e => by
    rw [← hZ] at p
    obtain ⟨x, rfl⟩ := p.drop
    exact trim_in rfl rfl
  have tv : ∀ K s, RR Z H.length s K → ∀ k t v x1 x2 x3 V x c W, rowT H.length (.tup [.agg [.int .i64 k, .int .i64 t, .int .i64 v, .int .i64 x1, .int .i64 x2, .int .i64 x3, V, .int .i64 x, .int .i64 c, W], .int .i64 0]) = [] → TV.lt H.length V = true → TV.lt H.length W = true → trim true H.length ⟨.tup [.agg [.int .i64 k, .int .i64 t, .int .i64 v, .int .i64 x1, .int .i64 x2, .int .i64 x3, V, .int .i64 x, .int .i64 c, W], .int .i64 0], K, false⟩ = ⟨.tup [.agg [.int .i64 k, .int .i64 t, .int .i64 v, .int .i64 x1, .int .i64 x2, .int .i64 x3, V, .int .i64 x, .int .i64 c, W], .int .i64 0], H, false⟩ := fun K s p k t v x1 x2 x3 V x c W hV hV2 hW2 => by
    rw [← hZ] at p
    obtain ⟨x, rfl⟩ := p.drop
    exact trim_in hV (by simp [TV.lt, TV.lts, hV2, hW2])
  have nb : bl [] = [] := rfl
  by_cases h1 : k = 1
  · have q1 : (k == 1) = true := by simp [h1]
    unfold rdBody
    rw [if_pos h1]
    try simp only
    obtain ⟨K1, p1, N1⟩ := P1.num 2147483648 (by decide)
    obtain ⟨K2, p2, N2⟩ := p1.num 2147483648 (by decide)
    obtain ⟨K3, p3, N3⟩ := p2.num 127 (by decide)
    obtain ⟨K4, p4, N4⟩ := p3.text 131072 (by decide)
    have hts := rT_size 131072 (by decide) (rN 127 (rN 2147483648 (rN 2147483648 s).2).2).2
    generalize rT 131072 (rN 127 (rN 2147483648 (rN 2147483648 s).2).2).2 = tx at *
    generalize rN 127 (rN 2147483648 (rN 2147483648 s).2).2 = t3 at *
    generalize rN 2147483648 (rN 2147483648 s).2 = t2 at *
    generalize rN 2147483648 s = t1 at *
    have hrm : tx.1.size ≤ roomB := by unfold roomB; omega
    try simp only
    have CK := ref11_Check (H := K4) ⟨k, t2.1, 0, zEn, t1.1, t3.1, strB tx.1⟩ (fun x hx => by cases hx) (strB_by _)
    rw [Rc.tv_eq] at CK
    simp only [zEn, nb] at CK
    have hR := p4.err
    by_cases h0 : tx.2.2 = 0
    · have hb0 : (tx.2.2 == 0) = true := by simp [h0]
      cases hc : checkB (⟨k, t2.1, 0, zEn, t1.1, t3.1, strB tx.1⟩ : Rc)
      · have hc' := hc
        try simp only [zEn] at hc'
        rw [hc', ckE_f] at CK
        obtain ⟨K5, p5, F1⟩ := p4.fail 3 (by decide)
        have es : rdRE (⟨k, t2.1, 0, zEn, t1.1, t3.1, strB tx.1⟩ : Rc) tx.2 = if tx.2.2 = 0 then ([], 3) else tx.2 := by unfold rdRE; rw [hc, if_neg (by simp)]
        rw [es]
        rw [if_pos h0] at p5 ⊢
        have EN := p5.endC
        have ee : endC (([], 3) : RSt) = 3 := rfl
        rw [ee, if_pos (by decide)]
        rw [ee] at EN
        have hz := tz K5 _ p5 3
        refine ⟨.nils, .nils, ⟨rfl, rfl⟩, ⟨rfl, rfl⟩, ?_⟩
        unfold Rc.cells zR zEn
        refine callT_of rfl tab_ref11_Decode ?_
        simp (maxSteps := 4000000) only [↓set16, ↓sl16, zaa, zab, zac, zad, zz0, zz1, zz2, zz3, zz4, zae, zaf, zag, zah, zai, zaj, zak, zal, zam, zan, zao, zap, zaq, zar, zas, zat, zau, zav, zaw, zax, zay, zaz, zba, zbb, zbc, zbd, zbe, zbf, zbg, zbh, zbi, zbj, zbk, zbl, zbm, zbn, zbo, zbp, zbq, zbr, zbs, zbt, zbu, zbv, zbw, zbx, zby, zbz, zca, zcb, zcc, zcd, zce, zcf, zcg, zch, zci, zcj, zck, zcl, zcm, zcn, ne_eq, zco, zcp, zcq, zcr, zcs, List.replicate, zct, zcu, zcv, zcw, zcx, zcy, zcz, zda, zdb, zdc, zdd, zde, zdf, zdg, zdh, zdi, killT, delta, tak, ev, ad, taks, evs, nL, getH, pack, arith, callD, Nat.reduceAdd, Nat.reduceSub, Nat.reduceMul, Nat.reduceLeDiff, Nat.reduceEqDiff, Nat.reduceBEq, Nat.reduceBNe, Nat.reduceLT, Nat.reduceDiv, Int.reduceNeg, Int.reduceLT, Int.reduceLE, Int.reduceEq, Int.reduceNe, Int.reduceAdd, Int.reduceSub, Int.reduceMul, Int.reduceToNat, Int.reduceBEq, Int.reduceBNe, fillP, fillE, okE, okW, bound, elS, srcS, Fin, finish, ress, resOf, one, keeps, ↓reduceIte, Dl.ap, Dl.slots, okD, isLp, zeros, reduceCtorEq, zdj, zdk, tf_ref11_Decode, jn_ref11_Decode_2, jn_ref11_Decode_1, q1, O, C1, hZ, N1, N2, N3, N4, hrm, ofBytes_bl, hR, nb, hb0, CK, show ((1 : Int) != 0) = true from rfl, show ((3 : Int) != 0) = true from rfl, F1, EN, hz]
      · have hc' := hc
        try simp only [zEn] at hc'
        rw [hc', ckE_t] at CK
        have es : rdRE (⟨k, t2.1, 0, zEn, t1.1, t3.1, strB tx.1⟩ : Rc) tx.2 = tx.2 := by unfold rdRE; rw [hc, if_pos rfl]
        rw [es]
        have EN := p4.endC
        by_cases h5 : endC tx.2 = 0
        · rw [if_neg (by simp [h5])]
          rw [h5] at EN
          have hv := tv K4 _ p4 k t2.1 0 0 0 0 (.nils) t1.1 t3.1 (.sl (.own 1 false) (bl (strB tx.1))) rfl (by simp [TV.lt, TV.lts, bl_lts]) (by simp [TV.lt, TV.lts, bl_lts])
          refine ⟨.nils, .sl (.own 1 false) (bl (strB tx.1)), ⟨rfl, rfl⟩, ⟨rfl, rfl⟩, ?_⟩
          unfold Rc.cells
          simp only [zEn]
          refine callT_of rfl tab_ref11_Decode ?_
          simp (maxSteps := 4000000) only [↓set16, ↓sl16, zaa, zab, zac, zad, zz0, zz1, zz2, zz3, zz4, zae, zaf, zag, zah, zai, zaj, zak, zal, zam, zan, zao, zap, zaq, zar, zas, zat, zau, zav, zaw, zax, zay, zaz, zba, zbb, zbc, zbd, zbe, zbf, zbg, zbh, zbi, zbj, zbk, zbl, zbm, zbn, zbo, zbp, zbq, zbr, zbs, zbt, zbu, zbv, zbw, zbx, zby, zbz, zca, zcb, zcc, zcd, zce, zcf, zcg, zch, zci, zcj, zck, zcl, zcm, zcn, ne_eq, zco, zcp, zcq, zcr, zcs, List.replicate, zct, zcu, zcv, zcw, zcx, zcy, zcz, zda, zdb, zdc, zdd, zde, zdf, zdg, zdh, zdi, killT, delta, tak, ev, ad, taks, evs, nL, getH, pack, arith, callD, Nat.reduceAdd, Nat.reduceSub, Nat.reduceMul, Nat.reduceLeDiff, Nat.reduceEqDiff, Nat.reduceBEq, Nat.reduceBNe, Nat.reduceLT, Nat.reduceDiv, Int.reduceNeg, Int.reduceLT, Int.reduceLE, Int.reduceEq, Int.reduceNe, Int.reduceAdd, Int.reduceSub, Int.reduceMul, Int.reduceToNat, Int.reduceBEq, Int.reduceBNe, fillP, fillE, okE, okW, bound, elS, srcS, Fin, finish, ress, resOf, one, keeps, ↓reduceIte, Dl.ap, Dl.slots, okD, isLp, zeros, reduceCtorEq, zdj, zdk, tf_ref11_Decode, jn_ref11_Decode_2, jn_ref11_Decode_1, q1, O, C1, hZ, N1, N2, N3, N4, hrm, ofBytes_bl, hR, nb, hb0, CK, bne_self_eq_false, EN, hv]
        · rw [if_pos h5]
          generalize endC tx.2 = e at *
          have hq : (e != 0) = true := by simp [h5]
          have hz := tz K4 _ p4 e
          refine ⟨.nils, .nils, ⟨rfl, rfl⟩, ⟨rfl, rfl⟩, ?_⟩
          unfold Rc.cells zR zEn
          refine callT_of rfl tab_ref11_Decode ?_
          simp (maxSteps := 4000000) only [↓set16, ↓sl16, zaa, zab, zac, zad, zz0, zz1, zz2, zz3, zz4, zae, zaf, zag, zah, zai, zaj, zak, zal, zam, zan, zao, zap, zaq, zar, zas, zat, zau, zav, zaw, zax, zay, zaz, zba, zbb, zbc, zbd, zbe, zbf, zbg, zbh, zbi, zbj, zbk, zbl, zbm, zbn, zbo, zbp, zbq, zbr, zbs, zbt, zbu, zbv, zbw, zbx, zby, zbz, zca, zcb, zcc, zcd, zce, zcf, zcg, zch, zci, zcj, zck, zcl, zcm, zcn, ne_eq, zco, zcp, zcq, zcr, zcs, List.replicate, zct, zcu, zcv, zcw, zcx, zcy, zcz, zda, zdb, zdc, zdd, zde, zdf, zdg, zdh, zdi, killT, delta, tak, ev, ad, taks, evs, nL, getH, pack, arith, callD, Nat.reduceAdd, Nat.reduceSub, Nat.reduceMul, Nat.reduceLeDiff, Nat.reduceEqDiff, Nat.reduceBEq, Nat.reduceBNe, Nat.reduceLT, Nat.reduceDiv, Int.reduceNeg, Int.reduceLT, Int.reduceLE, Int.reduceEq, Int.reduceNe, Int.reduceAdd, Int.reduceSub, Int.reduceMul, Int.reduceToNat, Int.reduceBEq, Int.reduceBNe, fillP, fillE, okE, okW, bound, elS, srcS, Fin, finish, ress, resOf, one, keeps, ↓reduceIte, Dl.ap, Dl.slots, okD, isLp, zeros, reduceCtorEq, zdj, zdk, tf_ref11_Decode, jn_ref11_Decode_2, jn_ref11_Decode_1, q1, O, C1, hZ, N1, N2, N3, N4, hrm, ofBytes_bl, hR, nb, hb0, CK, bne_self_eq_false, EN, hq, hz]
    · have hb0 : (tx.2.2 == 0) = false := by simp [h0]
      rw [rdRE_e h0]
      have EN := p4.endC
      rw [endC_e p4.er h0] at EN ⊢
      rw [if_pos h0]
      have hq : (tx.2.2 != 0) = true := by simp [h0]
      have hz := tz K4 _ p4 tx.2.2
      refine ⟨.nils, .nils, ⟨rfl, rfl⟩, ⟨rfl, rfl⟩, ?_⟩
      unfold Rc.cells zR zEn
      refine callT_of rfl tab_ref11_Decode ?_
      simp (maxSteps := 4000000) only [↓set16, ↓sl16, zaa, zab, zac, zad, zz0, zz1, zz2, zz3, zz4, zae, zaf, zag, zah, zai, zaj, zak, zal, zam, zan, zao, zap, zaq, zar, zas, zat, zau, zav, zaw, zax, zay, zaz, zba, zbb, zbc, zbd, zbe, zbf, zbg, zbh, zbi, zbj, zbk, zbl, zbm, zbn, zbo, zbp, zbq, zbr, zbs, zbt, zbu, zbv, zbw, zbx, zby, zbz, zca, zcb, zcc, zcd, zce, zcf, zcg, zch, zci, zcj, zck, zcl, zcm, zcn, ne_eq, zco, zcp, zcq, zcr, zcs, List.replicate, zct, zcu, zcv, zcw, zcx, zcy, zcz, zda, zdb, zdc, zdd, zde, zdf, zdg, zdh, zdi, killT, delta, tak, ev, ad, taks, evs, nL, getH, pack, arith, callD, Nat.reduceAdd, Nat.reduceSub, Nat.reduceMul, Nat.reduceLeDiff, Nat.reduceEqDiff, Nat.reduceBEq, Nat.reduceBNe, Nat.reduceLT, Nat.reduceDiv, Int.reduceNeg, Int.reduceLT, Int.reduceLE, Int.reduceEq, Int.reduceNe, Int.reduceAdd, Int.reduceSub, Int.reduceMul, Int.reduceToNat, Int.reduceBEq, Int.reduceBNe, fillP, fillE, okE, okW, bound, elS, srcS, Fin, finish, ress, resOf, one, keeps, ↓reduceIte, Dl.ap, Dl.slots, okD, isLp, zeros, reduceCtorEq, zdj, zdk, tf_ref11_Decode, jn_ref11_Decode_2, jn_ref11_Decode_1, q1, O, C1, hZ, N1, N2, N3, N4, hrm, ofBytes_bl, hR, nb, hb0, EN, hq, hz]
  have q1 : (k == 1) = false := by simp [h1]
  by_cases h2 : k = 2
  · have q2 : (k == 2) = true := by simp [h2]
    unfold rdBody
    rw [if_neg h1, if_pos h2]
    try simp only
    obtain ⟨K1, p1, N1⟩ := P1.num 2147483648 (by decide)
    obtain ⟨K2, p2, N2⟩ := p1.num 7 (by decide)
    generalize rN 7 (rN 2147483648 s).2 = t2 at *
    generalize rN 2147483648 s = t1 at *
    try simp only
    have CK := ref11_Check (H := K2) ⟨k, t1.1, t2.1, zEn, 0, 0, []⟩ (fun x hx => by cases hx) (fun x hx => by cases hx)
    rw [Rc.tv_eq] at CK
    simp only [zEn, nb] at CK
    have hR := p2.err
    by_cases h0 : t2.2.2 = 0
    · have hb0 : (t2.2.2 == 0) = true := by simp [h0]
      cases hc : checkB (⟨k, t1.1, t2.1, zEn, 0, 0, []⟩ : Rc)
      · have hc' := hc
        try simp only [zEn] at hc'
        rw [hc', ckE_f] at CK
        obtain ⟨K5, p5, F1⟩ := p2.fail 3 (by decide)
        have es : rdRE (⟨k, t1.1, t2.1, zEn, 0, 0, []⟩ : Rc) t2.2 = if t2.2.2 = 0 then ([], 3) else t2.2 := by unfold rdRE; rw [hc, if_neg (by simp)]
        rw [es]
        rw [if_pos h0] at p5 ⊢
        have EN := p5.endC
        have ee : endC (([], 3) : RSt) = 3 := rfl
        rw [ee, if_pos (by decide)]
        rw [ee] at EN
        have hz := tz K5 _ p5 3
        refine ⟨.nils, .nils, ⟨rfl, rfl⟩, ⟨rfl, rfl⟩, ?_⟩
        unfold Rc.cells zR zEn
        refine callT_of rfl tab_ref11_Decode ?_
        simp (maxSteps := 4000000) only [↓set16, ↓sl16, zaa, zab, zac, zad, zz0, zz1, zz2, zz3, zz4, zae, zaf, zag, zah, zai, zaj, zak, zal, zam, zan, zao, zap, zaq, zar, zas, zat, zau, zav, zaw, zax, zay, zaz, zba, zbb, zbc, zbd, zbe, zbf, zbg, zbh, zbi, zbj, zbk, zbl, zbm, zbn, zbo, zbp, zbq, zbr, zbs, zbt, zbu, zbv, zbw, zbx, zby, zbz, zca, zcb, zcc, zcd, zce, zcf, zcg, zch, zci, zcj, zck, zcl, zcm, zcn, ne_eq, zco, zcp, zcq, zcr, zcs, List.replicate, zct, zcu, zcv, zcw, zcx, zcy, zcz, zda, zdb, zdc, zdd, zde, zdf, zdg, zdh, zdi, killT, delta, tak, ev, ad, taks, evs, nL, getH, pack, arith, callD, Nat.reduceAdd, Nat.reduceSub, Nat.reduceMul, Nat.reduceLeDiff, Nat.reduceEqDiff, Nat.reduceBEq, Nat.reduceBNe, Nat.reduceLT, Nat.reduceDiv, Int.reduceNeg, Int.reduceLT, Int.reduceLE, Int.reduceEq, Int.reduceNe, Int.reduceAdd, Int.reduceSub, Int.reduceMul, Int.reduceToNat, Int.reduceBEq, Int.reduceBNe, fillP, fillE, okE, okW, bound, elS, srcS, Fin, finish, ress, resOf, one, keeps, ↓reduceIte, Dl.ap, Dl.slots, okD, isLp, zeros, reduceCtorEq, zdj, zdk, tf_ref11_Decode, jn_ref11_Decode_2, jn_ref11_Decode_1, q1, q2, O, C1, hZ, N1, N2, hR, nb, hb0, CK, show ((1 : Int) != 0) = true from rfl, show ((3 : Int) != 0) = true from rfl, F1, EN, hz]
      · have hc' := hc
        try simp only [zEn] at hc'
        rw [hc', ckE_t] at CK
        have es : rdRE (⟨k, t1.1, t2.1, zEn, 0, 0, []⟩ : Rc) t2.2 = t2.2 := by unfold rdRE; rw [hc, if_pos rfl]
        rw [es]
        have EN := p2.endC
        by_cases h5 : endC t2.2 = 0
        · rw [if_neg (by simp [h5])]
          rw [h5] at EN
          have hv := tv K2 _ p2 k t1.1 t2.1 0 0 0 (.nils) 0 0 (.nils) rfl (by simp [TV.lt, TV.lts, bl_lts]) (by simp [TV.lt, TV.lts, bl_lts])
          refine ⟨.nils, .nils, ⟨rfl, rfl⟩, ⟨rfl, rfl⟩, ?_⟩
          unfold Rc.cells
          simp only [zEn]
          refine callT_of rfl tab_ref11_Decode ?_
          simp (maxSteps := 4000000) only [↓set16, ↓sl16, zaa, zab, zac, zad, zz0, zz1, zz2, zz3, zz4, zae, zaf, zag, zah, zai, zaj, zak, zal, zam, zan, zao, zap, zaq, zar, zas, zat, zau, zav, zaw, zax, zay, zaz, zba, zbb, zbc, zbd, zbe, zbf, zbg, zbh, zbi, zbj, zbk, zbl, zbm, zbn, zbo, zbp, zbq, zbr, zbs, zbt, zbu, zbv, zbw, zbx, zby, zbz, zca, zcb, zcc, zcd, zce, zcf, zcg, zch, zci, zcj, zck, zcl, zcm, zcn, ne_eq, zco, zcp, zcq, zcr, zcs, List.replicate, zct, zcu, zcv, zcw, zcx, zcy, zcz, zda, zdb, zdc, zdd, zde, zdf, zdg, zdh, zdi, killT, delta, tak, ev, ad, taks, evs, nL, getH, pack, arith, callD, Nat.reduceAdd, Nat.reduceSub, Nat.reduceMul, Nat.reduceLeDiff, Nat.reduceEqDiff, Nat.reduceBEq, Nat.reduceBNe, Nat.reduceLT, Nat.reduceDiv, Int.reduceNeg, Int.reduceLT, Int.reduceLE, Int.reduceEq, Int.reduceNe, Int.reduceAdd, Int.reduceSub, Int.reduceMul, Int.reduceToNat, Int.reduceBEq, Int.reduceBNe, fillP, fillE, okE, okW, bound, elS, srcS, Fin, finish, ress, resOf, one, keeps, ↓reduceIte, Dl.ap, Dl.slots, okD, isLp, zeros, reduceCtorEq, zdj, zdk, tf_ref11_Decode, jn_ref11_Decode_2, jn_ref11_Decode_1, q1, q2, O, C1, hZ, N1, N2, hR, nb, hb0, CK, bne_self_eq_false, EN, hv]
        · rw [if_pos h5]
          generalize endC t2.2 = e at *
          have hq : (e != 0) = true := by simp [h5]
          have hz := tz K2 _ p2 e
          refine ⟨.nils, .nils, ⟨rfl, rfl⟩, ⟨rfl, rfl⟩, ?_⟩
          unfold Rc.cells zR zEn
          refine callT_of rfl tab_ref11_Decode ?_
          simp (maxSteps := 4000000) only [↓set16, ↓sl16, zaa, zab, zac, zad, zz0, zz1, zz2, zz3, zz4, zae, zaf, zag, zah, zai, zaj, zak, zal, zam, zan, zao, zap, zaq, zar, zas, zat, zau, zav, zaw, zax, zay, zaz, zba, zbb, zbc, zbd, zbe, zbf, zbg, zbh, zbi, zbj, zbk, zbl, zbm, zbn, zbo, zbp, zbq, zbr, zbs, zbt, zbu, zbv, zbw, zbx, zby, zbz, zca, zcb, zcc, zcd, zce, zcf, zcg, zch, zci, zcj, zck, zcl, zcm, zcn, ne_eq, zco, zcp, zcq, zcr, zcs, List.replicate, zct, zcu, zcv, zcw, zcx, zcy, zcz, zda, zdb, zdc, zdd, zde, zdf, zdg, zdh, zdi, killT, delta, tak, ev, ad, taks, evs, nL, getH, pack, arith, callD, Nat.reduceAdd, Nat.reduceSub, Nat.reduceMul, Nat.reduceLeDiff, Nat.reduceEqDiff, Nat.reduceBEq, Nat.reduceBNe, Nat.reduceLT, Nat.reduceDiv, Int.reduceNeg, Int.reduceLT, Int.reduceLE, Int.reduceEq, Int.reduceNe, Int.reduceAdd, Int.reduceSub, Int.reduceMul, Int.reduceToNat, Int.reduceBEq, Int.reduceBNe, fillP, fillE, okE, okW, bound, elS, srcS, Fin, finish, ress, resOf, one, keeps, ↓reduceIte, Dl.ap, Dl.slots, okD, isLp, zeros, reduceCtorEq, zdj, zdk, tf_ref11_Decode, jn_ref11_Decode_2, jn_ref11_Decode_1, q1, q2, O, C1, hZ, N1, N2, hR, nb, hb0, CK, bne_self_eq_false, EN, hq, hz]
    · have hb0 : (t2.2.2 == 0) = false := by simp [h0]
      rw [rdRE_e h0]
      have EN := p2.endC
      rw [endC_e p2.er h0] at EN ⊢
      rw [if_pos h0]
      have hq : (t2.2.2 != 0) = true := by simp [h0]
      have hz := tz K2 _ p2 t2.2.2
      refine ⟨.nils, .nils, ⟨rfl, rfl⟩, ⟨rfl, rfl⟩, ?_⟩
      unfold Rc.cells zR zEn
      refine callT_of rfl tab_ref11_Decode ?_
      simp (maxSteps := 4000000) only [↓set16, ↓sl16, zaa, zab, zac, zad, zz0, zz1, zz2, zz3, zz4, zae, zaf, zag, zah, zai, zaj, zak, zal, zam, zan, zao, zap, zaq, zar, zas, zat, zau, zav, zaw, zax, zay, zaz, zba, zbb, zbc, zbd, zbe, zbf, zbg, zbh, zbi, zbj, zbk, zbl, zbm, zbn, zbo, zbp, zbq, zbr, zbs, zbt, zbu, zbv, zbw, zbx, zby, zbz, zca, zcb, zcc, zcd, zce, zcf, zcg, zch, zci, zcj, zck, zcl, zcm, zcn, ne_eq, zco, zcp, zcq, zcr, zcs, List.replicate, zct, zcu, zcv, zcw, zcx, zcy, zcz, zda, zdb, zdc, zdd, zde, zdf, zdg, zdh, zdi, killT, delta, tak, ev, ad, taks, evs, nL, getH, pack, arith, callD, Nat.reduceAdd, Nat.reduceSub, Nat.reduceMul, Nat.reduceLeDiff, Nat.reduceEqDiff, Nat.reduceBEq, Nat.reduceBNe, Nat.reduceLT, Nat.reduceDiv, Int.reduceNeg, Int.reduceLT, Int.reduceLE, Int.reduceEq, Int.reduceNe, Int.reduceAdd, Int.reduceSub, Int.reduceMul, Int.reduceToNat, Int.reduceBEq, Int.reduceBNe, fillP, fillE, okE, okW, bound, elS, srcS, Fin, finish, ress, resOf, one, keeps, ↓reduceIte, Dl.ap, Dl.slots, okD, isLp, zeros, reduceCtorEq, zdj, zdk, tf_ref11_Decode, jn_ref11_Decode_2, jn_ref11_Decode_1, q1, q2, O, C1, hZ, N1, N2, hR, nb, hb0, EN, hq, hz]
  have q2 : (k == 2) = false := by simp [h2]
  by_cases h3 : k = 3
  · have q3 : (k == 3) = true := by simp [h3]
    unfold rdBody
    rw [if_neg h1, if_neg h2, if_pos h3]
    try simp only
    obtain ⟨K1, V, p1, hV, R1⟩ := P1.readE
    have hbd := rdEn_by s
    generalize rdEn s = te at *
    obtain ⟨⟨x1, x2, x3, dt⟩, s'⟩ := te
    simp only at p1 hV R1 hbd
    unfold En.tvw at R1
    try simp only
    rcases hV.or with ⟨rfl, rfl⟩ | ⟨g, rfl⟩
    · clear hV
      have CK := ref11_Check (H := K1) ⟨k, 0, 0, ⟨x1, x2, x3, []⟩, 0, 0, []⟩ hbd (fun x hx => by cases hx)
      rw [Rc.tv_eq] at CK
      simp only [zEn, nb] at CK
      have hR := p1.err
      by_cases h0 : s'.2 = 0
      · have hb0 : (s'.2 == 0) = true := by simp [h0]
        cases hc : checkB (⟨k, 0, 0, ⟨x1, x2, x3, []⟩, 0, 0, []⟩ : Rc)
        · have hc' := hc
          try simp only [zEn] at hc'
          rw [hc', ckE_f] at CK
          obtain ⟨K5, p5, F1⟩ := p1.fail 3 (by decide)
          have es : rdRE (⟨k, 0, 0, ⟨x1, x2, x3, []⟩, 0, 0, []⟩ : Rc) s' = if s'.2 = 0 then ([], 3) else s' := by unfold rdRE; rw [hc, if_neg (by simp)]
          rw [es]
          rw [if_pos h0] at p5 ⊢
          have EN := p5.endC
          have ee : endC (([], 3) : RSt) = 3 := rfl
          rw [ee, if_pos (by decide)]
          rw [ee] at EN
          have hz := tz K5 _ p5 3
          refine ⟨.nils, .nils, ⟨rfl, rfl⟩, ⟨rfl, rfl⟩, ?_⟩
          unfold Rc.cells zR zEn
          refine callT_of rfl tab_ref11_Decode ?_
          simp (maxSteps := 4000000) only [↓set16, ↓sl16, zaa, zab, zac, zad, zz0, zz1, zz2, zz3, zz4, zae, zaf, zag, zah, zai, zaj, zak, zal, zam, zan, zao, zap, zaq, zar, zas, zat, zau, zav, zaw, zax, zay, zaz, zba, zbb, zbc, zbd, zbe, zbf, zbg, zbh, zbi, zbj, zbk, zbl, zbm, zbn, zbo, zbp, zbq, zbr, zbs, zbt, zbu, zbv, zbw, zbx, zby, zbz, zca, zcb, zcc, zcd, zce, zcf, zcg, zch, zci, zcj, zck, zcl, zcm, zcn, ne_eq, zco, zcp, zcq, zcr, zcs, List.replicate, zct, zcu, zcv, zcw, zcx, zcy, zcz, zda, zdb, zdc, zdd, zde, zdf, zdg, zdh, zdi, killT, delta, tak, ev, ad, taks, evs, nL, getH, pack, arith, callD, Nat.reduceAdd, Nat.reduceSub, Nat.reduceMul, Nat.reduceLeDiff, Nat.reduceEqDiff, Nat.reduceBEq, Nat.reduceBNe, Nat.reduceLT, Nat.reduceDiv, Int.reduceNeg, Int.reduceLT, Int.reduceLE, Int.reduceEq, Int.reduceNe, Int.reduceAdd, Int.reduceSub, Int.reduceMul, Int.reduceToNat, Int.reduceBEq, Int.reduceBNe, fillP, fillE, okE, okW, bound, elS, srcS, Fin, finish, ress, resOf, one, keeps, ↓reduceIte, Dl.ap, Dl.slots, okD, isLp, zeros, reduceCtorEq, zdj, zdk, tf_ref11_Decode, jn_ref11_Decode_2, jn_ref11_Decode_1, q1, q2, q3, O, C1, hZ, R1, hR, nb, hb0, CK, show ((1 : Int) != 0) = true from rfl, show ((3 : Int) != 0) = true from rfl, F1, EN, hz]
        · have hc' := hc
          try simp only [zEn] at hc'
          rw [hc', ckE_t] at CK
          have es : rdRE (⟨k, 0, 0, ⟨x1, x2, x3, []⟩, 0, 0, []⟩ : Rc) s' = s' := by unfold rdRE; rw [hc, if_pos rfl]
          rw [es]
          have EN := p1.endC
          by_cases h5 : endC s' = 0
          · rw [if_neg (by simp [h5])]
            rw [h5] at EN
            have hv := tv K1 _ p1 k 0 0 x1 x2 x3 (.nils) 0 0 (.nils) rfl (by simp [TV.lt, TV.lts, bl_lts]) (by simp [TV.lt, TV.lts, bl_lts])
            refine ⟨.nils, .nils, ⟨rfl, rfl⟩, ⟨rfl, rfl⟩, ?_⟩
            unfold Rc.cells
            refine callT_of rfl tab_ref11_Decode ?_
            simp (maxSteps := 4000000) only [↓set16, ↓sl16, zaa, zab, zac, zad, zz0, zz1, zz2, zz3, zz4, zae, zaf, zag, zah, zai, zaj, zak, zal, zam, zan, zao, zap, zaq, zar, zas, zat, zau, zav, zaw, zax, zay, zaz, zba, zbb, zbc, zbd, zbe, zbf, zbg, zbh, zbi, zbj, zbk, zbl, zbm, zbn, zbo, zbp, zbq, zbr, zbs, zbt, zbu, zbv, zbw, zbx, zby, zbz, zca, zcb, zcc, zcd, zce, zcf, zcg, zch, zci, zcj, zck, zcl, zcm, zcn, ne_eq, zco, zcp, zcq, zcr, zcs, List.replicate, zct, zcu, zcv, zcw, zcx, zcy, zcz, zda, zdb, zdc, zdd, zde, zdf, zdg, zdh, zdi, killT, delta, tak, ev, ad, taks, evs, nL, getH, pack, arith, callD, Nat.reduceAdd, Nat.reduceSub, Nat.reduceMul, Nat.reduceLeDiff, Nat.reduceEqDiff, Nat.reduceBEq, Nat.reduceBNe, Nat.reduceLT, Nat.reduceDiv, Int.reduceNeg, Int.reduceLT, Int.reduceLE, Int.reduceEq, Int.reduceNe, Int.reduceAdd, Int.reduceSub, Int.reduceMul, Int.reduceToNat, Int.reduceBEq, Int.reduceBNe, fillP, fillE, okE, okW, bound, elS, srcS, Fin, finish, ress, resOf, one, keeps, ↓reduceIte, Dl.ap, Dl.slots, okD, isLp, zeros, reduceCtorEq, zdj, zdk, tf_ref11_Decode, jn_ref11_Decode_2, jn_ref11_Decode_1, q1, q2, q3, O, C1, hZ, R1, hR, nb, hb0, CK, bne_self_eq_false, EN, hv]
          · rw [if_pos h5]
            generalize endC s' = e at *
            have hq : (e != 0) = true := by simp [h5]
            have hz := tz K1 _ p1 e
            refine ⟨.nils, .nils, ⟨rfl, rfl⟩, ⟨rfl, rfl⟩, ?_⟩
            unfold Rc.cells zR zEn
            refine callT_of rfl tab_ref11_Decode ?_
            simp (maxSteps := 4000000) only [↓set16, ↓sl16, zaa, zab, zac, zad, zz0, zz1, zz2, zz3, zz4, zae, zaf, zag, zah, zai, zaj, zak, zal, zam, zan, zao, zap, zaq, zar, zas, zat, zau, zav, zaw, zax, zay, zaz, zba, zbb, zbc, zbd, zbe, zbf, zbg, zbh, zbi, zbj, zbk, zbl, zbm, zbn, zbo, zbp, zbq, zbr, zbs, zbt, zbu, zbv, zbw, zbx, zby, zbz, zca, zcb, zcc, zcd, zce, zcf, zcg, zch, zci, zcj, zck, zcl, zcm, zcn, ne_eq, zco, zcp, zcq, zcr, zcs, List.replicate, zct, zcu, zcv, zcw, zcx, zcy, zcz, zda, zdb, zdc, zdd, zde, zdf, zdg, zdh, zdi, killT, delta, tak, ev, ad, taks, evs, nL, getH, pack, arith, callD, Nat.reduceAdd, Nat.reduceSub, Nat.reduceMul, Nat.reduceLeDiff, Nat.reduceEqDiff, Nat.reduceBEq, Nat.reduceBNe, Nat.reduceLT, Nat.reduceDiv, Int.reduceNeg, Int.reduceLT, Int.reduceLE, Int.reduceEq, Int.reduceNe, Int.reduceAdd, Int.reduceSub, Int.reduceMul, Int.reduceToNat, Int.reduceBEq, Int.reduceBNe, fillP, fillE, okE, okW, bound, elS, srcS, Fin, finish, ress, resOf, one, keeps, ↓reduceIte, Dl.ap, Dl.slots, okD, isLp, zeros, reduceCtorEq, zdj, zdk, tf_ref11_Decode, jn_ref11_Decode_2, jn_ref11_Decode_1, q1, q2, q3, O, C1, hZ, R1, hR, nb, hb0, CK, bne_self_eq_false, EN, hq, hz]
      · have hb0 : (s'.2 == 0) = false := by simp [h0]
        rw [rdRE_e h0]
        have EN := p1.endC
        rw [endC_e p1.er h0] at EN ⊢
        rw [if_pos h0]
        have hq : (s'.2 != 0) = true := by simp [h0]
        have hz := tz K1 _ p1 s'.2
        refine ⟨.nils, .nils, ⟨rfl, rfl⟩, ⟨rfl, rfl⟩, ?_⟩
        unfold Rc.cells zR zEn
        refine callT_of rfl tab_ref11_Decode ?_
        simp (maxSteps := 4000000) only [↓set16, ↓sl16, zaa, zab, zac, zad, zz0, zz1, zz2, zz3, zz4, zae, zaf, zag, zah, zai, zaj, zak, zal, zam, zan, zao, zap, zaq, zar, zas, zat, zau, zav, zaw, zax, zay, zaz, zba, zbb, zbc, zbd, zbe, zbf, zbg, zbh, zbi, zbj, zbk, zbl, zbm, zbn, zbo, zbp, zbq, zbr, zbs, zbt, zbu, zbv, zbw, zbx, zby, zbz, zca, zcb, zcc, zcd, zce, zcf, zcg, zch, zci, zcj, zck, zcl, zcm, zcn, ne_eq, zco, zcp, zcq, zcr, zcs, List.replicate, zct, zcu, zcv, zcw, zcx, zcy, zcz, zda, zdb, zdc, zdd, zde, zdf, zdg, zdh, zdi, killT, delta, tak, ev, ad, taks, evs, nL, getH, pack, arith, callD, Nat.reduceAdd, Nat.reduceSub, Nat.reduceMul, Nat.reduceLeDiff, Nat.reduceEqDiff, Nat.reduceBEq, Nat.reduceBNe, Nat.reduceLT, Nat.reduceDiv, Int.reduceNeg, Int.reduceLT, Int.reduceLE, Int.reduceEq, Int.reduceNe, Int.reduceAdd, Int.reduceSub, Int.reduceMul, Int.reduceToNat, Int.reduceBEq, Int.reduceBNe, fillP, fillE, okE, okW, bound, elS, srcS, Fin, finish, ress, resOf, one, keeps, ↓reduceIte, Dl.ap, Dl.slots, okD, isLp, zeros, reduceCtorEq, zdj, zdk, tf_ref11_Decode, jn_ref11_Decode_2, jn_ref11_Decode_1, q1, q2, q3, O, C1, hZ, R1, hR, nb, hb0, EN, hq, hz]
    · clear hV
      have CK := ref11_Check (H := K1) ⟨k, 0, 0, ⟨x1, x2, x3, dt⟩, 0, 0, []⟩ hbd (fun x hx => by cases hx)
      rw [Rc.tv_eq] at CK
      simp only [zEn, nb] at CK
      have hR := p1.err
      by_cases h0 : s'.2 = 0
      · have hb0 : (s'.2 == 0) = true := by simp [h0]
        cases hc : checkB (⟨k, 0, 0, ⟨x1, x2, x3, dt⟩, 0, 0, []⟩ : Rc)
        · have hc' := hc
          try simp only [zEn] at hc'
          rw [hc', ckE_f] at CK
          obtain ⟨K5, p5, F1⟩ := p1.fail 3 (by decide)
          have es : rdRE (⟨k, 0, 0, ⟨x1, x2, x3, dt⟩, 0, 0, []⟩ : Rc) s' = if s'.2 = 0 then ([], 3) else s' := by unfold rdRE; rw [hc, if_neg (by simp)]
          rw [es]
          rw [if_pos h0] at p5 ⊢
          have EN := p5.endC
          have ee : endC (([], 3) : RSt) = 3 := rfl
          rw [ee, if_pos (by decide)]
          rw [ee] at EN
          have hz := tz K5 _ p5 3
          refine ⟨.nils, .nils, ⟨rfl, rfl⟩, ⟨rfl, rfl⟩, ?_⟩
          unfold Rc.cells zR zEn
          refine callT_of rfl tab_ref11_Decode ?_
          simp (maxSteps := 4000000) only [↓set16, ↓sl16, zaa, zab, zac, zad, zz0, zz1, zz2, zz3, zz4, zae, zaf, zag, zah, zai, zaj, zak, zal, zam, zan, zao, zap, zaq, zar, zas, zat, zau, zav, zaw, zax, zay, zaz, zba, zbb, zbc, zbd, zbe, zbf, zbg, zbh, zbi, zbj, zbk, zbl, zbm, zbn, zbo, zbp, zbq, zbr, zbs, zbt, zbu, zbv, zbw, zbx, zby, zbz, zca, zcb, zcc, zcd, zce, zcf, zcg, zch, zci, zcj, zck, zcl, zcm, zcn, ne_eq, zco, zcp, zcq, zcr, zcs, List.replicate, zct, zcu, zcv, zcw, zcx, zcy, zcz, zda, zdb, zdc, zdd, zde, zdf, zdg, zdh, zdi, killT, delta, tak, ev, ad, taks, evs, nL, getH, pack, arith, callD, Nat.reduceAdd, Nat.reduceSub, Nat.reduceMul, Nat.reduceLeDiff, Nat.reduceEqDiff, Nat.reduceBEq, Nat.reduceBNe, Nat.reduceLT, Nat.reduceDiv, Int.reduceNeg, Int.reduceLT, Int.reduceLE, Int.reduceEq, Int.reduceNe, Int.reduceAdd, Int.reduceSub, Int.reduceMul, Int.reduceToNat, Int.reduceBEq, Int.reduceBNe, fillP, fillE, okE, okW, bound, elS, srcS, Fin, finish, ress, resOf, one, keeps, ↓reduceIte, Dl.ap, Dl.slots, okD, isLp, zeros, reduceCtorEq, zdj, zdk, tf_ref11_Decode, jn_ref11_Decode_2, jn_ref11_Decode_1, q1, q2, q3, O, C1, hZ, R1, hR, nb, hb0, CK, show ((1 : Int) != 0) = true from rfl, show ((3 : Int) != 0) = true from rfl, F1, EN, hz]
        · have hc' := hc
          try simp only [zEn] at hc'
          rw [hc', ckE_t] at CK
          have es : rdRE (⟨k, 0, 0, ⟨x1, x2, x3, dt⟩, 0, 0, []⟩ : Rc) s' = s' := by unfold rdRE; rw [hc, if_pos rfl]
          rw [es]
          have EN := p1.endC
          by_cases h5 : endC s' = 0
          · rw [if_neg (by simp [h5])]
            rw [h5] at EN
            have hv := tv K1 _ p1 k 0 0 x1 x2 x3 (.sl g (bl dt)) 0 0 (.nils) rfl (by simp [TV.lt, TV.lts, bl_lts]) (by simp [TV.lt, TV.lts, bl_lts])
            refine ⟨.sl g (bl dt), .nils, ⟨rfl, rfl⟩, ⟨rfl, rfl⟩, ?_⟩
            unfold Rc.cells
            refine callT_of rfl tab_ref11_Decode ?_
            simp (maxSteps := 4000000) only [↓set16, ↓sl16, zaa, zab, zac, zad, zz0, zz1, zz2, zz3, zz4, zae, zaf, zag, zah, zai, zaj, zak, zal, zam, zan, zao, zap, zaq, zar, zas, zat, zau, zav, zaw, zax, zay, zaz, zba, zbb, zbc, zbd, zbe, zbf, zbg, zbh, zbi, zbj, zbk, zbl, zbm, zbn, zbo, zbp, zbq, zbr, zbs, zbt, zbu, zbv, zbw, zbx, zby, zbz, zca, zcb, zcc, zcd, zce, zcf, zcg, zch, zci, zcj, zck, zcl, zcm, zcn, ne_eq, zco, zcp, zcq, zcr, zcs, List.replicate, zct, zcu, zcv, zcw, zcx, zcy, zcz, zda, zdb, zdc, zdd, zde, zdf, zdg, zdh, zdi, killT, delta, tak, ev, ad, taks, evs, nL, getH, pack, arith, callD, Nat.reduceAdd, Nat.reduceSub, Nat.reduceMul, Nat.reduceLeDiff, Nat.reduceEqDiff, Nat.reduceBEq, Nat.reduceBNe, Nat.reduceLT, Nat.reduceDiv, Int.reduceNeg, Int.reduceLT, Int.reduceLE, Int.reduceEq, Int.reduceNe, Int.reduceAdd, Int.reduceSub, Int.reduceMul, Int.reduceToNat, Int.reduceBEq, Int.reduceBNe, fillP, fillE, okE, okW, bound, elS, srcS, Fin, finish, ress, resOf, one, keeps, ↓reduceIte, Dl.ap, Dl.slots, okD, isLp, zeros, reduceCtorEq, zdj, zdk, tf_ref11_Decode, jn_ref11_Decode_2, jn_ref11_Decode_1, q1, q2, q3, O, C1, hZ, R1, hR, nb, hb0, CK, bne_self_eq_false, EN, hv]
          · rw [if_pos h5]
            generalize endC s' = e at *
            have hq : (e != 0) = true := by simp [h5]
            have hz := tz K1 _ p1 e
            refine ⟨.nils, .nils, ⟨rfl, rfl⟩, ⟨rfl, rfl⟩, ?_⟩
            unfold Rc.cells zR zEn
            refine callT_of rfl tab_ref11_Decode ?_
            simp (maxSteps := 4000000) only [↓set16, ↓sl16, zaa, zab, zac, zad, zz0, zz1, zz2, zz3, zz4, zae, zaf, zag, zah, zai, zaj, zak, zal, zam, zan, zao, zap, zaq, zar, zas, zat, zau, zav, zaw, zax, zay, zaz, zba, zbb, zbc, zbd, zbe, zbf, zbg, zbh, zbi, zbj, zbk, zbl, zbm, zbn, zbo, zbp, zbq, zbr, zbs, zbt, zbu, zbv, zbw, zbx, zby, zbz, zca, zcb, zcc, zcd, zce, zcf, zcg, zch, zci, zcj, zck, zcl, zcm, zcn, ne_eq, zco, zcp, zcq, zcr, zcs, List.replicate, zct, zcu, zcv, zcw, zcx, zcy, zcz, zda, zdb, zdc, zdd, zde, zdf, zdg, zdh, zdi, killT, delta, tak, ev, ad, taks, evs, nL, getH, pack, arith, callD, Nat.reduceAdd, Nat.reduceSub, Nat.reduceMul, Nat.reduceLeDiff, Nat.reduceEqDiff, Nat.reduceBEq, Nat.reduceBNe, Nat.reduceLT, Nat.reduceDiv, Int.reduceNeg, Int.reduceLT, Int.reduceLE, Int.reduceEq, Int.reduceNe, Int.reduceAdd, Int.reduceSub, Int.reduceMul, Int.reduceToNat, Int.reduceBEq, Int.reduceBNe, fillP, fillE, okE, okW, bound, elS, srcS, Fin, finish, ress, resOf, one, keeps, ↓reduceIte, Dl.ap, Dl.slots, okD, isLp, zeros, reduceCtorEq, zdj, zdk, tf_ref11_Decode, jn_ref11_Decode_2, jn_ref11_Decode_1, q1, q2, q3, O, C1, hZ, R1, hR, nb, hb0, CK, bne_self_eq_false, EN, hq, hz]
      · have hb0 : (s'.2 == 0) = false := by simp [h0]
        rw [rdRE_e h0]
        have EN := p1.endC
        rw [endC_e p1.er h0] at EN ⊢
        rw [if_pos h0]
        have hq : (s'.2 != 0) = true := by simp [h0]
        have hz := tz K1 _ p1 s'.2
        refine ⟨.nils, .nils, ⟨rfl, rfl⟩, ⟨rfl, rfl⟩, ?_⟩
        unfold Rc.cells zR zEn
        refine callT_of rfl tab_ref11_Decode ?_
        simp (maxSteps := 4000000) only [↓set16, ↓sl16, zaa, zab, zac, zad, zz0, zz1, zz2, zz3, zz4, zae, zaf, zag, zah, zai, zaj, zak, zal, zam, zan, zao, zap, zaq, zar, zas, zat, zau, zav, zaw, zax, zay, zaz, zba, zbb, zbc, zbd, zbe, zbf, zbg, zbh, zbi, zbj, zbk, zbl, zbm, zbn, zbo, zbp, zbq, zbr, zbs, zbt, zbu, zbv, zbw, zbx, zby, zbz, zca, zcb, zcc, zcd, zce, zcf, zcg, zch, zci, zcj, zck, zcl, zcm, zcn, ne_eq, zco, zcp, zcq, zcr, zcs, List.replicate, zct, zcu, zcv, zcw, zcx, zcy, zcz, zda, zdb, zdc, zdd, zde, zdf, zdg, zdh, zdi, killT, delta, tak, ev, ad, taks, evs, nL, getH, pack, arith, callD, Nat.reduceAdd, Nat.reduceSub, Nat.reduceMul, Nat.reduceLeDiff, Nat.reduceEqDiff, Nat.reduceBEq, Nat.reduceBNe, Nat.reduceLT, Nat.reduceDiv, Int.reduceNeg, Int.reduceLT, Int.reduceLE, Int.reduceEq, Int.reduceNe, Int.reduceAdd, Int.reduceSub, Int.reduceMul, Int.reduceToNat, Int.reduceBEq, Int.reduceBNe, fillP, fillE, okE, okW, bound, elS, srcS, Fin, finish, ress, resOf, one, keeps, ↓reduceIte, Dl.ap, Dl.slots, okD, isLp, zeros, reduceCtorEq, zdj, zdk, tf_ref11_Decode, jn_ref11_Decode_2, jn_ref11_Decode_1, q1, q2, q3, O, C1, hZ, R1, hR, nb, hb0, EN, hq, hz]
  have q3 : (k == 3) = false := by simp [h3]
  by_cases h4 : k = 4
  · have q4 : (k == 4) = true := by simp [h4]
    unfold rdBody
    rw [if_neg h1, if_neg h2, if_neg h3, if_pos h4]
    try simp only
    obtain ⟨K1, p1, N1⟩ := P1.num 2147483648 (by decide)
    generalize rN 2147483648 s = t1 at *
    try simp only
    have CK := ref11_Check (H := K1) ⟨k, 0, 0, zEn, t1.1, 0, []⟩ (fun x hx => by cases hx) (fun x hx => by cases hx)
    rw [Rc.tv_eq] at CK
    simp only [zEn, nb] at CK
    have hR := p1.err
    by_cases h0 : t1.2.2 = 0
    · have hb0 : (t1.2.2 == 0) = true := by simp [h0]
      cases hc : checkB (⟨k, 0, 0, zEn, t1.1, 0, []⟩ : Rc)
      · have hc' := hc
        try simp only [zEn] at hc'
        rw [hc', ckE_f] at CK
        obtain ⟨K5, p5, F1⟩ := p1.fail 3 (by decide)
        have es : rdRE (⟨k, 0, 0, zEn, t1.1, 0, []⟩ : Rc) t1.2 = if t1.2.2 = 0 then ([], 3) else t1.2 := by unfold rdRE; rw [hc, if_neg (by simp)]
        rw [es]
        rw [if_pos h0] at p5 ⊢
        have EN := p5.endC
        have ee : endC (([], 3) : RSt) = 3 := rfl
        rw [ee, if_pos (by decide)]
        rw [ee] at EN
        have hz := tz K5 _ p5 3
        refine ⟨.nils, .nils, ⟨rfl, rfl⟩, ⟨rfl, rfl⟩, ?_⟩
        unfold Rc.cells zR zEn
        refine callT_of rfl tab_ref11_Decode ?_
        simp (maxSteps := 4000000) only [↓set16, ↓sl16, zaa, zab, zac, zad, zz0, zz1, zz2, zz3, zz4, zae, zaf, zag, zah, zai, zaj, zak, zal, zam, zan, zao, zap, zaq, zar, zas, zat, zau, zav, zaw, zax, zay, zaz, zba, zbb, zbc, zbd, zbe, zbf, zbg, zbh, zbi, zbj, zbk, zbl, zbm, zbn, zbo, zbp, zbq, zbr, zbs, zbt, zbu, zbv, zbw, zbx, zby, zbz, zca, zcb, zcc, zcd, zce, zcf, zcg, zch, zci, zcj, zck, zcl, zcm, zcn, ne_eq, zco, zcp, zcq, zcr, zcs, List.replicate, zct, zcu, zcv, zcw, zcx, zcy, zcz, zda, zdb, zdc, zdd, zde, zdf, zdg, zdh, zdi, killT, delta, tak, ev, ad, taks, evs, nL, getH, pack, arith, callD, Nat.reduceAdd, Nat.reduceSub, Nat.reduceMul, Nat.reduceLeDiff, Nat.reduceEqDiff, Nat.reduceBEq, Nat.reduceBNe, Nat.reduceLT, Nat.reduceDiv, Int.reduceNeg, Int.reduceLT, Int.reduceLE, Int.reduceEq, Int.reduceNe, Int.reduceAdd, Int.reduceSub, Int.reduceMul, Int.reduceToNat, Int.reduceBEq, Int.reduceBNe, fillP, fillE, okE, okW, bound, elS, srcS, Fin, finish, ress, resOf, one, keeps, ↓reduceIte, Dl.ap, Dl.slots, okD, isLp, zeros, reduceCtorEq, zdj, zdk, tf_ref11_Decode, jn_ref11_Decode_2, jn_ref11_Decode_1, q1, q2, q3, q4, O, C1, hZ, N1, hR, nb, hb0, CK, show ((1 : Int) != 0) = true from rfl, show ((3 : Int) != 0) = true from rfl, F1, EN, hz]
      · have hc' := hc
        try simp only [zEn] at hc'
        rw [hc', ckE_t] at CK
        have es : rdRE (⟨k, 0, 0, zEn, t1.1, 0, []⟩ : Rc) t1.2 = t1.2 := by unfold rdRE; rw [hc, if_pos rfl]
        rw [es]
        have EN := p1.endC
        by_cases h5 : endC t1.2 = 0
        · rw [if_neg (by simp [h5])]
          rw [h5] at EN
          have hv := tv K1 _ p1 k 0 0 0 0 0 (.nils) t1.1 0 (.nils) rfl (by simp [TV.lt, TV.lts, bl_lts]) (by simp [TV.lt, TV.lts, bl_lts])
          refine ⟨.nils, .nils, ⟨rfl, rfl⟩, ⟨rfl, rfl⟩, ?_⟩
          unfold Rc.cells
          simp only [zEn]
          refine callT_of rfl tab_ref11_Decode ?_
          simp (maxSteps := 4000000) only [↓set16, ↓sl16, zaa, zab, zac, zad, zz0, zz1, zz2, zz3, zz4, zae, zaf, zag, zah, zai, zaj, zak, zal, zam, zan, zao, zap, zaq, zar, zas, zat, zau, zav, zaw, zax, zay, zaz, zba, zbb, zbc, zbd, zbe, zbf, zbg, zbh, zbi, zbj, zbk, zbl, zbm, zbn, zbo, zbp, zbq, zbr, zbs, zbt, zbu, zbv, zbw, zbx, zby, zbz, zca, zcb, zcc, zcd, zce, zcf, zcg, zch, zci, zcj, zck, zcl, zcm, zcn, ne_eq, zco, zcp, zcq, zcr, zcs, List.replicate, zct, zcu, zcv, zcw, zcx, zcy, zcz, zda, zdb, zdc, zdd, zde, zdf, zdg, zdh, zdi, killT, delta, tak, ev, ad, taks, evs, nL, getH, pack, arith, callD, Nat.reduceAdd, Nat.reduceSub, Nat.reduceMul, Nat.reduceLeDiff, Nat.reduceEqDiff, Nat.reduceBEq, Nat.reduceBNe, Nat.reduceLT, Nat.reduceDiv, Int.reduceNeg, Int.reduceLT, Int.reduceLE, Int.reduceEq, Int.reduceNe, Int.reduceAdd, Int.reduceSub, Int.reduceMul, Int.reduceToNat, Int.reduceBEq, Int.reduceBNe, fillP, fillE, okE, okW, bound, elS, srcS, Fin, finish, ress, resOf, one, keeps, ↓reduceIte, Dl.ap, Dl.slots, okD, isLp, zeros, reduceCtorEq, zdj, zdk, tf_ref11_Decode, jn_ref11_Decode_2, jn_ref11_Decode_1, q1, q2, q3, q4, O, C1, hZ, N1, hR, nb, hb0, CK, bne_self_eq_false, EN, hv]
        · rw [if_pos h5]
          generalize endC t1.2 = e at *
          have hq : (e != 0) = true := by simp [h5]
          have hz := tz K1 _ p1 e
          refine ⟨.nils, .nils, ⟨rfl, rfl⟩, ⟨rfl, rfl⟩, ?_⟩
          unfold Rc.cells zR zEn
          refine callT_of rfl tab_ref11_Decode ?_
          simp (maxSteps := 4000000) only [↓set16, ↓sl16, zaa, zab, zac, zad, zz0, zz1, zz2, zz3, zz4, zae, zaf, zag, zah, zai, zaj, zak, zal, zam, zan, zao, zap, zaq, zar, zas, zat, zau, zav, zaw, zax, zay, zaz, zba, zbb, zbc, zbd, zbe, zbf, zbg, zbh, zbi, zbj, zbk, zbl, zbm, zbn, zbo, zbp, zbq, zbr, zbs, zbt, zbu, zbv, zbw, zbx, zby, zbz, zca, zcb, zcc, zcd, zce, zcf, zcg, zch, zci, zcj, zck, zcl, zcm, zcn, ne_eq, zco, zcp, zcq, zcr, zcs, List.replicate, zct, zcu, zcv, zcw, zcx, zcy, zcz, zda, zdb, zdc, zdd, zde, zdf, zdg, zdh, zdi, killT, delta, tak, ev, ad, taks, evs, nL, getH, pack, arith, callD, Nat.reduceAdd, Nat.reduceSub, Nat.reduceMul, Nat.reduceLeDiff, Nat.reduceEqDiff, Nat.reduceBEq, Nat.reduceBNe, Nat.reduceLT, Nat.reduceDiv, Int.reduceNeg, Int.reduceLT, Int.reduceLE, Int.reduceEq, Int.reduceNe, Int.reduceAdd, Int.reduceSub, Int.reduceMul, Int.reduceToNat, Int.reduceBEq, Int.reduceBNe, fillP, fillE, okE, okW, bound, elS, srcS, Fin, finish, ress, resOf, one, keeps, ↓reduceIte, Dl.ap, Dl.slots, okD, isLp, zeros, reduceCtorEq, zdj, zdk, tf_ref11_Decode, jn_ref11_Decode_2, jn_ref11_Decode_1, q1, q2, q3, q4, O, C1, hZ, N1, hR, nb, hb0, CK, bne_self_eq_false, EN, hq, hz]
    · have hb0 : (t1.2.2 == 0) = false := by simp [h0]
      rw [rdRE_e h0]
      have EN := p1.endC
      rw [endC_e p1.er h0] at EN ⊢
      rw [if_pos h0]
      have hq : (t1.2.2 != 0) = true := by simp [h0]
      have hz := tz K1 _ p1 t1.2.2
      refine ⟨.nils, .nils, ⟨rfl, rfl⟩, ⟨rfl, rfl⟩, ?_⟩
      unfold Rc.cells zR zEn
      refine callT_of rfl tab_ref11_Decode ?_
      simp (maxSteps := 4000000) only [↓set16, ↓sl16, zaa, zab, zac, zad, zz0, zz1, zz2, zz3, zz4, zae, zaf, zag, zah, zai, zaj, zak, zal, zam, zan, zao, zap, zaq, zar, zas, zat, zau, zav, zaw, zax, zay, zaz, zba, zbb, zbc, zbd, zbe, zbf, zbg, zbh, zbi, zbj, zbk, zbl, zbm, zbn, zbo, zbp, zbq, zbr, zbs, zbt, zbu, zbv, zbw, zbx, zby, zbz, zca, zcb, zcc, zcd, zce, zcf, zcg, zch, zci, zcj, zck, zcl, zcm, zcn, ne_eq, zco, zcp, zcq, zcr, zcs, List.replicate, zct, zcu, zcv, zcw, zcx, zcy, zcz, zda, zdb, zdc, zdd, zde, zdf, zdg, zdh, zdi, killT, delta, tak, ev, ad, taks, evs, nL, getH, pack, arith, callD, Nat.reduceAdd, Nat.reduceSub, Nat.reduceMul, Nat.reduceLeDiff, Nat.reduceEqDiff, Nat.reduceBEq, Nat.reduceBNe, Nat.reduceLT, Nat.reduceDiv, Int.reduceNeg, Int.reduceLT, Int.reduceLE, Int.reduceEq, Int.reduceNe, Int.reduceAdd, Int.reduceSub, Int.reduceMul, Int.reduceToNat, Int.reduceBEq, Int.reduceBNe, fillP, fillE, okE, okW, bound, elS, srcS, Fin, finish, ress, resOf, one, keeps, ↓reduceIte, Dl.ap, Dl.slots, okD, isLp, zeros, reduceCtorEq, zdj, zdk, tf_ref11_Decode, jn_ref11_Decode_2, jn_ref11_Decode_1, q1, q2, q3, q4, O, C1, hZ, N1, hR, nb, hb0, EN, hq, hz]
  have q4 : (k == 4) = false := by simp [h4]
  unfold rdBody
  rw [if_neg h1, if_neg h2, if_neg h3, if_neg h4]
  try simp only
  try simp only
  have CK := ref11_Check (H := K0') ⟨k, 0, 0, zEn, 0, 0, []⟩ (fun x hx => by cases hx) (fun x hx => by cases hx)
  rw [Rc.tv_eq] at CK
  simp only [zEn, nb] at CK
  have hR := P1.err
  by_cases h0 : s.2 = 0
  · have hb0 : (s.2 == 0) = true := by simp [h0]
    cases hc : checkB (⟨k, 0, 0, zEn, 0, 0, []⟩ : Rc)
    · have hc' := hc
      try simp only [zEn] at hc'
      rw [hc', ckE_f] at CK
      obtain ⟨K5, p5, F1⟩ := P1.fail 3 (by decide)
      have es : rdRE (⟨k, 0, 0, zEn, 0, 0, []⟩ : Rc) s = if s.2 = 0 then ([], 3) else s := by unfold rdRE; rw [hc, if_neg (by simp)]
      rw [es]
      rw [if_pos h0] at p5 ⊢
      have EN := p5.endC
      have ee : endC (([], 3) : RSt) = 3 := rfl
      rw [ee, if_pos (by decide)]
      rw [ee] at EN
      have hz := tz K5 _ p5 3
      refine ⟨.nils, .nils, ⟨rfl, rfl⟩, ⟨rfl, rfl⟩, ?_⟩
      unfold Rc.cells zR zEn
      refine callT_of rfl tab_ref11_Decode ?_
      simp (maxSteps := 4000000) only [↓set16, ↓sl16, zaa, zab, zac, zad, zz0, zz1, zz2, zz3, zz4, zae, zaf, zag, zah, zai, zaj, zak, zal, zam, zan, zao, zap, zaq, zar, zas, zat, zau, zav, zaw, zax, zay, zaz, zba, zbb, zbc, zbd, zbe, zbf, zbg, zbh, zbi, zbj, zbk, zbl, zbm, zbn, zbo, zbp, zbq, zbr, zbs, zbt, zbu, zbv, zbw, zbx, zby, zbz, zca, zcb, zcc, zcd, zce, zcf, zcg, zch, zci, zcj, zck, zcl, zcm, zcn, ne_eq, zco, zcp, zcq, zcr, zcs, List.replicate, zct, zcu, zcv, zcw, zcx, zcy, zcz, zda, zdb, zdc, zdd, zde, zdf, zdg, zdh, zdi, killT, delta, tak, ev, ad, taks, evs, nL, getH, pack, arith, callD, Nat.reduceAdd, Nat.reduceSub, Nat.reduceMul, Nat.reduceLeDiff, Nat.reduceEqDiff, Nat.reduceBEq, Nat.reduceBNe, Nat.reduceLT, Nat.reduceDiv, Int.reduceNeg, Int.reduceLT, Int.reduceLE, Int.reduceEq, Int.reduceNe, Int.reduceAdd, Int.reduceSub, Int.reduceMul, Int.reduceToNat, Int.reduceBEq, Int.reduceBNe, fillP, fillE, okE, okW, bound, elS, srcS, Fin, finish, ress, resOf, one, keeps, ↓reduceIte, Dl.ap, Dl.slots, okD, isLp, zeros, reduceCtorEq, zdj, zdk, tf_ref11_Decode, jn_ref11_Decode_2, jn_ref11_Decode_1, q1, q2, q3, q4, O, C1, hZ, C1, hR, nb, hb0, CK, show ((1 : Int) != 0) = true from rfl, show ((3 : Int) != 0) = true from rfl, F1, EN, hz]
    · have hc' := hc
      try simp only [zEn] at hc'
      rw [hc', ckE_t] at CK
      have es : rdRE (⟨k, 0, 0, zEn, 0, 0, []⟩ : Rc) s = s := by unfold rdRE; rw [hc, if_pos rfl]
      rw [es]
      have EN := P1.endC
      by_cases h5 : endC s = 0
      · rw [if_neg (by simp [h5])]
        rw [h5] at EN
        have hv := tv K0' _ P1 k 0 0 0 0 0 (.nils) 0 0 (.nils) rfl (by simp [TV.lt, TV.lts, bl_lts]) (by simp [TV.lt, TV.lts, bl_lts])
        refine ⟨.nils, .nils, ⟨rfl, rfl⟩, ⟨rfl, rfl⟩, ?_⟩
        unfold Rc.cells
        simp only [zEn]
        refine callT_of rfl tab_ref11_Decode ?_
        simp (maxSteps := 4000000) only [↓set16, ↓sl16, zaa, zab, zac, zad, zz0, zz1, zz2, zz3, zz4, zae, zaf, zag, zah, zai, zaj, zak, zal, zam, zan, zao, zap, zaq, zar, zas, zat, zau, zav, zaw, zax, zay, zaz, zba, zbb, zbc, zbd, zbe, zbf, zbg, zbh, zbi, zbj, zbk, zbl, zbm, zbn, zbo, zbp, zbq, zbr, zbs, zbt, zbu, zbv, zbw, zbx, zby, zbz, zca, zcb, zcc, zcd, zce, zcf, zcg, zch, zci, zcj, zck, zcl, zcm, zcn, ne_eq, zco, zcp, zcq, zcr, zcs, List.replicate, zct, zcu, zcv, zcw, zcx, zcy, zcz, zda, zdb, zdc, zdd, zde, zdf, zdg, zdh, zdi, killT, delta, tak, ev, ad, taks, evs, nL, getH, pack, arith, callD, Nat.reduceAdd, Nat.reduceSub, Nat.reduceMul, Nat.reduceLeDiff, Nat.reduceEqDiff, Nat.reduceBEq, Nat.reduceBNe, Nat.reduceLT, Nat.reduceDiv, Int.reduceNeg, Int.reduceLT, Int.reduceLE, Int.reduceEq, Int.reduceNe, Int.reduceAdd, Int.reduceSub, Int.reduceMul, Int.reduceToNat, Int.reduceBEq, Int.reduceBNe, fillP, fillE, okE, okW, bound, elS, srcS, Fin, finish, ress, resOf, one, keeps, ↓reduceIte, Dl.ap, Dl.slots, okD, isLp, zeros, reduceCtorEq, zdj, zdk, tf_ref11_Decode, jn_ref11_Decode_2, jn_ref11_Decode_1, q1, q2, q3, q4, O, C1, hZ, C1, hR, nb, hb0, CK, bne_self_eq_false, EN, hv]
      · rw [if_pos h5]
        generalize endC s = e at *
        have hq : (e != 0) = true := by simp [h5]
        have hz := tz K0' _ P1 e
        refine ⟨.nils, .nils, ⟨rfl, rfl⟩, ⟨rfl, rfl⟩, ?_⟩
        unfold Rc.cells zR zEn
        refine callT_of rfl tab_ref11_Decode ?_
        simp (maxSteps := 4000000) only [↓set16, ↓sl16, zaa, zab, zac, zad, zz0, zz1, zz2, zz3, zz4, zae, zaf, zag, zah, zai, zaj, zak, zal, zam, zan, zao, zap, zaq, zar, zas, zat, zau, zav, zaw, zax, zay, zaz, zba, zbb, zbc, zbd, zbe, zbf, zbg, zbh, zbi, zbj, zbk, zbl, zbm, zbn, zbo, zbp, zbq, zbr, zbs, zbt, zbu, zbv, zbw, zbx, zby, zbz, zca, zcb, zcc, zcd, zce, zcf, zcg, zch, zci, zcj, zck, zcl, zcm, zcn, ne_eq, zco, zcp, zcq, zcr, zcs, List.replicate, zct, zcu, zcv, zcw, zcx, zcy, zcz, zda, zdb, zdc, zdd, zde, zdf, zdg, zdh, zdi, killT, delta, tak, ev, ad, taks, evs, nL, getH, pack, arith, callD, Nat.reduceAdd, Nat.reduceSub, Nat.reduceMul, Nat.reduceLeDiff, Nat.reduceEqDiff, Nat.reduceBEq, Nat.reduceBNe, Nat.reduceLT, Nat.reduceDiv, Int.reduceNeg, Int.reduceLT, Int.reduceLE, Int.reduceEq, Int.reduceNe, Int.reduceAdd, Int.reduceSub, Int.reduceMul, Int.reduceToNat, Int.reduceBEq, Int.reduceBNe, fillP, fillE, okE, okW, bound, elS, srcS, Fin, finish, ress, resOf, one, keeps, ↓reduceIte, Dl.ap, Dl.slots, okD, isLp, zeros, reduceCtorEq, zdj, zdk, tf_ref11_Decode, jn_ref11_Decode_2, jn_ref11_Decode_1, q1, q2, q3, q4, O, C1, hZ, C1, hR, nb, hb0, CK, bne_self_eq_false, EN, hq, hz]
  · have hb0 : (s.2 == 0) = false := by simp [h0]
    rw [rdRE_e h0]
    have EN := P1.endC
    rw [endC_e P1.er h0] at EN ⊢
    rw [if_pos h0]
    have hq : (s.2 != 0) = true := by simp [h0]
    have hz := tz K0' _ P1 s.2
    refine ⟨.nils, .nils, ⟨rfl, rfl⟩, ⟨rfl, rfl⟩, ?_⟩
    unfold Rc.cells zR zEn
    refine callT_of rfl tab_ref11_Decode ?_
    simp (maxSteps := 4000000) only [↓set16, ↓sl16, zaa, zab, zac, zad, zz0, zz1, zz2, zz3, zz4, zae, zaf, zag, zah, zai, zaj, zak, zal, zam, zan, zao, zap, zaq, zar, zas, zat, zau, zav, zaw, zax, zay, zaz, zba, zbb, zbc, zbd, zbe, zbf, zbg, zbh, zbi, zbj, zbk, zbl, zbm, zbn, zbo, zbp, zbq, zbr, zbs, zbt, zbu, zbv, zbw, zbx, zby, zbz, zca, zcb, zcc, zcd, zce, zcf, zcg, zch, zci, zcj, zck, zcl, zcm, zcn, ne_eq, zco, zcp, zcq, zcr, zcs, List.replicate, zct, zcu, zcv, zcw, zcx, zcy, zcz, zda, zdb, zdc, zdd, zde, zdf, zdg, zdh, zdi, killT, delta, tak, ev, ad, taks, evs, nL, getH, pack, arith, callD, Nat.reduceAdd, Nat.reduceSub, Nat.reduceMul, Nat.reduceLeDiff, Nat.reduceEqDiff, Nat.reduceBEq, Nat.reduceBNe, Nat.reduceLT, Nat.reduceDiv, Int.reduceNeg, Int.reduceLT, Int.reduceLE, Int.reduceEq, Int.reduceNe, Int.reduceAdd, Int.reduceSub, Int.reduceMul, Int.reduceToNat, Int.reduceBEq, Int.reduceBNe, fillP, fillE, okE, okW, bound, elS, srcS, Fin, finish, ress, resOf, one, keeps, ↓reduceIte, Dl.ap, Dl.slots, okD, isLp, zeros, reduceCtorEq, zdj, zdk, tf_ref11_Decode, jn_ref11_Decode_2, jn_ref11_Decode_1, q1, q2, q3, q4, O, C1, hZ, C1, hR, nb, hb0, EN, hq, hz]
end Go.T
