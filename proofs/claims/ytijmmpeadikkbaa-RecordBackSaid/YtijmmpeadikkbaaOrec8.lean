/- What the record's functions answer: a record's bytes. -/
import Derived.Test.YtijmmpeadikkbaaOrec7
set_option linter.unusedVariables false
set_option linter.unusedSimpArgs false
set_option maxRecDepth 10000
set_option pp.deepTerms true
set_option pp.maxSteps 1000000
set_option maxHeartbeats 2000000
namespace Go.T
attribute [local irreducible] Run Back RS Ap
variable {H H0 : Heap} {i j : Nat} {s : RSt}
/-- A record's bytes. -/
def encR (r : Rc) : List Int := if r.kd = 1 then putAll (numB r.kd) [r.ix, r.tm, r.cf] ++ numB r.sn.length ++ r.sn else if r.kd = 2 then putAll (numB r.kd) [r.tm, r.vo] else if r.kd = 3 then putE (numB r.kd) r.en else putAll (numB r.kd) [r.ix]
structure Rc.small (r : Rc) : Prop where
  sn : r.sn.length ≤ 1000000
  dt : r.en.dt.length ≤ 1000000
theorem ckE_t : ckE true = 0 := rfl
theorem ckE_f : ckE false = 1 := rfl
theorem checkB_kd {r : Rc} (h : checkB r = true) : 1 ≤ r.kd ∧ r.kd ≤ 4 := by
  unfold checkB at h
  rw [Bool.and_eq_true] at h
  exact within_iff.1 h.1
theorem ref11_Encode (r : Rc) (hr : r.ok) (hs : r.small) : ∃ g, CT n_ref11_Encode [r.tv] H = some ⟨if checkB r = true then .tup [.sl g (bl (encR r)), .int .i64 0] else .tup [.nils, .int .i64 1], H, false⟩ := by
  have C := ref11_Check (H := H) r hr.en.dt hr.sn
  have nb : bl [] = [] := rfl
  have N0 := ref02_Num (H := H) [] r.kd hr.kd (by simp)
  rw [nb, List.nil_append] at N0
  have l0 := numB_len r.kd
  rw [Rc.tv_eq] at C ⊢
  cases hc : checkB r <;> rw [hc] at C
  · rw [ckE_f] at C
    refine ⟨.shr, ?_⟩
    rw [if_neg (by simp)]
    refine callT_of rfl tab_ref11_Encode ?_
    simp (maxSteps := 4000000) only [↓set16, ↓sl16, zaa, zab, zac, zad, zz0, zz1, zz2, zz3, zz4, zae, zaf, zag, zah, zai, zaj, zak, zal, zam, zan, zao, zap, zaq, zar, zas, zat, zau, zav, zaw, zax, zay, zaz, zba, zbb, zbc, zbd, zbe, zbf, zbg, zbh, zbi, zbj, zbk, zbl, zbm, zbn, zbo, zbp, zbq, zbr, zbs, zbt, zbu, zbv, zbw, zbx, zby, zbz, zca, zcb, zcc, zcd, zce, zcf, zcg, zch, zci, zcj, zck, zcl, zcm, zcn, ne_eq, zco, zcp, zcq, zcr, zcs, List.replicate, zct, zcu, zcv, zcw, zcx, zcy, zcz, zda, zdb, zdc, zdd, zde, zdf, zdg, zdh, zdi, killT, delta, tak, ev, ad, taks, evs, nL, getH, pack, arith, callD, Nat.reduceAdd, Nat.reduceSub, Nat.reduceMul, Nat.reduceLeDiff, Nat.reduceEqDiff, Nat.reduceBEq, Nat.reduceBNe, Nat.reduceLT, Nat.reduceDiv, Int.reduceNeg, Int.reduceLT, Int.reduceLE, Int.reduceEq, Int.reduceNe, Int.reduceAdd, Int.reduceSub, Int.reduceMul, Int.reduceToNat, Int.reduceBEq, Int.reduceBNe, fillP, fillE, okE, okW, bound, elS, srcS, Fin, finish, ress, resOf, one, keeps, ↓reduceIte, Dl.ap, Dl.slots, okD, isLp, zeros, reduceCtorEq, zdj, zdk, tf_ref11_Encode, C]
  have hk := checkB_kd hc
  rw [ckE_t] at C
  simp only [if_true]
  unfold encR
  by_cases h1 : r.kd = 1
  · have q1 : (r.kd == 1) = true := by simp [h1]
    rw [if_pos h1]
    have b1 := numB_len r.ix
    have b2 := numB_len r.tm
    have b3 := numB_len r.cf
    have P1 := ref02_Num (H := H) (numB r.kd) r.ix hr.ix (by omega)
    have P2 := ref02_Num (H := H) (numB r.kd ++ numB r.ix) r.tm hr.tm (by rw [List.length_append]; omega)
    have P3 := ref02_Num (H := H) (numB r.kd ++ numB r.ix ++ numB r.tm) r.cf hr.cf (by simp only [List.length_append]; omega)
    have P4 := ref02_Text (H := H) (numB r.kd ++ numB r.ix ++ numB r.tm ++ numB r.cf) (strOf r.sn) (by simp only [List.length_append]; omega) (by rw [strOf_size]; have := hs.sn; omega)
    rw [strB_strOf _ hr.sn, strOf_size] at P4
    have e2 : numB r.kd ++ numB r.ix ++ numB r.tm ++ numB r.cf = putAll (numB r.kd) [r.ix, r.tm, r.cf] := rfl
    rw [e2] at P3 P4
    generalize putAll (numB r.kd) [r.ix, r.tm, r.cf] = B3 at *
    generalize numB r.kd ++ numB r.ix ++ numB r.tm = B2 at *
    generalize numB r.kd ++ numB r.ix = B1 at *
    generalize numB r.kd = B0 at *
    have hby := bl_byte r.sn
    unfold strOf at P4
    refine ⟨.own 1 false, ?_⟩
    refine callT_of rfl tab_ref11_Encode ?_
    simp (maxSteps := 4000000) only [↓set16, ↓sl16, zaa, zab, zac, zad, zz0, zz1, zz2, zz3, zz4, zae, zaf, zag, zah, zai, zaj, zak, zal, zam, zan, zao, zap, zaq, zar, zas, zat, zau, zav, zaw, zax, zay, zaz, zba, zbb, zbc, zbd, zbe, zbf, zbg, zbh, zbi, zbj, zbk, zbl, zbm, zbn, zbo, zbp, zbq, zbr, zbs, zbt, zbu, zbv, zbw, zbx, zby, zbz, zca, zcb, zcc, zcd, zce, zcf, zcg, zch, zci, zcj, zck, zcl, zcm, zcn, ne_eq, zco, zcp, zcq, zcr, zcs, List.replicate, zct, zcu, zcv, zcw, zcx, zcy, zcz, zda, zdb, zdc, zdd, zde, zdf, zdg, zdh, zdi, killT, delta, tak, ev, ad, taks, evs, nL, getH, pack, arith, callD, Nat.reduceAdd, Nat.reduceSub, Nat.reduceMul, Nat.reduceLeDiff, Nat.reduceEqDiff, Nat.reduceBEq, Nat.reduceBNe, Nat.reduceLT, Nat.reduceDiv, Int.reduceNeg, Int.reduceLT, Int.reduceLE, Int.reduceEq, Int.reduceNe, Int.reduceAdd, Int.reduceSub, Int.reduceMul, Int.reduceToNat, Int.reduceBEq, Int.reduceBNe, fillP, fillE, okE, okW, bound, elS, srcS, Fin, finish, ress, resOf, one, keeps, ↓reduceIte, Dl.ap, Dl.slots, okD, isLp, zeros, reduceCtorEq, zdj, zdk, tf_ref11_Encode, C, N0, q1, P1, P2, P3, hby, P4]
  have q1 : (r.kd == 1) = false := by simp [h1]
  rw [if_neg h1]
  by_cases h2 : r.kd = 2
  · have q2 : (r.kd == 2) = true := by simp [h2]
    rw [if_pos h2]
    have b1 := numB_len r.tm
    have P1 := ref02_Num (H := H) (numB r.kd) r.tm hr.tm (by omega)
    have P2 := ref02_Num (H := H) (numB r.kd ++ numB r.tm) r.vo hr.vo (by rw [List.length_append]; omega)
    have e2 : numB r.kd ++ numB r.tm ++ numB r.vo = putAll (numB r.kd) [r.tm, r.vo] := rfl
    rw [e2] at P2
    generalize putAll (numB r.kd) [r.tm, r.vo] = B3 at *
    generalize numB r.kd ++ numB r.tm = B1 at *
    generalize numB r.kd = B0 at *
    refine ⟨.own 1 false, ?_⟩
    refine callT_of rfl tab_ref11_Encode ?_
    simp (maxSteps := 4000000) only [↓set16, ↓sl16, zaa, zab, zac, zad, zz0, zz1, zz2, zz3, zz4, zae, zaf, zag, zah, zai, zaj, zak, zal, zam, zan, zao, zap, zaq, zar, zas, zat, zau, zav, zaw, zax, zay, zaz, zba, zbb, zbc, zbd, zbe, zbf, zbg, zbh, zbi, zbj, zbk, zbl, zbm, zbn, zbo, zbp, zbq, zbr, zbs, zbt, zbu, zbv, zbw, zbx, zby, zbz, zca, zcb, zcc, zcd, zce, zcf, zcg, zch, zci, zcj, zck, zcl, zcm, zcn, ne_eq, zco, zcp, zcq, zcr, zcs, List.replicate, zct, zcu, zcv, zcw, zcx, zcy, zcz, zda, zdb, zdc, zdd, zde, zdf, zdg, zdh, zdi, killT, delta, tak, ev, ad, taks, evs, nL, getH, pack, arith, callD, Nat.reduceAdd, Nat.reduceSub, Nat.reduceMul, Nat.reduceLeDiff, Nat.reduceEqDiff, Nat.reduceBEq, Nat.reduceBNe, Nat.reduceLT, Nat.reduceDiv, Int.reduceNeg, Int.reduceLT, Int.reduceLE, Int.reduceEq, Int.reduceNe, Int.reduceAdd, Int.reduceSub, Int.reduceMul, Int.reduceToNat, Int.reduceBEq, Int.reduceBNe, fillP, fillE, okE, okW, bound, elS, srcS, Fin, finish, ress, resOf, one, keeps, ↓reduceIte, Dl.ap, Dl.slots, okD, isLp, zeros, reduceCtorEq, zdj, zdk, tf_ref11_Encode, C, N0, q1, q2, P1, P2]
  have q2 : (r.kd == 2) = false := by simp [h2]
  rw [if_neg h2]
  by_cases h3 : r.kd = 3
  · have q3 : (r.kd == 3) = true := by simp [h3]
    rw [if_pos h3]
    obtain ⟨g, U⟩ := ref11_PutEntry (H := H) (numB r.kd) r.en hr.en (by omega) hs.dt
    rw [En.tv_eq] at U
    generalize numB r.kd = B0 at *
    refine ⟨g, ?_⟩
    refine callT_of rfl tab_ref11_Encode ?_
    simp (maxSteps := 4000000) only [↓set16, ↓sl16, zaa, zab, zac, zad, zz0, zz1, zz2, zz3, zz4, zae, zaf, zag, zah, zai, zaj, zak, zal, zam, zan, zao, zap, zaq, zar, zas, zat, zau, zav, zaw, zax, zay, zaz, zba, zbb, zbc, zbd, zbe, zbf, zbg, zbh, zbi, zbj, zbk, zbl, zbm, zbn, zbo, zbp, zbq, zbr, zbs, zbt, zbu, zbv, zbw, zbx, zby, zbz, zca, zcb, zcc, zcd, zce, zcf, zcg, zch, zci, zcj, zck, zcl, zcm, zcn, ne_eq, zco, zcp, zcq, zcr, zcs, List.replicate, zct, zcu, zcv, zcw, zcx, zcy, zcz, zda, zdb, zdc, zdd, zde, zdf, zdg, zdh, zdi, killT, delta, tak, ev, ad, taks, evs, nL, getH, pack, arith, callD, Nat.reduceAdd, Nat.reduceSub, Nat.reduceMul, Nat.reduceLeDiff, Nat.reduceEqDiff, Nat.reduceBEq, Nat.reduceBNe, Nat.reduceLT, Nat.reduceDiv, Int.reduceNeg, Int.reduceLT, Int.reduceLE, Int.reduceEq, Int.reduceNe, Int.reduceAdd, Int.reduceSub, Int.reduceMul, Int.reduceToNat, Int.reduceBEq, Int.reduceBNe, fillP, fillE, okE, okW, bound, elS, srcS, Fin, finish, ress, resOf, one, keeps, ↓reduceIte, Dl.ap, Dl.slots, okD, isLp, zeros, reduceCtorEq, zdj, zdk, tf_ref11_Encode, C, N0, q1, q2, q3, U]
  have q3 : (r.kd == 3) = false := by simp [h3]
  rw [if_neg h3]
  have P1 := ref02_Num (H := H) (numB r.kd) r.ix hr.ix (by omega)
  have e2 : numB r.kd ++ numB r.ix = putAll (numB r.kd) [r.ix] := rfl
  rw [e2] at P1
  generalize putAll (numB r.kd) [r.ix] = B3 at *
  generalize numB r.kd = B0 at *
  refine ⟨.own 1 false, ?_⟩
  refine callT_of rfl tab_ref11_Encode ?_
  simp (maxSteps := 4000000) only [↓set16, ↓sl16, zaa, zab, zac, zad, zz0, zz1, zz2, zz3, zz4, zae, zaf, zag, zah, zai, zaj, zak, zal, zam, zan, zao, zap, zaq, zar, zas, zat, zau, zav, zaw, zax, zay, zaz, zba, zbb, zbc, zbd, zbe, zbf, zbg, zbh, zbi, zbj, zbk, zbl, zbm, zbn, zbo, zbp, zbq, zbr, zbs, zbt, zbu, zbv, zbw, zbx, zby, zbz, zca, zcb, zcc, zcd, zce, zcf, zcg, zch, zci, zcj, zck, zcl, zcm, zcn, ne_eq, zco, zcp, zcq, zcr, zcs, List.replicate, zct, zcu, zcv, zcw, zcx, zcy, zcz, zda, zdb, zdc, zdd, zde, zdf, zdg, zdh, zdi, killT, delta, tak, ev, ad, taks, evs, nL, getH, pack, arith, callD, Nat.reduceAdd, Nat.reduceSub, Nat.reduceMul, Nat.reduceLeDiff, Nat.reduceEqDiff, Nat.reduceBEq, Nat.reduceBNe, Nat.reduceLT, Nat.reduceDiv, Int.reduceNeg, Int.reduceLT, Int.reduceLE, Int.reduceEq, Int.reduceNe, Int.reduceAdd, Int.reduceSub, Int.reduceMul, Int.reduceToNat, Int.reduceBEq, Int.reduceBNe, fillP, fillE, okE, okW, bound, elS, srcS, Fin, finish, ress, resOf, one, keeps, ↓reduceIte, Dl.ap, Dl.slots, okD, isLp, zeros, reduceCtorEq, zdj, zdk, tf_ref11_Encode, C, N0, q1, q2, q3, P1]
theorem record_Encode (r : Rc) (hr : r.ok) (hs : r.small) : ∃ g, CT n_record_Encode [r.tv] H = some ⟨if checkB r = true then .tup [.sl g (bl (encR r)), .int .i64 0] else .tup [.nils, .int .i64 1], H, false⟩ := by
  have hl : live (H ++ [r.cells (.sl .shr (bl r.en.dt)) (.sl .shr (bl r.sn))]) H.length = some (r.cells (.sl .shr (bl r.en.dt)) (.sl .shr (bl r.sn))) := live_app_eq rfl
  have hO := record_ofRecord r hl
  have hA := r.at hl
  have hT := r.numT_or H.length
  have hI : ∀ x ∈ r.nums, I64 x.n := by
    intro x hx
    unfold Rc.nums at hx
    split at hx
    · simp only [List.mem_cons, List.not_mem_nil, or_false] at hx
      rcases hx with rfl | rfl | rfl
      · exact hr.ix
      · exact hr.tm
      · exact hr.cf
    · split at hx
      · simp only [List.mem_cons, List.not_mem_nil, or_false] at hx
        rcases hx with rfl | rfl
        · exact hr.tm
        · exact hr.vo
      · split at hx
        · simp only [List.mem_cons, List.not_mem_nil, or_false] at hx
          subst hx; exact hr.ix
        · cases hx
  have l0 := numB_len r.kd
  have hP := record_put (H := H ++ [r.cells (.sl .shr (bl r.en.dt)) (.sl .shr (bl r.sn))]) (j := H.length) (numB r.kd) r.nums hI (by have := r.nums_len; omega) (by omega) hA
  have C := record_Check (H := H ++ [r.cells (.sl .shr (bl r.en.dt)) (.sl .shr (bl r.sn))]) r hr.en.len hr.len
  have nb : bl [] = [] := rfl
  have N0 := pack_Num (H := H ++ [r.cells (.sl .shr (bl r.en.dt)) (.sl .shr (bl r.sn))]) [] r.kd hr.kd (by simp)
  rw [nb, List.nil_append] at N0
  have htn : trim true H.length ⟨.tup [.nils, .int .i64 1], H ++ [r.cells (.sl .shr (bl r.en.dt)) (.sl .shr (bl r.sn))], false⟩ = ⟨.tup [.nils, .int .i64 1], H, false⟩ := trim_in rfl rfl
  have hts : ∀ g l, trim true H.length ⟨.tup [.sl g (bl l), .int .i64 0], H ++ [r.cells (.sl .shr (bl r.en.dt)) (.sl .shr (bl r.sn))], false⟩ = ⟨.tup [.sl g (bl l), .int .i64 0], H, false⟩ := fun g l => trim_in rfl (by simp [TV.lt, TV.lts, bl_lts])
  have hpl := putAll_len (r.nums.map Nm.n) (numB r.kd)
  have hnl := r.nums_len
  have hX := pack_Text (H := H ++ [r.cells (.sl .shr (bl r.en.dt)) (.sl .shr (bl r.sn))]) (putAll (numB r.kd) (r.nums.map Nm.n)) (strOf r.sn) (by rw [List.length_map] at hpl; omega) (by rw [strOf_size]; have := hs.sn; omega)
  rw [strB_strOf _ hr.sn, strOf_size] at hX
  obtain ⟨g, U⟩ := record_PutEntry (H := H ++ [r.cells (.sl .shr (bl r.en.dt)) (.sl .shr (bl r.sn))]) (numB r.kd) r.en hr.en (by omega) hs.dt
  have hby := bl_byte r.sn
  unfold strOf at hX
  rw [Rc.tv_eq] at C ⊢
  rw [En.tv_eq] at U
  have hbq := Heap_beq_refl (H ++ [r.cells (.sl .shr (bl r.en.dt)) (.sl .shr (bl r.sn))])
  unfold Rc.cells at *
  generalize hG : H ++ [[TV.int .i64 r.kd, .int .i64 r.tm, .int .i64 r.vo, .int .i64 r.en.ix, .int .i64 r.en.tm, .int .i64 r.en.kd, .sl .shr (bl r.en.dt), .int .i64 r.ix, .int .i64 r.cf, .sl .shr (bl r.sn)]] = G at *
  cases hc : checkB r <;> rw [hc] at C
  · rw [ckE_f] at C
    refine ⟨.shr, ?_⟩
    rw [if_neg (by simp)]
    refine callT_of rfl tab_record_Encode ?_
    simp (maxSteps := 4000000) only [↓set16, ↓sl16, zaa, zab, zac, zad, zz0, zz1, zz2, zz3, zz4, zae, zaf, zag, zah, zai, zaj, zak, zal, zam, zan, zao, zap, zaq, zar, zas, zat, zau, zav, zaw, zax, zay, zaz, zba, zbb, zbc, zbd, zbe, zbf, zbg, zbh, zbi, zbj, zbk, zbl, zbm, zbn, zbo, zbp, zbq, zbr, zbs, zbt, zbu, zbv, zbw, zbx, zby, zbz, zca, zcb, zcc, zcd, zce, zcf, zcg, zch, zci, zcj, zck, zcl, zcm, zcn, ne_eq, zco, zcp, zcq, zcr, zcs, List.replicate, zct, zcu, zcv, zcw, zcx, zcy, zcz, zda, zdb, zdc, zdd, zde, zdf, zdg, zdh, zdi, killT, delta, tak, ev, ad, taks, evs, nL, getH, pack, arith, callD, Nat.reduceAdd, Nat.reduceSub, Nat.reduceMul, Nat.reduceLeDiff, Nat.reduceEqDiff, Nat.reduceBEq, Nat.reduceBNe, Nat.reduceLT, Nat.reduceDiv, Int.reduceNeg, Int.reduceLT, Int.reduceLE, Int.reduceEq, Int.reduceNe, Int.reduceAdd, Int.reduceSub, Int.reduceMul, Int.reduceToNat, Int.reduceBEq, Int.reduceBNe, fillP, fillE, okE, okW, bound, elS, srcS, Fin, finish, ress, resOf, one, keeps, ↓reduceIte, Dl.ap, Dl.slots, okD, isLp, zeros, reduceCtorEq, zdj, zdk, tf_record_Encode, hG, hl, C, show ((1 : Int) != 0) = true from rfl, htn]
  have hk := checkB_kd hc
  rw [ckE_t] at C
  simp only [if_true]
  unfold encR
  by_cases h1 : r.kd = 1
  · have q1 : (r.kd == 1) = true := by simp [h1]
    have en : r.nums.map Nm.n = [r.ix, r.tm, r.cf] := by unfold Rc.nums; rw [if_pos h1]; rfl
    rw [if_pos h1]
    rw [en] at hP hX
    generalize putAll (numB r.kd) [r.ix, r.tm, r.cf] = B3 at *
    generalize numB r.kd = B0 at *
    refine ⟨.shr, ?_⟩
    rcases hT with hT | ⟨hT, hL⟩
    · rw [hT] at hO
      generalize r.nums.map (Nm.tv H.length) = L at *
      refine callT_of rfl tab_record_Encode ?_
      simp (maxSteps := 4000000) only [↓set16, ↓sl16, zaa, zab, zac, zad, zz0, zz1, zz2, zz3, zz4, zae, zaf, zag, zah, zai, zaj, zak, zal, zam, zan, zao, zap, zaq, zar, zas, zat, zau, zav, zaw, zax, zay, zaz, zba, zbb, zbc, zbd, zbe, zbf, zbg, zbh, zbi, zbj, zbk, zbl, zbm, zbn, zbo, zbp, zbq, zbr, zbs, zbt, zbu, zbv, zbw, zbx, zby, zbz, zca, zcb, zcc, zcd, zce, zcf, zcg, zch, zci, zcj, zck, zcl, zcm, zcn, ne_eq, zco, zcp, zcq, zcr, zcs, List.replicate, zct, zcu, zcv, zcw, zcx, zcy, zcz, zda, zdb, zdc, zdd, zde, zdf, zdg, zdh, zdi, killT, delta, tak, ev, ad, taks, evs, nL, getH, pack, arith, callD, Nat.reduceAdd, Nat.reduceSub, Nat.reduceMul, Nat.reduceLeDiff, Nat.reduceEqDiff, Nat.reduceBEq, Nat.reduceBNe, Nat.reduceLT, Nat.reduceDiv, Int.reduceNeg, Int.reduceLT, Int.reduceLE, Int.reduceEq, Int.reduceNe, Int.reduceAdd, Int.reduceSub, Int.reduceMul, Int.reduceToNat, Int.reduceBEq, Int.reduceBNe, fillP, fillE, okE, okW, bound, elS, srcS, Fin, finish, ress, resOf, one, keeps, ↓reduceIte, Dl.ap, Dl.slots, okD, isLp, zeros, reduceCtorEq, zdj, zdk, tf_record_Encode, jn_record_Encode_1, hG, hl, C, bne_self_eq_false, N0, hO, hbq, hP, q1, hby, hX, hts]
    · rw [hT] at hO
      rw [hL] at hP
      refine callT_of rfl tab_record_Encode ?_
      simp (maxSteps := 4000000) only [↓set16, ↓sl16, zaa, zab, zac, zad, zz0, zz1, zz2, zz3, zz4, zae, zaf, zag, zah, zai, zaj, zak, zal, zam, zan, zao, zap, zaq, zar, zas, zat, zau, zav, zaw, zax, zay, zaz, zba, zbb, zbc, zbd, zbe, zbf, zbg, zbh, zbi, zbj, zbk, zbl, zbm, zbn, zbo, zbp, zbq, zbr, zbs, zbt, zbu, zbv, zbw, zbx, zby, zbz, zca, zcb, zcc, zcd, zce, zcf, zcg, zch, zci, zcj, zck, zcl, zcm, zcn, ne_eq, zco, zcp, zcq, zcr, zcs, List.replicate, zct, zcu, zcv, zcw, zcx, zcy, zcz, zda, zdb, zdc, zdd, zde, zdf, zdg, zdh, zdi, killT, delta, tak, ev, ad, taks, evs, nL, getH, pack, arith, callD, Nat.reduceAdd, Nat.reduceSub, Nat.reduceMul, Nat.reduceLeDiff, Nat.reduceEqDiff, Nat.reduceBEq, Nat.reduceBNe, Nat.reduceLT, Nat.reduceDiv, Int.reduceNeg, Int.reduceLT, Int.reduceLE, Int.reduceEq, Int.reduceNe, Int.reduceAdd, Int.reduceSub, Int.reduceMul, Int.reduceToNat, Int.reduceBEq, Int.reduceBNe, fillP, fillE, okE, okW, bound, elS, srcS, Fin, finish, ress, resOf, one, keeps, ↓reduceIte, Dl.ap, Dl.slots, okD, isLp, zeros, reduceCtorEq, zdj, zdk, tf_record_Encode, jn_record_Encode_1, hG, hl, C, bne_self_eq_false, N0, hO, hbq, hP, q1, hby, hX, hts]
  have q1 : (r.kd == 1) = false := by simp [h1]
  rw [if_neg h1]
  by_cases h2 : r.kd = 2
  · have q3 : (r.kd == 3) = false := by simp [h2]
    have en : r.nums.map Nm.n = [r.tm, r.vo] := by unfold Rc.nums; rw [if_neg h1, if_pos h2]; rfl
    rw [if_pos h2]
    rw [en] at hP
    generalize putAll (numB r.kd) [r.tm, r.vo] = B3 at *
    generalize numB r.kd = B0 at *
    refine ⟨.shr, ?_⟩
    rcases hT with hT | ⟨hT, hL⟩
    · rw [hT] at hO
      generalize r.nums.map (Nm.tv H.length) = L at *
      refine callT_of rfl tab_record_Encode ?_
      simp (maxSteps := 4000000) only [↓set16, ↓sl16, zaa, zab, zac, zad, zz0, zz1, zz2, zz3, zz4, zae, zaf, zag, zah, zai, zaj, zak, zal, zam, zan, zao, zap, zaq, zar, zas, zat, zau, zav, zaw, zax, zay, zaz, zba, zbb, zbc, zbd, zbe, zbf, zbg, zbh, zbi, zbj, zbk, zbl, zbm, zbn, zbo, zbp, zbq, zbr, zbs, zbt, zbu, zbv, zbw, zbx, zby, zbz, zca, zcb, zcc, zcd, zce, zcf, zcg, zch, zci, zcj, zck, zcl, zcm, zcn, ne_eq, zco, zcp, zcq, zcr, zcs, List.replicate, zct, zcu, zcv, zcw, zcx, zcy, zcz, zda, zdb, zdc, zdd, zde, zdf, zdg, zdh, zdi, killT, delta, tak, ev, ad, taks, evs, nL, getH, pack, arith, callD, Nat.reduceAdd, Nat.reduceSub, Nat.reduceMul, Nat.reduceLeDiff, Nat.reduceEqDiff, Nat.reduceBEq, Nat.reduceBNe, Nat.reduceLT, Nat.reduceDiv, Int.reduceNeg, Int.reduceLT, Int.reduceLE, Int.reduceEq, Int.reduceNe, Int.reduceAdd, Int.reduceSub, Int.reduceMul, Int.reduceToNat, Int.reduceBEq, Int.reduceBNe, fillP, fillE, okE, okW, bound, elS, srcS, Fin, finish, ress, resOf, one, keeps, ↓reduceIte, Dl.ap, Dl.slots, okD, isLp, zeros, reduceCtorEq, zdj, zdk, tf_record_Encode, jn_record_Encode_1, hG, hl, C, bne_self_eq_false, N0, hO, hbq, hP, q1, q3, hts]
    · rw [hT] at hO
      rw [hL] at hP
      refine callT_of rfl tab_record_Encode ?_
      simp (maxSteps := 4000000) only [↓set16, ↓sl16, zaa, zab, zac, zad, zz0, zz1, zz2, zz3, zz4, zae, zaf, zag, zah, zai, zaj, zak, zal, zam, zan, zao, zap, zaq, zar, zas, zat, zau, zav, zaw, zax, zay, zaz, zba, zbb, zbc, zbd, zbe, zbf, zbg, zbh, zbi, zbj, zbk, zbl, zbm, zbn, zbo, zbp, zbq, zbr, zbs, zbt, zbu, zbv, zbw, zbx, zby, zbz, zca, zcb, zcc, zcd, zce, zcf, zcg, zch, zci, zcj, zck, zcl, zcm, zcn, ne_eq, zco, zcp, zcq, zcr, zcs, List.replicate, zct, zcu, zcv, zcw, zcx, zcy, zcz, zda, zdb, zdc, zdd, zde, zdf, zdg, zdh, zdi, killT, delta, tak, ev, ad, taks, evs, nL, getH, pack, arith, callD, Nat.reduceAdd, Nat.reduceSub, Nat.reduceMul, Nat.reduceLeDiff, Nat.reduceEqDiff, Nat.reduceBEq, Nat.reduceBNe, Nat.reduceLT, Nat.reduceDiv, Int.reduceNeg, Int.reduceLT, Int.reduceLE, Int.reduceEq, Int.reduceNe, Int.reduceAdd, Int.reduceSub, Int.reduceMul, Int.reduceToNat, Int.reduceBEq, Int.reduceBNe, fillP, fillE, okE, okW, bound, elS, srcS, Fin, finish, ress, resOf, one, keeps, ↓reduceIte, Dl.ap, Dl.slots, okD, isLp, zeros, reduceCtorEq, zdj, zdk, tf_record_Encode, jn_record_Encode_1, hG, hl, C, bne_self_eq_false, N0, hO, hbq, hP, q1, q3, hts]
  rw [if_neg h2]
  by_cases h3 : r.kd = 3
  · have q3 : (r.kd == 3) = true := by simp [h3]
    have en : r.nums = [] := by unfold Rc.nums; rw [if_neg h1, if_neg h2, if_neg (by omega)]
    rw [if_pos h3]
    rw [en] at hP
    have ep : putAll (numB r.kd) (([] : List Nm).map Nm.n) = numB r.kd := rfl
    rw [ep, List.map_nil] at hP
    have hT2 : r.numT H.length = .nils := by unfold Rc.numT; rw [if_neg (by omega)]
    rw [hT2] at hO
    generalize numB r.kd = B0 at *
    refine ⟨.shr, ?_⟩
    refine callT_of rfl tab_record_Encode ?_
    simp (maxSteps := 4000000) only [↓set16, ↓sl16, zaa, zab, zac, zad, zz0, zz1, zz2, zz3, zz4, zae, zaf, zag, zah, zai, zaj, zak, zal, zam, zan, zao, zap, zaq, zar, zas, zat, zau, zav, zaw, zax, zay, zaz, zba, zbb, zbc, zbd, zbe, zbf, zbg, zbh, zbi, zbj, zbk, zbl, zbm, zbn, zbo, zbp, zbq, zbr, zbs, zbt, zbu, zbv, zbw, zbx, zby, zbz, zca, zcb, zcc, zcd, zce, zcf, zcg, zch, zci, zcj, zck, zcl, zcm, zcn, ne_eq, zco, zcp, zcq, zcr, zcs, List.replicate, zct, zcu, zcv, zcw, zcx, zcy, zcz, zda, zdb, zdc, zdd, zde, zdf, zdg, zdh, zdi, killT, delta, tak, ev, ad, taks, evs, nL, getH, pack, arith, callD, Nat.reduceAdd, Nat.reduceSub, Nat.reduceMul, Nat.reduceLeDiff, Nat.reduceEqDiff, Nat.reduceBEq, Nat.reduceBNe, Nat.reduceLT, Nat.reduceDiv, Int.reduceNeg, Int.reduceLT, Int.reduceLE, Int.reduceEq, Int.reduceNe, Int.reduceAdd, Int.reduceSub, Int.reduceMul, Int.reduceToNat, Int.reduceBEq, Int.reduceBNe, fillP, fillE, okE, okW, bound, elS, srcS, Fin, finish, ress, resOf, one, keeps, ↓reduceIte, Dl.ap, Dl.slots, okD, isLp, zeros, reduceCtorEq, zdj, zdk, tf_record_Encode, jn_record_Encode_1, hG, hl, C, bne_self_eq_false, N0, hO, hbq, hP, q1, q3, U, hts]
  have q3 : (r.kd == 3) = false := by simp [h3]
  rw [if_neg h3]
  have en : r.nums.map Nm.n = [r.ix] := by unfold Rc.nums; rw [if_neg h1, if_neg h2, if_pos (by omega)]; rfl
  rw [en] at hP
  generalize putAll (numB r.kd) [r.ix] = B3 at *
  generalize numB r.kd = B0 at *
  refine ⟨.shr, ?_⟩
  rcases hT with hT | ⟨hT, hL⟩
  · rw [hT] at hO
    generalize r.nums.map (Nm.tv H.length) = L at *
    refine callT_of rfl tab_record_Encode ?_
    simp (maxSteps := 4000000) only [↓set16, ↓sl16, zaa, zab, zac, zad, zz0, zz1, zz2, zz3, zz4, zae, zaf, zag, zah, zai, zaj, zak, zal, zam, zan, zao, zap, zaq, zar, zas, zat, zau, zav, zaw, zax, zay, zaz, zba, zbb, zbc, zbd, zbe, zbf, zbg, zbh, zbi, zbj, zbk, zbl, zbm, zbn, zbo, zbp, zbq, zbr, zbs, zbt, zbu, zbv, zbw, zbx, zby, zbz, zca, zcb, zcc, zcd, zce, zcf, zcg, zch, zci, zcj, zck, zcl, zcm, zcn, ne_eq, zco, zcp, zcq, zcr, zcs, List.replicate, zct, zcu, zcv, zcw, zcx, zcy, zcz, zda, zdb, zdc, zdd, zde, zdf, zdg, zdh, zdi, killT, delta, tak, ev, ad, taks, evs, nL, getH, pack, arith, callD, Nat.reduceAdd, Nat.reduceSub, Nat.reduceMul, Nat.reduceLeDiff, Nat.reduceEqDiff, Nat.reduceBEq, Nat.reduceBNe, Nat.reduceLT, Nat.reduceDiv, Int.reduceNeg, Int.reduceLT, Int.reduceLE, Int.reduceEq, Int.reduceNe, Int.reduceAdd, Int.reduceSub, Int.reduceMul, Int.reduceToNat, Int.reduceBEq, Int.reduceBNe, fillP, fillE, okE, okW, bound, elS, srcS, Fin, finish, ress, resOf, one, keeps, ↓reduceIte, Dl.ap, Dl.slots, okD, isLp, zeros, reduceCtorEq, zdj, zdk, tf_record_Encode, jn_record_Encode_1, hG, hl, C, bne_self_eq_false, N0, hO, hbq, hP, q1, q3, hts]
  · rw [hT] at hO
    rw [hL] at hP
    refine callT_of rfl tab_record_Encode ?_
    simp (maxSteps := 4000000) only [↓set16, ↓sl16, zaa, zab, zac, zad, zz0, zz1, zz2, zz3, zz4, zae, zaf, zag, zah, zai, zaj, zak, zal, zam, zan, zao, zap, zaq, zar, zas, zat, zau, zav, zaw, zax, zay, zaz, zba, zbb, zbc, zbd, zbe, zbf, zbg, zbh, zbi, zbj, zbk, zbl, zbm, zbn, zbo, zbp, zbq, zbr, zbs, zbt, zbu, zbv, zbw, zbx, zby, zbz, zca, zcb, zcc, zcd, zce, zcf, zcg, zch, zci, zcj, zck, zcl, zcm, zcn, ne_eq, zco, zcp, zcq, zcr, zcs, List.replicate, zct, zcu, zcv, zcw, zcx, zcy, zcz, zda, zdb, zdc, zdd, zde, zdf, zdg, zdh, zdi, killT, delta, tak, ev, ad, taks, evs, nL, getH, pack, arith, callD, Nat.reduceAdd, Nat.reduceSub, Nat.reduceMul, Nat.reduceLeDiff, Nat.reduceEqDiff, Nat.reduceBEq, Nat.reduceBNe, Nat.reduceLT, Nat.reduceDiv, Int.reduceNeg, Int.reduceLT, Int.reduceLE, Int.reduceEq, Int.reduceNe, Int.reduceAdd, Int.reduceSub, Int.reduceMul, Int.reduceToNat, Int.reduceBEq, Int.reduceBNe, fillP, fillE, okE, okW, bound, elS, srcS, Fin, finish, ress, resOf, one, keeps, ↓reduceIte, Dl.ap, Dl.slots, okD, isLp, zeros, reduceCtorEq, zdj, zdk, tf_record_Encode, jn_record_Encode_1, hG, hl, C, bne_self_eq_false, N0, hO, hbq, hP, q1, q3, hts]
end Go.T
