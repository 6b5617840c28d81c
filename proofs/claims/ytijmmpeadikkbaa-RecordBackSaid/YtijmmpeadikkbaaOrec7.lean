/- What the record's functions answer: whether a record may be. -/
import Derived.Test.YtijmmpeadikkbaaOrec6
set_option linter.unusedVariables false
set_option linter.unusedSimpArgs false
set_option maxRecDepth 10000
set_option pp.deepTerms true
set_option pp.maxSteps 1000000
set_option maxHeartbeats 2000000
namespace Go.T
attribute [local irreducible] Run Back RS Ap
variable {H H0 : Heap} {i j : Nat} {s : RSt}
/-- A record may be. -/
def checkB (r : Rc) : Bool := within r.kd 1 4 && ((r.nums.all fun x => within x.n x.lo x.hi) && (decide ((r.sn.length : Int) ≤ 131072) && ((!(r.kd == 3) || entB r.en) && sameR r (bareR r))))
def ckE (b : Bool) : Int := if b = true then 0 else 1
theorem Rc.numT_l (r : Rc) (j : Nat) : isLb (r.numT j) = false := by
  unfold Rc.numT
  split <;> rfl
theorem Rc.numT_or (r : Rc) (j : Nat) : r.numT j = .sl (.own 3 true) (r.nums.map (Nm.tv j)) ∨ r.numT j = .nils ∧ r.nums.map (Nm.tv j) = [] := by
  unfold Rc.numT
  split
  · exact .inl rfl
  · rename_i h
    refine .inr ⟨rfl, ?_⟩
    have : r.nums = [] := by
      unfold Rc.nums
      rw [if_neg (fun e => h (.inl e)), if_neg (fun e => h (.inr (.inl e))), if_neg (fun e => h (.inr (.inr e)))]
    rw [this]; rfl
theorem Rc.nums_len (r : Rc) : r.nums.length ≤ 3 := by
  unfold Rc.nums
  split
  · exact Nat.le_refl _
  · split
    · simp
    · split <;> simp
theorem gt_not {a b : Int} : decide (b < a) = !decide (a ≤ b) := by
  by_cases h : a ≤ b
  · rw [decide_eq_true h, decide_eq_false (by omega)]; rfl
  · rw [decide_eq_false h, decide_eq_true (by omega)]; rfl
theorem record_Check (r : Rc) (hd : r.en.dt.length ≤ 9223372036854775807) (hs : r.sn.length ≤ 9223372036854775807) : CT n_record_Check [r.tv] H = some ⟨.int .i64 (ckE (checkB r)), H, false⟩ := by
  have hl : live (H ++ [r.cells (.sl .shr (bl r.en.dt)) (.sl .shr (bl r.sn))]) H.length = some (r.cells (.sl .shr (bl r.en.dt)) (.sl .shr (bl r.sn))) := live_app_eq rfl
  have hO := record_ofRecord r hl
  have hA := record_allIn r.nums (by have := r.nums_len; omega) (r.at hl)
  have hT := r.numT_or H.length
  generalize r.numT H.length = T at *
  generalize hL : r.nums.map (Nm.tv H.length) = L at *
  have hE := record_Entry (H := H ++ [r.cells (.sl .shr (bl r.en.dt)) (.sl .shr (bl r.sn))]) r.en
  rw [En.tv_eq] at hE
  unfold Rc.cells at hl hO hA hE
  have ht : ∀ n, trim true H.length ⟨.int .i64 n, H ++ [[.int .i64 r.kd, .int .i64 r.tm, .int .i64 r.vo, .int .i64 r.en.ix, .int .i64 r.en.tm, .int .i64 r.en.kd, .sl .shr (bl r.en.dt), .int .i64 r.ix, .int .i64 r.cf, .sl .shr (bl r.sn)]], false⟩ = ⟨.int .i64 n, H, false⟩ := fun n => trim_in rfl rfl
  rcases hT with rfl | ⟨rfl, rfl⟩
  all_goals
    have hlt : TV.lts 0 [.agg [.int .i64 r.kd, .int .i64 r.tm, .int .i64 r.vo, .int .i64 r.en.ix, .int .i64 r.en.tm, .int .i64 r.en.kd, .sl .shr (bl r.en.dt), .int .i64 r.ix, .int .i64 r.cf, .sl .shr (bl r.sn)]] = true := by simp [TV.lts, TV.lt, bl_lts]
    unfold checkB ckE
    by_cases k1 : (1 : Int) ≤ r.kd
    rotate_left
    · have w : within r.kd 1 4 = false := by simp [within, k1]
      rw [w, Bool.false_and, if_neg (by simp), Rc.tv_eq]
      refine callT_of rfl tab_record_Check ?_
      simp (maxSteps := 4000000) only [↓set16, ↓sl16, zaa, zab, zac, zad, zz0, zz1, zz2, zz3, zz4, zae, zaf, zag, zah, zai, zaj, zak, zal, zam, zan, zao, zap, zaq, zar, zas, zat, zau, zav, zaw, zax, zay, zaz, zba, zbb, zbc, zbd, zbe, zbf, zbg, zbh, zbi, zbj, zbk, zbl, zbm, zbn, zbo, zbp, zbq, zbr, zbs, zbt, zbu, zbv, zbw, zbx, zby, zbz, zca, zcb, zcc, zcd, zce, zcf, zcg, zch, zci, zcj, zck, zcl, zcm, zcn, ne_eq, zco, zcp, zcq, zcr, zcs, List.replicate, zct, zcu, zcv, zcw, zcx, zcy, zcz, zda, zdb, zdc, zdd, zde, zdf, zdg, zdh, zdi, killT, delta, tak, ev, ad, taks, evs, nL, getH, pack, arith, callD, Nat.reduceAdd, Nat.reduceSub, Nat.reduceMul, Nat.reduceLeDiff, Nat.reduceEqDiff, Nat.reduceBEq, Nat.reduceBNe, Nat.reduceLT, Nat.reduceDiv, Int.reduceNeg, Int.reduceLT, Int.reduceLE, Int.reduceEq, Int.reduceNe, Int.reduceAdd, Int.reduceSub, Int.reduceMul, Int.reduceToNat, Int.reduceBEq, Int.reduceBNe, fillP, fillE, okE, okW, bound, elS, srcS, Fin, finish, ress, resOf, one, keeps, ↓reduceIte, Dl.ap, Dl.slots, okD, isLp, zeros, reduceCtorEq, zdj, zdk, tf_record_Check, hl, k1, ht]
    by_cases k4 : r.kd ≤ (4 : Int)
    rotate_left
    · have w : within r.kd 1 4 = false := by simp [within, k4]
      rw [w, Bool.false_and, if_neg (by simp), Rc.tv_eq]
      refine callT_of rfl tab_record_Check ?_
      simp (maxSteps := 4000000) only [↓set16, ↓sl16, zaa, zab, zac, zad, zz0, zz1, zz2, zz3, zz4, zae, zaf, zag, zah, zai, zaj, zak, zal, zam, zan, zao, zap, zaq, zar, zas, zat, zau, zav, zaw, zax, zay, zaz, zba, zbb, zbc, zbd, zbe, zbf, zbg, zbh, zbi, zbj, zbk, zbl, zbm, zbn, zbo, zbp, zbq, zbr, zbs, zbt, zbu, zbv, zbw, zbx, zby, zbz, zca, zcb, zcc, zcd, zce, zcf, zcg, zch, zci, zcj, zck, zcl, zcm, zcn, ne_eq, zco, zcp, zcq, zcr, zcs, List.replicate, zct, zcu, zcv, zcw, zcx, zcy, zcz, zda, zdb, zdc, zdd, zde, zdf, zdg, zdh, zdi, killT, delta, tak, ev, ad, taks, evs, nL, getH, pack, arith, callD, Nat.reduceAdd, Nat.reduceSub, Nat.reduceMul, Nat.reduceLeDiff, Nat.reduceEqDiff, Nat.reduceBEq, Nat.reduceBNe, Nat.reduceLT, Nat.reduceDiv, Int.reduceNeg, Int.reduceLT, Int.reduceLE, Int.reduceEq, Int.reduceNe, Int.reduceAdd, Int.reduceSub, Int.reduceMul, Int.reduceToNat, Int.reduceBEq, Int.reduceBNe, fillP, fillE, okE, okW, bound, elS, srcS, Fin, finish, ress, resOf, one, keeps, ↓reduceIte, Dl.ap, Dl.slots, okD, isLp, zeros, reduceCtorEq, zdj, zdk, tf_record_Check, hl, k1, k4, ht]
    have w : within r.kd 1 4 = true := by simp [within, k1, k4]
    rw [w, Bool.true_and]
    cases hn : (r.nums.all fun x => within x.n x.lo x.hi) <;> rw [hn] at hA
    · rw [Bool.false_and, if_neg (by simp), Rc.tv_eq]
      refine callT_of rfl tab_record_Check ?_
      simp (maxSteps := 4000000) only [↓set16, ↓sl16, zaa, zab, zac, zad, zz0, zz1, zz2, zz3, zz4, zae, zaf, zag, zah, zai, zaj, zak, zal, zam, zan, zao, zap, zaq, zar, zas, zat, zau, zav, zaw, zax, zay, zaz, zba, zbb, zbc, zbd, zbe, zbf, zbg, zbh, zbi, zbj, zbk, zbl, zbm, zbn, zbo, zbp, zbq, zbr, zbs, zbt, zbu, zbv, zbw, zbx, zby, zbz, zca, zcb, zcc, zcd, zce, zcf, zcg, zch, zci, zcj, zck, zcl, zcm, zcn, ne_eq, zco, zcp, zcq, zcr, zcs, List.replicate, zct, zcu, zcv, zcw, zcx, zcy, zcz, zda, zdb, zdc, zdd, zde, zdf, zdg, zdh, zdi, killT, delta, tak, ev, ad, taks, evs, nL, getH, pack, arith, callD, Nat.reduceAdd, Nat.reduceSub, Nat.reduceMul, Nat.reduceLeDiff, Nat.reduceEqDiff, Nat.reduceBEq, Nat.reduceBNe, Nat.reduceLT, Nat.reduceDiv, Int.reduceNeg, Int.reduceLT, Int.reduceLE, Int.reduceEq, Int.reduceNe, Int.reduceAdd, Int.reduceSub, Int.reduceMul, Int.reduceToNat, Int.reduceBEq, Int.reduceBNe, fillP, fillE, okE, okW, bound, elS, srcS, Fin, finish, ress, resOf, one, keeps, ↓reduceIte, Dl.ap, Dl.slots, okD, isLp, zeros, reduceCtorEq, zdj, zdk, tf_record_Check, hl, k1, k4, hO, hA, ht]
    rw [Bool.true_and]
    by_cases hsn : (r.sn.length : Int) ≤ 131072
    rotate_left
    · have hs2 : (131072 : Int) < r.sn.length := by omega
      rw [decide_eq_false hsn, Bool.false_and, if_neg (by simp), Rc.tv_eq]
      refine callT_of rfl tab_record_Check ?_
      simp (maxSteps := 4000000) only [↓set16, ↓sl16, zaa, zab, zac, zad, zz0, zz1, zz2, zz3, zz4, zae, zaf, zag, zah, zai, zaj, zak, zal, zam, zan, zao, zap, zaq, zar, zas, zat, zau, zav, zaw, zax, zay, zaz, zba, zbb, zbc, zbd, zbe, zbf, zbg, zbh, zbi, zbj, zbk, zbl, zbm, zbn, zbo, zbp, zbq, zbr, zbs, zbt, zbu, zbv, zbw, zbx, zby, zbz, zca, zcb, zcc, zcd, zce, zcf, zcg, zch, zci, zcj, zck, zcl, zcm, zcn, ne_eq, zco, zcp, zcq, zcr, zcs, List.replicate, zct, zcu, zcv, zcw, zcx, zcy, zcz, zda, zdb, zdc, zdd, zde, zdf, zdg, zdh, zdi, killT, delta, tak, ev, ad, taks, evs, nL, getH, pack, arith, callD, Nat.reduceAdd, Nat.reduceSub, Nat.reduceMul, Nat.reduceLeDiff, Nat.reduceEqDiff, Nat.reduceBEq, Nat.reduceBNe, Nat.reduceLT, Nat.reduceDiv, Int.reduceNeg, Int.reduceLT, Int.reduceLE, Int.reduceEq, Int.reduceNe, Int.reduceAdd, Int.reduceSub, Int.reduceMul, Int.reduceToNat, Int.reduceBEq, Int.reduceBNe, fillP, fillE, okE, okW, bound, elS, srcS, Fin, finish, ress, resOf, one, keeps, ↓reduceIte, Dl.ap, Dl.slots, okD, isLp, zeros, reduceCtorEq, zdj, zdk, tf_record_Check, hl, k1, k4, hO, hA, bl_len, gt_iff_lt, hs2, ht]
    have hs2 : ¬ (131072 : Int) < r.sn.length := by omega
    rw [decide_eq_true hsn, Bool.true_and]
    obtain ⟨V, W, hV, hW, hB⟩ := record_bare r ⟨k1, k4⟩
    have hS := record_Same (H := H ++ [r.cells (.sl .shr (bl r.en.dt)) (.sl .shr (bl r.sn))]) r (bareR r) hd hs
    unfold Rc.cells at hS hB
    have v0 := hV.s
    have v1 := hV.c
    have w0 := hW.s
    have w1 := hW.c
    by_cases h3 : r.kd = 3
    · have q3 : (r.kd == 3) = true := by simp [h3]
      rw [q3, Bool.not_true, Bool.false_or]
      cases he : entB r.en <;> rw [he] at hE
      · rw [Bool.false_and, if_neg (by simp), Rc.tv_eq]
        refine callT_of rfl tab_record_Check ?_
        simp (maxSteps := 4000000) only [↓set16, ↓sl16, zaa, zab, zac, zad, zz0, zz1, zz2, zz3, zz4, zae, zaf, zag, zah, zai, zaj, zak, zal, zam, zan, zao, zap, zaq, zar, zas, zat, zau, zav, zaw, zax, zay, zaz, zba, zbb, zbc, zbd, zbe, zbf, zbg, zbh, zbi, zbj, zbk, zbl, zbm, zbn, zbo, zbp, zbq, zbr, zbs, zbt, zbu, zbv, zbw, zbx, zby, zbz, zca, zcb, zcc, zcd, zce, zcf, zcg, zch, zci, zcj, zck, zcl, zcm, zcn, ne_eq, zco, zcp, zcq, zcr, zcs, List.replicate, zct, zcu, zcv, zcw, zcx, zcy, zcz, zda, zdb, zdc, zdd, zde, zdf, zdg, zdh, zdi, killT, delta, tak, ev, ad, taks, evs, nL, getH, pack, arith, callD, Nat.reduceAdd, Nat.reduceSub, Nat.reduceMul, Nat.reduceLeDiff, Nat.reduceEqDiff, Nat.reduceBEq, Nat.reduceBNe, Nat.reduceLT, Nat.reduceDiv, Int.reduceNeg, Int.reduceLT, Int.reduceLE, Int.reduceEq, Int.reduceNe, Int.reduceAdd, Int.reduceSub, Int.reduceMul, Int.reduceToNat, Int.reduceBEq, Int.reduceBNe, fillP, fillE, okE, okW, bound, elS, srcS, Fin, finish, ress, resOf, one, keeps, ↓reduceIte, Dl.ap, Dl.slots, okD, isLp, zeros, reduceCtorEq, zdj, zdk, tf_record_Check, hl, k1, k4, hO, hA, bl_len, gt_iff_lt, hs2, q3, hE, ht]
      rw [Bool.true_and]
      rw [Rc.tv_eq] at hB
      rw [Rc.tv_eq, Rc.tv_eq] at hS
      cases hq : sameR r (bareR r) <;> rw [hq] at hS
      · rw [if_neg (by simp), Rc.tv_eq]
        refine callT_of rfl tab_record_Check ?_
        simp (maxSteps := 4000000) only [↓set16, ↓sl16, zaa, zab, zac, zad, zz0, zz1, zz2, zz3, zz4, zae, zaf, zag, zah, zai, zaj, zak, zal, zam, zan, zao, zap, zaq, zar, zas, zat, zau, zav, zaw, zax, zay, zaz, zba, zbb, zbc, zbd, zbe, zbf, zbg, zbh, zbi, zbj, zbk, zbl, zbm, zbn, zbo, zbp, zbq, zbr, zbs, zbt, zbu, zbv, zbw, zbx, zby, zbz, zca, zcb, zcc, zcd, zce, zcf, zcg, zch, zci, zcj, zck, zcl, zcm, zcn, ne_eq, zco, zcp, zcq, zcr, zcs, List.replicate, zct, zcu, zcv, zcw, zcx, zcy, zcz, zda, zdb, zdc, zdd, zde, zdf, zdg, zdh, zdi, killT, delta, tak, ev, ad, taks, evs, nL, getH, pack, arith, callD, Nat.reduceAdd, Nat.reduceSub, Nat.reduceMul, Nat.reduceLeDiff, Nat.reduceEqDiff, Nat.reduceBEq, Nat.reduceBNe, Nat.reduceLT, Nat.reduceDiv, Int.reduceNeg, Int.reduceLT, Int.reduceLE, Int.reduceEq, Int.reduceNe, Int.reduceAdd, Int.reduceSub, Int.reduceMul, Int.reduceToNat, Int.reduceBEq, Int.reduceBNe, fillP, fillE, okE, okW, bound, elS, srcS, Fin, finish, ress, resOf, one, keeps, ↓reduceIte, Dl.ap, Dl.slots, okD, isLp, zeros, reduceCtorEq, zdj, zdk, tf_record_Check, hl, k1, k4, hO, hA, bl_len, gt_iff_lt, hs2, q3, hE, hB, hlt, v0, v1, w0, w1, hS, ht]
      · rw [if_pos rfl, Rc.tv_eq]
        refine callT_of rfl tab_record_Check ?_
        simp (maxSteps := 4000000) only [↓set16, ↓sl16, zaa, zab, zac, zad, zz0, zz1, zz2, zz3, zz4, zae, zaf, zag, zah, zai, zaj, zak, zal, zam, zan, zao, zap, zaq, zar, zas, zat, zau, zav, zaw, zax, zay, zaz, zba, zbb, zbc, zbd, zbe, zbf, zbg, zbh, zbi, zbj, zbk, zbl, zbm, zbn, zbo, zbp, zbq, zbr, zbs, zbt, zbu, zbv, zbw, zbx, zby, zbz, zca, zcb, zcc, zcd, zce, zcf, zcg, zch, zci, zcj, zck, zcl, zcm, zcn, ne_eq, zco, zcp, zcq, zcr, zcs, List.replicate, zct, zcu, zcv, zcw, zcx, zcy, zcz, zda, zdb, zdc, zdd, zde, zdf, zdg, zdh, zdi, killT, delta, tak, ev, ad, taks, evs, nL, getH, pack, arith, callD, Nat.reduceAdd, Nat.reduceSub, Nat.reduceMul, Nat.reduceLeDiff, Nat.reduceEqDiff, Nat.reduceBEq, Nat.reduceBNe, Nat.reduceLT, Nat.reduceDiv, Int.reduceNeg, Int.reduceLT, Int.reduceLE, Int.reduceEq, Int.reduceNe, Int.reduceAdd, Int.reduceSub, Int.reduceMul, Int.reduceToNat, Int.reduceBEq, Int.reduceBNe, fillP, fillE, okE, okW, bound, elS, srcS, Fin, finish, ress, resOf, one, keeps, ↓reduceIte, Dl.ap, Dl.slots, okD, isLp, zeros, reduceCtorEq, zdj, zdk, tf_record_Check, hl, k1, k4, hO, hA, bl_len, gt_iff_lt, hs2, q3, hE, hB, hlt, v0, v1, w0, w1, hS, ht]
    · have q3 : (r.kd == 3) = false := by simp [h3]
      rw [q3, Bool.not_false, Bool.true_or, Bool.true_and]
      rw [Rc.tv_eq] at hB
      rw [Rc.tv_eq, Rc.tv_eq] at hS
      cases hq : sameR r (bareR r) <;> rw [hq] at hS
      · rw [if_neg (by simp), Rc.tv_eq]
        refine callT_of rfl tab_record_Check ?_
        simp (maxSteps := 4000000) only [↓set16, ↓sl16, zaa, zab, zac, zad, zz0, zz1, zz2, zz3, zz4, zae, zaf, zag, zah, zai, zaj, zak, zal, zam, zan, zao, zap, zaq, zar, zas, zat, zau, zav, zaw, zax, zay, zaz, zba, zbb, zbc, zbd, zbe, zbf, zbg, zbh, zbi, zbj, zbk, zbl, zbm, zbn, zbo, zbp, zbq, zbr, zbs, zbt, zbu, zbv, zbw, zbx, zby, zbz, zca, zcb, zcc, zcd, zce, zcf, zcg, zch, zci, zcj, zck, zcl, zcm, zcn, ne_eq, zco, zcp, zcq, zcr, zcs, List.replicate, zct, zcu, zcv, zcw, zcx, zcy, zcz, zda, zdb, zdc, zdd, zde, zdf, zdg, zdh, zdi, killT, delta, tak, ev, ad, taks, evs, nL, getH, pack, arith, callD, Nat.reduceAdd, Nat.reduceSub, Nat.reduceMul, Nat.reduceLeDiff, Nat.reduceEqDiff, Nat.reduceBEq, Nat.reduceBNe, Nat.reduceLT, Nat.reduceDiv, Int.reduceNeg, Int.reduceLT, Int.reduceLE, Int.reduceEq, Int.reduceNe, Int.reduceAdd, Int.reduceSub, Int.reduceMul, Int.reduceToNat, Int.reduceBEq, Int.reduceBNe, fillP, fillE, okE, okW, bound, elS, srcS, Fin, finish, ress, resOf, one, keeps, ↓reduceIte, Dl.ap, Dl.slots, okD, isLp, zeros, reduceCtorEq, zdj, zdk, tf_record_Check, hl, k1, k4, hO, hA, bl_len, gt_iff_lt, hs2, q3, hB, hlt, v0, v1, w0, w1, hS, ht]
      · rw [if_pos rfl, Rc.tv_eq]
        refine callT_of rfl tab_record_Check ?_
        simp (maxSteps := 4000000) only [↓set16, ↓sl16, zaa, zab, zac, zad, zz0, zz1, zz2, zz3, zz4, zae, zaf, zag, zah, zai, zaj, zak, zal, zam, zan, zao, zap, zaq, zar, zas, zat, zau, zav, zaw, zax, zay, zaz, zba, zbb, zbc, zbd, zbe, zbf, zbg, zbh, zbi, zbj, zbk, zbl, zbm, zbn, zbo, zbp, zbq, zbr, zbs, zbt, zbu, zbv, zbw, zbx, zby, zbz, zca, zcb, zcc, zcd, zce, zcf, zcg, zch, zci, zcj, zck, zcl, zcm, zcn, ne_eq, zco, zcp, zcq, zcr, zcs, List.replicate, zct, zcu, zcv, zcw, zcx, zcy, zcz, zda, zdb, zdc, zdd, zde, zdf, zdg, zdh, zdi, killT, delta, tak, ev, ad, taks, evs, nL, getH, pack, arith, callD, Nat.reduceAdd, Nat.reduceSub, Nat.reduceMul, Nat.reduceLeDiff, Nat.reduceEqDiff, Nat.reduceBEq, Nat.reduceBNe, Nat.reduceLT, Nat.reduceDiv, Int.reduceNeg, Int.reduceLT, Int.reduceLE, Int.reduceEq, Int.reduceNe, Int.reduceAdd, Int.reduceSub, Int.reduceMul, Int.reduceToNat, Int.reduceBEq, Int.reduceBNe, fillP, fillE, okE, okW, bound, elS, srcS, Fin, finish, ress, resOf, one, keeps, ↓reduceIte, Dl.ap, Dl.slots, okD, isLp, zeros, reduceCtorEq, zdj, zdk, tf_record_Check, hl, k1, k4, hO, hA, bl_len, gt_iff_lt, hs2, q3, hB, hlt, v0, v1, w0, w1, hS, ht]
/-- The same, as the document has it. -/
def okB (r : Rc) : Bool := within r.kd 1 4 && (sameR r (bareR r) && (within r.tm 0 2147483648 && (within r.vo 0 7 && (within r.ix 0 2147483648 && (within r.cf 0 127 && decide ((r.sn.length : Int) ≤ 131072))))))
def checkD (r : Rc) : Bool := okB r && (!(r.kd == 3 && !entB r.en) && !(r.kd == 4 && decide (r.ix < 1)))
theorem check_eq (r : Rc) : checkD r = checkB r := by
  rw [Bool.eq_iff_iff]
  unfold checkD checkB okB
  simp only [Bool.and_eq_true, decide_eq_true_eq, within_iff, Bool.not_eq_true', Bool.or_eq_true, Bool.and_eq_false_iff, sameR, Bool.not_eq_false', beq_iff_eq, beq_eq_false_iff_ne, decide_eq_false_iff_not, ne_eq]
  constructor
  · rintro ⟨⟨hk, hb, h1, h2, h3, h4, h5⟩, h6, h7⟩
    refine ⟨hk, ?_, h5, h6, hb⟩
    unfold Rc.nums
    split
    · simp [within_iff]; omega
    · split
      · simp [within_iff]; omega
      · split
        · simp [within_iff]; omega
        · rfl
  · rintro ⟨hk, hn, h5, h6, hb⟩
    have hb' := hb
    unfold bareR at hb'
    unfold Rc.nums at hn
    by_cases k1 : r.kd = 1
    · rw [if_pos k1] at hb' hn
      simp [within_iff] at hn
      have := congrArg Rc.vo hb'
      simp only at this
      refine ⟨⟨hk, hb, by omega, by omega, by omega, by omega, h5⟩, h6, by omega⟩
    rw [if_neg k1] at hb' hn
    by_cases k2 : r.kd = 2
    · rw [if_pos k2] at hb' hn
      simp [within_iff] at hn
      have e1 := congrArg Rc.ix hb'
      have e2 := congrArg Rc.cf hb'
      simp only at e1 e2
      refine ⟨⟨hk, hb, by omega, by omega, by omega, by omega, h5⟩, h6, by omega⟩
    rw [if_neg k2] at hb' hn
    by_cases k3 : r.kd = 3
    · rw [if_pos k3] at hb'
      have e0 := congrArg Rc.tm hb'
      have e1 := congrArg Rc.ix hb'
      have e2 := congrArg Rc.cf hb'
      have e3 := congrArg Rc.vo hb'
      simp only at e0 e1 e2 e3
      refine ⟨⟨hk, hb, by omega, by omega, by omega, by omega, h5⟩, h6, by omega⟩
    rw [if_neg k3] at hb'
    have k4 : r.kd = 4 := by omega
    rw [if_pos k4] at hn
    simp [within_iff] at hn
    have e0 := congrArg Rc.tm hb'
    have e2 := congrArg Rc.cf hb'
    have e3 := congrArg Rc.vo hb'
    simp only at e0 e2 e3
    refine ⟨⟨hk, hb, by omega, by omega, by omega, by omega, h5⟩, h6, by omega⟩
theorem bare_by (r : Rc) (h1 : ∀ x ∈ r.en.dt, 0 ≤ x ∧ x ≤ 255) (h2 : ∀ x ∈ r.sn, 0 ≤ x ∧ x ≤ 255) : (∀ x ∈ (bareR r).en.dt, 0 ≤ x ∧ x ≤ 255) ∧ (∀ x ∈ (bareR r).sn, 0 ≤ x ∧ x ≤ 255) := by
  have z : ∀ x ∈ ([] : List Int), 0 ≤ x ∧ x ≤ 255 := fun x hx => by cases hx
  unfold bareR
  split
  · exact ⟨z, h2⟩
  · split
    · exact ⟨z, z⟩
    · split
      · exact ⟨h1, z⟩
      · exact ⟨z, z⟩
theorem ref11_Check (r : Rc) (h1 : ∀ x ∈ r.en.dt, 0 ≤ x ∧ x ≤ 255) (h2 : ∀ x ∈ r.sn, 0 ≤ x ∧ x ≤ 255) : CT n_ref11_Check [r.tv] H = some ⟨.int .i64 (ckE (checkB r)), H, false⟩ := by
  have n1 := ref11_in (H := H) r.kd 1 4
  have n2 := ref11_in (H := H) r.tm 0 2147483648
  have n3 := ref11_in (H := H) r.vo 0 7
  have n4 := ref11_in (H := H) r.ix 0 2147483648
  have n5 := ref11_in (H := H) r.cf 0 127
  have hE := ref11_Entry (H := H) r.en
  rw [En.tv_eq] at hE
  rw [← check_eq]
  unfold checkD okB ckE
  have key : ∀ ok : Bool, ok = false → (if (ok && (!(r.kd == 3 && !entB r.en) && !(r.kd == 4 && decide (r.ix < 1)))) = true then (0 : Int) else 1) = 1 := fun ok h => by rw [h, Bool.false_and]; rfl
  cases e1 : within r.kd 1 4 <;> rw [e1] at n1
  · rw [key _ (by simp), Rc.tv_eq]
    refine callT_of rfl tab_ref11_Check ?_
    simp (maxSteps := 4000000) only [↓set16, ↓sl16, zaa, zab, zac, zad, zz0, zz1, zz2, zz3, zz4, zae, zaf, zag, zah, zai, zaj, zak, zal, zam, zan, zao, zap, zaq, zar, zas, zat, zau, zav, zaw, zax, zay, zaz, zba, zbb, zbc, zbd, zbe, zbf, zbg, zbh, zbi, zbj, zbk, zbl, zbm, zbn, zbo, zbp, zbq, zbr, zbs, zbt, zbu, zbv, zbw, zbx, zby, zbz, zca, zcb, zcc, zcd, zce, zcf, zcg, zch, zci, zcj, zck, zcl, zcm, zcn, ne_eq, zco, zcp, zcq, zcr, zcs, List.replicate, zct, zcu, zcv, zcw, zcx, zcy, zcz, zda, zdb, zdc, zdd, zde, zdf, zdg, zdh, zdi, killT, delta, tak, ev, ad, taks, evs, nL, getH, pack, arith, callD, Nat.reduceAdd, Nat.reduceSub, Nat.reduceMul, Nat.reduceLeDiff, Nat.reduceEqDiff, Nat.reduceBEq, Nat.reduceBNe, Nat.reduceLT, Nat.reduceDiv, Int.reduceNeg, Int.reduceLT, Int.reduceLE, Int.reduceEq, Int.reduceNe, Int.reduceAdd, Int.reduceSub, Int.reduceMul, Int.reduceToNat, Int.reduceBEq, Int.reduceBNe, fillP, fillE, okE, okW, bound, elS, srcS, Fin, finish, ress, resOf, one, keeps, ↓reduceIte, Dl.ap, Dl.slots, okD, isLp, zeros, reduceCtorEq, zdj, zdk, tf_ref11_Check, n1]
  have hk : 1 ≤ r.kd ∧ r.kd ≤ 4 := within_iff.1 e1
  obtain ⟨V, W, hV, hW, hB⟩ := ref11_only (H := H) r hk
  have hbb := bare_by r h1 h2
  have hS := ref11_Same (H := H) r (bareR r) h1 hbb.1 h2 hbb.2
  unfold Rc.cells at hB
  have v0 := hV.s
  have v1 := hV.c
  have w0 := hW.s
  have w1 := hW.c
  rw [Rc.tv_eq] at hB
  rw [Rc.tv_eq, Rc.tv_eq] at hS
  cases e2 : sameR r (bareR r) <;> rw [e2] at hS
  · rw [key _ (by simp), Rc.tv_eq]
    refine callT_of rfl tab_ref11_Check ?_
    simp (maxSteps := 4000000) only [↓set16, ↓sl16, zaa, zab, zac, zad, zz0, zz1, zz2, zz3, zz4, zae, zaf, zag, zah, zai, zaj, zak, zal, zam, zan, zao, zap, zaq, zar, zas, zat, zau, zav, zaw, zax, zay, zaz, zba, zbb, zbc, zbd, zbe, zbf, zbg, zbh, zbi, zbj, zbk, zbl, zbm, zbn, zbo, zbp, zbq, zbr, zbs, zbt, zbu, zbv, zbw, zbx, zby, zbz, zca, zcb, zcc, zcd, zce, zcf, zcg, zch, zci, zcj, zck, zcl, zcm, zcn, ne_eq, zco, zcp, zcq, zcr, zcs, List.replicate, zct, zcu, zcv, zcw, zcx, zcy, zcz, zda, zdb, zdc, zdd, zde, zdf, zdg, zdh, zdi, killT, delta, tak, ev, ad, taks, evs, nL, getH, pack, arith, callD, Nat.reduceAdd, Nat.reduceSub, Nat.reduceMul, Nat.reduceLeDiff, Nat.reduceEqDiff, Nat.reduceBEq, Nat.reduceBNe, Nat.reduceLT, Nat.reduceDiv, Int.reduceNeg, Int.reduceLT, Int.reduceLE, Int.reduceEq, Int.reduceNe, Int.reduceAdd, Int.reduceSub, Int.reduceMul, Int.reduceToNat, Int.reduceBEq, Int.reduceBNe, fillP, fillE, okE, okW, bound, elS, srcS, Fin, finish, ress, resOf, one, keeps, ↓reduceIte, Dl.ap, Dl.slots, okD, isLp, zeros, reduceCtorEq, zdj, zdk, tf_ref11_Check, n1, hB, v0, v1, w0, w1, hS]
  cases e3 : within r.tm 0 2147483648 <;> rw [e3] at n2
  · rw [key _ (by simp), Rc.tv_eq]
    refine callT_of rfl tab_ref11_Check ?_
    simp (maxSteps := 4000000) only [↓set16, ↓sl16, zaa, zab, zac, zad, zz0, zz1, zz2, zz3, zz4, zae, zaf, zag, zah, zai, zaj, zak, zal, zam, zan, zao, zap, zaq, zar, zas, zat, zau, zav, zaw, zax, zay, zaz, zba, zbb, zbc, zbd, zbe, zbf, zbg, zbh, zbi, zbj, zbk, zbl, zbm, zbn, zbo, zbp, zbq, zbr, zbs, zbt, zbu, zbv, zbw, zbx, zby, zbz, zca, zcb, zcc, zcd, zce, zcf, zcg, zch, zci, zcj, zck, zcl, zcm, zcn, ne_eq, zco, zcp, zcq, zcr, zcs, List.replicate, zct, zcu, zcv, zcw, zcx, zcy, zcz, zda, zdb, zdc, zdd, zde, zdf, zdg, zdh, zdi, killT, delta, tak, ev, ad, taks, evs, nL, getH, pack, arith, callD, Nat.reduceAdd, Nat.reduceSub, Nat.reduceMul, Nat.reduceLeDiff, Nat.reduceEqDiff, Nat.reduceBEq, Nat.reduceBNe, Nat.reduceLT, Nat.reduceDiv, Int.reduceNeg, Int.reduceLT, Int.reduceLE, Int.reduceEq, Int.reduceNe, Int.reduceAdd, Int.reduceSub, Int.reduceMul, Int.reduceToNat, Int.reduceBEq, Int.reduceBNe, fillP, fillE, okE, okW, bound, elS, srcS, Fin, finish, ress, resOf, one, keeps, ↓reduceIte, Dl.ap, Dl.slots, okD, isLp, zeros, reduceCtorEq, zdj, zdk, tf_ref11_Check, n1, hB, v0, v1, w0, w1, hS, n2]
  cases e4 : within r.vo 0 7 <;> rw [e4] at n3
  · rw [key _ (by simp), Rc.tv_eq]
    refine callT_of rfl tab_ref11_Check ?_
    simp (maxSteps := 4000000) only [↓set16, ↓sl16, zaa, zab, zac, zad, zz0, zz1, zz2, zz3, zz4, zae, zaf, zag, zah, zai, zaj, zak, zal, zam, zan, zao, zap, zaq, zar, zas, zat, zau, zav, zaw, zax, zay, zaz, zba, zbb, zbc, zbd, zbe, zbf, zbg, zbh, zbi, zbj, zbk, zbl, zbm, zbn, zbo, zbp, zbq, zbr, zbs, zbt, zbu, zbv, zbw, zbx, zby, zbz, zca, zcb, zcc, zcd, zce, zcf, zcg, zch, zci, zcj, zck, zcl, zcm, zcn, ne_eq, zco, zcp, zcq, zcr, zcs, List.replicate, zct, zcu, zcv, zcw, zcx, zcy, zcz, zda, zdb, zdc, zdd, zde, zdf, zdg, zdh, zdi, killT, delta, tak, ev, ad, taks, evs, nL, getH, pack, arith, callD, Nat.reduceAdd, Nat.reduceSub, Nat.reduceMul, Nat.reduceLeDiff, Nat.reduceEqDiff, Nat.reduceBEq, Nat.reduceBNe, Nat.reduceLT, Nat.reduceDiv, Int.reduceNeg, Int.reduceLT, Int.reduceLE, Int.reduceEq, Int.reduceNe, Int.reduceAdd, Int.reduceSub, Int.reduceMul, Int.reduceToNat, Int.reduceBEq, Int.reduceBNe, fillP, fillE, okE, okW, bound, elS, srcS, Fin, finish, ress, resOf, one, keeps, ↓reduceIte, Dl.ap, Dl.slots, okD, isLp, zeros, reduceCtorEq, zdj, zdk, tf_ref11_Check, n1, hB, v0, v1, w0, w1, hS, n2, n3]
  cases e5 : within r.ix 0 2147483648 <;> rw [e5] at n4
  · rw [key _ (by simp), Rc.tv_eq]
    refine callT_of rfl tab_ref11_Check ?_
    simp (maxSteps := 4000000) only [↓set16, ↓sl16, zaa, zab, zac, zad, zz0, zz1, zz2, zz3, zz4, zae, zaf, zag, zah, zai, zaj, zak, zal, zam, zan, zao, zap, zaq, zar, zas, zat, zau, zav, zaw, zax, zay, zaz, zba, zbb, zbc, zbd, zbe, zbf, zbg, zbh, zbi, zbj, zbk, zbl, zbm, zbn, zbo, zbp, zbq, zbr, zbs, zbt, zbu, zbv, zbw, zbx, zby, zbz, zca, zcb, zcc, zcd, zce, zcf, zcg, zch, zci, zcj, zck, zcl, zcm, zcn, ne_eq, zco, zcp, zcq, zcr, zcs, List.replicate, zct, zcu, zcv, zcw, zcx, zcy, zcz, zda, zdb, zdc, zdd, zde, zdf, zdg, zdh, zdi, killT, delta, tak, ev, ad, taks, evs, nL, getH, pack, arith, callD, Nat.reduceAdd, Nat.reduceSub, Nat.reduceMul, Nat.reduceLeDiff, Nat.reduceEqDiff, Nat.reduceBEq, Nat.reduceBNe, Nat.reduceLT, Nat.reduceDiv, Int.reduceNeg, Int.reduceLT, Int.reduceLE, Int.reduceEq, Int.reduceNe, Int.reduceAdd, Int.reduceSub, Int.reduceMul, Int.reduceToNat, Int.reduceBEq, Int.reduceBNe, fillP, fillE, okE, okW, bound, elS, srcS, Fin, finish, ress, resOf, one, keeps, ↓reduceIte, Dl.ap, Dl.slots, okD, isLp, zeros, reduceCtorEq, zdj, zdk, tf_ref11_Check, n1, hB, v0, v1, w0, w1, hS, n2, n3, n4]
  cases e6 : within r.cf 0 127 <;> rw [e6] at n5
  · rw [key _ (by simp), Rc.tv_eq]
    refine callT_of rfl tab_ref11_Check ?_
    simp (maxSteps := 4000000) only [↓set16, ↓sl16, zaa, zab, zac, zad, zz0, zz1, zz2, zz3, zz4, zae, zaf, zag, zah, zai, zaj, zak, zal, zam, zan, zao, zap, zaq, zar, zas, zat, zau, zav, zaw, zax, zay, zaz, zba, zbb, zbc, zbd, zbe, zbf, zbg, zbh, zbi, zbj, zbk, zbl, zbm, zbn, zbo, zbp, zbq, zbr, zbs, zbt, zbu, zbv, zbw, zbx, zby, zbz, zca, zcb, zcc, zcd, zce, zcf, zcg, zch, zci, zcj, zck, zcl, zcm, zcn, ne_eq, zco, zcp, zcq, zcr, zcs, List.replicate, zct, zcu, zcv, zcw, zcx, zcy, zcz, zda, zdb, zdc, zdd, zde, zdf, zdg, zdh, zdi, killT, delta, tak, ev, ad, taks, evs, nL, getH, pack, arith, callD, Nat.reduceAdd, Nat.reduceSub, Nat.reduceMul, Nat.reduceLeDiff, Nat.reduceEqDiff, Nat.reduceBEq, Nat.reduceBNe, Nat.reduceLT, Nat.reduceDiv, Int.reduceNeg, Int.reduceLT, Int.reduceLE, Int.reduceEq, Int.reduceNe, Int.reduceAdd, Int.reduceSub, Int.reduceMul, Int.reduceToNat, Int.reduceBEq, Int.reduceBNe, fillP, fillE, okE, okW, bound, elS, srcS, Fin, finish, ress, resOf, one, keeps, ↓reduceIte, Dl.ap, Dl.slots, okD, isLp, zeros, reduceCtorEq, zdj, zdk, tf_ref11_Check, n1, hB, v0, v1, w0, w1, hS, n2, n3, n4, n5]
  by_cases e7 : (r.sn.length : Int) ≤ 131072
  rotate_left
  · rw [key _ (by simp [e7]), Rc.tv_eq]
    refine callT_of rfl tab_ref11_Check ?_
    simp (maxSteps := 4000000) only [↓set16, ↓sl16, zaa, zab, zac, zad, zz0, zz1, zz2, zz3, zz4, zae, zaf, zag, zah, zai, zaj, zak, zal, zam, zan, zao, zap, zaq, zar, zas, zat, zau, zav, zaw, zax, zay, zaz, zba, zbb, zbc, zbd, zbe, zbf, zbg, zbh, zbi, zbj, zbk, zbl, zbm, zbn, zbo, zbp, zbq, zbr, zbs, zbt, zbu, zbv, zbw, zbx, zby, zbz, zca, zcb, zcc, zcd, zce, zcf, zcg, zch, zci, zcj, zck, zcl, zcm, zcn, ne_eq, zco, zcp, zcq, zcr, zcs, List.replicate, zct, zcu, zcv, zcw, zcx, zcy, zcz, zda, zdb, zdc, zdd, zde, zdf, zdg, zdh, zdi, killT, delta, tak, ev, ad, taks, evs, nL, getH, pack, arith, callD, Nat.reduceAdd, Nat.reduceSub, Nat.reduceMul, Nat.reduceLeDiff, Nat.reduceEqDiff, Nat.reduceBEq, Nat.reduceBNe, Nat.reduceLT, Nat.reduceDiv, Int.reduceNeg, Int.reduceLT, Int.reduceLE, Int.reduceEq, Int.reduceNe, Int.reduceAdd, Int.reduceSub, Int.reduceMul, Int.reduceToNat, Int.reduceBEq, Int.reduceBNe, fillP, fillE, okE, okW, bound, elS, srcS, Fin, finish, ress, resOf, one, keeps, ↓reduceIte, Dl.ap, Dl.slots, okD, isLp, zeros, reduceCtorEq, zdj, zdk, tf_ref11_Check, n1, hB, v0, v1, w0, w1, hS, n2, n3, n4, n5, bl_len, e7]
  rw [decide_eq_true e7]
  simp only [Bool.true_and]
  by_cases h3 : r.kd = 3
  · have q3 : (r.kd == 3) = true := by simp [h3]
    have q4 : (r.kd == 4) = false := by simp [h3]
    rw [q3, q4, Bool.true_and, Bool.false_and, Bool.not_not, Bool.not_false, Bool.and_true]
    cases he : entB r.en <;> rw [he] at hE
    · rw [if_neg (by simp), Rc.tv_eq]
      refine callT_of rfl tab_ref11_Check ?_
      simp (maxSteps := 4000000) only [↓set16, ↓sl16, zaa, zab, zac, zad, zz0, zz1, zz2, zz3, zz4, zae, zaf, zag, zah, zai, zaj, zak, zal, zam, zan, zao, zap, zaq, zar, zas, zat, zau, zav, zaw, zax, zay, zaz, zba, zbb, zbc, zbd, zbe, zbf, zbg, zbh, zbi, zbj, zbk, zbl, zbm, zbn, zbo, zbp, zbq, zbr, zbs, zbt, zbu, zbv, zbw, zbx, zby, zbz, zca, zcb, zcc, zcd, zce, zcf, zcg, zch, zci, zcj, zck, zcl, zcm, zcn, ne_eq, zco, zcp, zcq, zcr, zcs, List.replicate, zct, zcu, zcv, zcw, zcx, zcy, zcz, zda, zdb, zdc, zdd, zde, zdf, zdg, zdh, zdi, killT, delta, tak, ev, ad, taks, evs, nL, getH, pack, arith, callD, Nat.reduceAdd, Nat.reduceSub, Nat.reduceMul, Nat.reduceLeDiff, Nat.reduceEqDiff, Nat.reduceBEq, Nat.reduceBNe, Nat.reduceLT, Nat.reduceDiv, Int.reduceNeg, Int.reduceLT, Int.reduceLE, Int.reduceEq, Int.reduceNe, Int.reduceAdd, Int.reduceSub, Int.reduceMul, Int.reduceToNat, Int.reduceBEq, Int.reduceBNe, fillP, fillE, okE, okW, bound, elS, srcS, Fin, finish, ress, resOf, one, keeps, ↓reduceIte, Dl.ap, Dl.slots, okD, isLp, zeros, reduceCtorEq, zdj, zdk, tf_ref11_Check, n1, hB, v0, v1, w0, w1, hS, n2, n3, n4, n5, bl_len, e7, q3, hE]
    · rw [if_pos rfl, Rc.tv_eq]
      refine callT_of rfl tab_ref11_Check ?_
      simp (maxSteps := 4000000) only [↓set16, ↓sl16, zaa, zab, zac, zad, zz0, zz1, zz2, zz3, zz4, zae, zaf, zag, zah, zai, zaj, zak, zal, zam, zan, zao, zap, zaq, zar, zas, zat, zau, zav, zaw, zax, zay, zaz, zba, zbb, zbc, zbd, zbe, zbf, zbg, zbh, zbi, zbj, zbk, zbl, zbm, zbn, zbo, zbp, zbq, zbr, zbs, zbt, zbu, zbv, zbw, zbx, zby, zbz, zca, zcb, zcc, zcd, zce, zcf, zcg, zch, zci, zcj, zck, zcl, zcm, zcn, ne_eq, zco, zcp, zcq, zcr, zcs, List.replicate, zct, zcu, zcv, zcw, zcx, zcy, zcz, zda, zdb, zdc, zdd, zde, zdf, zdg, zdh, zdi, killT, delta, tak, ev, ad, taks, evs, nL, getH, pack, arith, callD, Nat.reduceAdd, Nat.reduceSub, Nat.reduceMul, Nat.reduceLeDiff, Nat.reduceEqDiff, Nat.reduceBEq, Nat.reduceBNe, Nat.reduceLT, Nat.reduceDiv, Int.reduceNeg, Int.reduceLT, Int.reduceLE, Int.reduceEq, Int.reduceNe, Int.reduceAdd, Int.reduceSub, Int.reduceMul, Int.reduceToNat, Int.reduceBEq, Int.reduceBNe, fillP, fillE, okE, okW, bound, elS, srcS, Fin, finish, ress, resOf, one, keeps, ↓reduceIte, Dl.ap, Dl.slots, okD, isLp, zeros, reduceCtorEq, zdj, zdk, tf_ref11_Check, n1, hB, v0, v1, w0, w1, hS, n2, n3, n4, n5, bl_len, e7, q3, q4, hE]
  have q3 : (r.kd == 3) = false := by simp [h3]
  rw [q3, Bool.false_and, Bool.not_false, Bool.true_and]
  by_cases h4 : r.kd = 4
  · have q4 : (r.kd == 4) = true := by simp [h4]
    rw [q4, Bool.true_and]
    by_cases h5 : r.ix < 1
    · rw [decide_eq_true h5, Bool.not_true, if_neg (by simp), Rc.tv_eq]
      refine callT_of rfl tab_ref11_Check ?_
      simp (maxSteps := 4000000) only [↓set16, ↓sl16, zaa, zab, zac, zad, zz0, zz1, zz2, zz3, zz4, zae, zaf, zag, zah, zai, zaj, zak, zal, zam, zan, zao, zap, zaq, zar, zas, zat, zau, zav, zaw, zax, zay, zaz, zba, zbb, zbc, zbd, zbe, zbf, zbg, zbh, zbi, zbj, zbk, zbl, zbm, zbn, zbo, zbp, zbq, zbr, zbs, zbt, zbu, zbv, zbw, zbx, zby, zbz, zca, zcb, zcc, zcd, zce, zcf, zcg, zch, zci, zcj, zck, zcl, zcm, zcn, ne_eq, zco, zcp, zcq, zcr, zcs, List.replicate, zct, zcu, zcv, zcw, zcx, zcy, zcz, zda, zdb, zdc, zdd, zde, zdf, zdg, zdh, zdi, killT, delta, tak, ev, ad, taks, evs, nL, getH, pack, arith, callD, Nat.reduceAdd, Nat.reduceSub, Nat.reduceMul, Nat.reduceLeDiff, Nat.reduceEqDiff, Nat.reduceBEq, Nat.reduceBNe, Nat.reduceLT, Nat.reduceDiv, Int.reduceNeg, Int.reduceLT, Int.reduceLE, Int.reduceEq, Int.reduceNe, Int.reduceAdd, Int.reduceSub, Int.reduceMul, Int.reduceToNat, Int.reduceBEq, Int.reduceBNe, fillP, fillE, okE, okW, bound, elS, srcS, Fin, finish, ress, resOf, one, keeps, ↓reduceIte, Dl.ap, Dl.slots, okD, isLp, zeros, reduceCtorEq, zdj, zdk, tf_ref11_Check, n1, hB, v0, v1, w0, w1, hS, n2, n3, n4, n5, bl_len, e7, q3, q4, h5]
    · rw [decide_eq_false h5, Bool.not_false, if_pos rfl, Rc.tv_eq]
      refine callT_of rfl tab_ref11_Check ?_
      simp (maxSteps := 4000000) only [↓set16, ↓sl16, zaa, zab, zac, zad, zz0, zz1, zz2, zz3, zz4, zae, zaf, zag, zah, zai, zaj, zak, zal, zam, zan, zao, zap, zaq, zar, zas, zat, zau, zav, zaw, zax, zay, zaz, zba, zbb, zbc, zbd, zbe, zbf, zbg, zbh, zbi, zbj, zbk, zbl, zbm, zbn, zbo, zbp, zbq, zbr, zbs, zbt, zbu, zbv, zbw, zbx, zby, zbz, zca, zcb, zcc, zcd, zce, zcf, zcg, zch, zci, zcj, zck, zcl, zcm, zcn, ne_eq, zco, zcp, zcq, zcr, zcs, List.replicate, zct, zcu, zcv, zcw, zcx, zcy, zcz, zda, zdb, zdc, zdd, zde, zdf, zdg, zdh, zdi, killT, delta, tak, ev, ad, taks, evs, nL, getH, pack, arith, callD, Nat.reduceAdd, Nat.reduceSub, Nat.reduceMul, Nat.reduceLeDiff, Nat.reduceEqDiff, Nat.reduceBEq, Nat.reduceBNe, Nat.reduceLT, Nat.reduceDiv, Int.reduceNeg, Int.reduceLT, Int.reduceLE, Int.reduceEq, Int.reduceNe, Int.reduceAdd, Int.reduceSub, Int.reduceMul, Int.reduceToNat, Int.reduceBEq, Int.reduceBNe, fillP, fillE, okE, okW, bound, elS, srcS, Fin, finish, ress, resOf, one, keeps, ↓reduceIte, Dl.ap, Dl.slots, okD, isLp, zeros, reduceCtorEq, zdj, zdk, tf_ref11_Check, n1, hB, v0, v1, w0, w1, hS, n2, n3, n4, n5, bl_len, e7, q3, q4, h5]
  · have q4 : (r.kd == 4) = false := by simp [h4]
    rw [q4, Bool.false_and, Bool.not_false, if_pos rfl, Rc.tv_eq]
    refine callT_of rfl tab_ref11_Check ?_
    simp (maxSteps := 4000000) only [↓set16, ↓sl16, zaa, zab, zac, zad, zz0, zz1, zz2, zz3, zz4, zae, zaf, zag, zah, zai, zaj, zak, zal, zam, zan, zao, zap, zaq, zar, zas, zat, zau, zav, zaw, zax, zay, zaz, zba, zbb, zbc, zbd, zbe, zbf, zbg, zbh, zbi, zbj, zbk, zbl, zbm, zbn, zbo, zbp, zbq, zbr, zbs, zbt, zbu, zbv, zbw, zbx, zby, zbz, zca, zcb, zcc, zcd, zce, zcf, zcg, zch, zci, zcj, zck, zcl, zcm, zcn, ne_eq, zco, zcp, zcq, zcr, zcs, List.replicate, zct, zcu, zcv, zcw, zcx, zcy, zcz, zda, zdb, zdc, zdd, zde, zdf, zdg, zdh, zdi, killT, delta, tak, ev, ad, taks, evs, nL, getH, pack, arith, callD, Nat.reduceAdd, Nat.reduceSub, Nat.reduceMul, Nat.reduceLeDiff, Nat.reduceEqDiff, Nat.reduceBEq, Nat.reduceBNe, Nat.reduceLT, Nat.reduceDiv, Int.reduceNeg, Int.reduceLT, Int.reduceLE, Int.reduceEq, Int.reduceNe, Int.reduceAdd, Int.reduceSub, Int.reduceMul, Int.reduceToNat, Int.reduceBEq, Int.reduceBNe, fillP, fillE, okE, okW, bound, elS, srcS, Fin, finish, ress, resOf, one, keeps, ↓reduceIte, Dl.ap, Dl.slots, okD, isLp, zeros, reduceCtorEq, zdj, zdk, tf_ref11_Check, n1, hB, v0, v1, w0, w1, hS, n2, n3, n4, n5, bl_len, e7, q3, q4]
end Go.T
