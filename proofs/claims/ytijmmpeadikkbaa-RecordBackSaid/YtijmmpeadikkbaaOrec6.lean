/- What the record's functions answer: records, bare. -/
import Derived.Test.YtijmmpeadikkbaaOrec5
set_option linter.unusedVariables false
set_option linter.unusedSimpArgs false
set_option maxRecDepth 10000
set_option pp.deepTerms true
set_option pp.maxSteps 1000000
set_option maxHeartbeats 2000000
namespace Go.T
attribute [local irreducible] Run Back RS Ap
variable {H H0 : Heap} {i j : Nat} {s : RSt}
theorem record_bare (r : Rc) (hk : 1 ≤ r.kd ∧ r.kd ≤ 4) : ∃ V W, RdB V (bareR r).en.dt ∧ RdB W (bareR r).sn ∧ CT n_record_bare [r.tv] [] = some ⟨.agg ((bareR r).cells V W), [], false⟩ := by
  rw [Rc.tv_eq]
  have O1 := record_ofRecord (H := [[.int .i64 r.kd, .int .i64 r.tm, .int .i64 r.vo, .int .i64 r.en.ix, .int .i64 r.en.tm, .int .i64 r.en.kd, .sl .shr (bl r.en.dt), .int .i64 r.ix, .int .i64 r.cf, .sl .shr (bl r.sn)], [.int .i64 r.kd, .int .i64 0, .int .i64 0, .int .i64 0, .int .i64 0, .int .i64 0, .nils, .int .i64 0, .int .i64 0, .nils]]) (j := 0) r (v := .sl .shr (bl r.en.dt)) (w := .sl .shr (bl r.sn)) rfl
  have O2 := record_ofRecord (H := [[.int .i64 r.kd, .int .i64 r.tm, .int .i64 r.vo, .int .i64 r.en.ix, .int .i64 r.en.tm, .int .i64 r.en.kd, .sl .shr (bl r.en.dt), .int .i64 r.ix, .int .i64 r.cf, .sl .shr (bl r.sn)], [.int .i64 r.kd, .int .i64 0, .int .i64 0, .int .i64 0, .int .i64 0, .int .i64 0, .nils, .int .i64 0, .int .i64 0, .nils]]) (j := 1) ⟨r.kd, 0, 0, zEn, 0, 0, []⟩ (v := .nils) (w := .nils) rfl
  have i1 : IntKind.i64.wrap 1 = 1 := rfl
  have i2 : IntKind.i64.wrap 2 = 2 := rfl
  have i3 : IntKind.i64.wrap 3 = 3 := rfl
  have j0 : ((0 : Nat) : Int) = 0 := rfl
  have j1 : ((1 : Nat) : Int) = 1 := rfl
  have j2 : ((2 : Nat) : Int) = 2 := rfl
  have j3 : ((3 : Nat) : Int) = 3 := rfl
  have k0 : ∀ n, TV.lts n [.int .i64 r.kd, .int .i64 0, .int .i64 0, .int .i64 0, .int .i64 0, .int .i64 0, .nils, .int .i64 0, .int .i64 0, .nils] = true := fun n => rfl
  have k1 : ∀ n l, TV.lts n [.sl .shr (bl l)] = true := fun n l => by simp [TV.lts, TV.lt, bl_lts]
  have k2 : ∀ n, TV.lts n [.int .i64 r.en.ix, .int .i64 r.en.tm, .int .i64 r.en.kd, .sl .shr (bl r.en.dt)] = true := fun n => by simp [TV.lts, TV.lt, bl_lts]
  have tz : ∀ a b c d e f g h l m x y, trim true 0 ⟨.agg [.int .i64 a, .int .i64 b, .int .i64 c, .int .i64 d, .int .i64 e, .int .i64 f, .sl .shr (bl l), .int .i64 g, .int .i64 h, .sl .shr (bl m)], [x, y], false⟩ = ⟨.agg [.int .i64 a, .int .i64 b, .int .i64 c, .int .i64 d, .int .i64 e, .int .i64 f, .sl .shr (bl l), .int .i64 g, .int .i64 h, .sl .shr (bl m)], [], false⟩ := fun a b c d e f g h l m x y => trim_in (h := []) (x := [x, y]) rfl (by simp [TV.lt, TV.lts, bl_lts])
  have t1 := fun a b c d e f g h m x y => tz a b c d e f g h [] m x y
  have t2 := fun a b c d e f g h l x y => tz a b c d e f g h l [] x y
  have t3 := fun a b c d e f g h x y => tz a b c d e f g h [] [] x y
  have nb : bl [] = [] := rfl
  simp only [nb] at t1 t2 t3
  by_cases h1 : r.kd = 1
  · have q1 : (r.kd == 1) = true := by simp [h1]
    have e1 : ∀ j, r.numT j = .sl (.own 3 true) [.agg [.ptr j 7, .int .i64 0, .int .i64 2147483648], .agg [.ptr j 1, .int .i64 0, .int .i64 2147483648], .agg [.ptr j 8, .int .i64 0, .int .i64 127]] := fun j => by
      unfold Rc.numT Rc.nums; rw [if_pos (.inl h1), if_pos h1]; rfl
    have e2 : ∀ j, (⟨r.kd, 0, 0, zEn, 0, 0, []⟩ : Rc).numT j = .sl (.own 3 true) [.agg [.ptr j 7, .int .i64 0, .int .i64 2147483648], .agg [.ptr j 1, .int .i64 0, .int .i64 2147483648], .agg [.ptr j 8, .int .i64 0, .int .i64 127]] := fun j => by
      unfold Rc.numT Rc.nums; simp only; rw [if_pos (.inl h1), if_pos h1]; rfl
    rw [e1] at O1
    rw [e2] at O2
    refine ⟨.sl .shr [], .sl .shr (bl r.sn), ?_, ?_, ?_⟩
    · unfold bareR; rw [if_pos h1]; exact ⟨rfl, rfl⟩
    · unfold bareR; rw [if_pos h1]; exact ⟨rfl, rfl⟩
    · unfold bareR Rc.cells; rw [if_pos h1, ← h1]
      simp only [zEn]
      refine callT_of rfl tab_record_bare ?_
      simp (maxSteps := 4000000) only [↓set16, ↓sl16, zaa, zab, zac, zad, zz0, zz1, zz2, zz3, zz4, zae, zaf, zag, zah, zai, zaj, zak, zal, zam, zan, zao, zap, zaq, zar, zas, zat, zau, zav, zaw, zax, zay, zaz, zba, zbb, zbc, zbd, zbe, zbf, zbg, zbh, zbi, zbj, zbk, zbl, zbm, zbn, zbo, zbp, zbq, zbr, zbs, zbt, zbu, zbv, zbw, zbx, zby, zbz, zca, zcb, zcc, zcd, zce, zcf, zcg, zch, zci, zcj, zck, zcl, zcm, zcn, ne_eq, zco, zcp, zcq, zcr, zcs, List.replicate, zct, zcu, zcv, zcw, zcx, zcy, zcz, zda, zdb, zdc, zdd, zde, zdf, zdg, zdh, zdi, killT, delta, tak, ev, ad, taks, evs, nL, getH, pack, arith, callD, Nat.reduceAdd, Nat.reduceSub, Nat.reduceMul, Nat.reduceLeDiff, Nat.reduceEqDiff, Nat.reduceBEq, Nat.reduceBNe, Nat.reduceLT, Nat.reduceDiv, Int.reduceNeg, Int.reduceLT, Int.reduceLE, Int.reduceEq, Int.reduceNe, Int.reduceAdd, Int.reduceSub, Int.reduceMul, Int.reduceToNat, Int.reduceBEq, Int.reduceBNe, fillP, fillE, okE, okW, bound, elS, srcS, Fin, finish, ress, resOf, one, keeps, ↓reduceIte, Dl.ap, Dl.slots, okD, isLp, zeros, reduceCtorEq, zdj, zdk, tf_record_bare, jn_record_bare_2, q1, O1, O2, Run_loop, lp_record_bare_1, i1, i2, i3, j1, j2, j0, j3, live, dead, Int.lt_irrefl, k0, k1, k2, lts_i, t1, t2, t3]
  have q1 : (r.kd == 1) = false := by simp [h1]
  by_cases h2 : r.kd = 2
  · have q2 : (r.kd == 2) = true := by simp [h2]
    have q3 : (r.kd == 3) = false := by simp [h2]
    have e1 : ∀ j, r.numT j = .sl (.own 3 true) [.agg [.ptr j 1, .int .i64 0, .int .i64 2147483648], .agg [.ptr j 2, .int .i64 0, .int .i64 7]] := fun j => by
      unfold Rc.numT Rc.nums; rw [if_pos (.inr (.inl h2)), if_neg h1, if_pos h2]; rfl
    have e2 : ∀ j, (⟨r.kd, 0, 0, zEn, 0, 0, []⟩ : Rc).numT j = .sl (.own 3 true) [.agg [.ptr j 1, .int .i64 0, .int .i64 2147483648], .agg [.ptr j 2, .int .i64 0, .int .i64 7]] := fun j => by
      unfold Rc.numT Rc.nums; simp only; rw [if_pos (.inr (.inl h2)), if_neg h1, if_pos h2]; rfl
    rw [e1] at O1
    rw [e2] at O2
    refine ⟨.sl .shr [], .sl .shr [], ?_, ?_, ?_⟩
    · unfold bareR; rw [if_neg h1, if_pos h2]; exact ⟨rfl, rfl⟩
    · unfold bareR; rw [if_neg h1, if_pos h2]; exact ⟨rfl, rfl⟩
    · unfold bareR Rc.cells; rw [if_neg h1, if_pos h2, ← h2]
      simp only [zEn]
      refine callT_of rfl tab_record_bare ?_
      simp (maxSteps := 4000000) only [↓set16, ↓sl16, zaa, zab, zac, zad, zz0, zz1, zz2, zz3, zz4, zae, zaf, zag, zah, zai, zaj, zak, zal, zam, zan, zao, zap, zaq, zar, zas, zat, zau, zav, zaw, zax, zay, zaz, zba, zbb, zbc, zbd, zbe, zbf, zbg, zbh, zbi, zbj, zbk, zbl, zbm, zbn, zbo, zbp, zbq, zbr, zbs, zbt, zbu, zbv, zbw, zbx, zby, zbz, zca, zcb, zcc, zcd, zce, zcf, zcg, zch, zci, zcj, zck, zcl, zcm, zcn, ne_eq, zco, zcp, zcq, zcr, zcs, List.replicate, zct, zcu, zcv, zcw, zcx, zcy, zcz, zda, zdb, zdc, zdd, zde, zdf, zdg, zdh, zdi, killT, delta, tak, ev, ad, taks, evs, nL, getH, pack, arith, callD, Nat.reduceAdd, Nat.reduceSub, Nat.reduceMul, Nat.reduceLeDiff, Nat.reduceEqDiff, Nat.reduceBEq, Nat.reduceBNe, Nat.reduceLT, Nat.reduceDiv, Int.reduceNeg, Int.reduceLT, Int.reduceLE, Int.reduceEq, Int.reduceNe, Int.reduceAdd, Int.reduceSub, Int.reduceMul, Int.reduceToNat, Int.reduceBEq, Int.reduceBNe, fillP, fillE, okE, okW, bound, elS, srcS, Fin, finish, ress, resOf, one, keeps, ↓reduceIte, Dl.ap, Dl.slots, okD, isLp, zeros, reduceCtorEq, zdj, zdk, tf_record_bare, jn_record_bare_2, q1, q2, q3, O1, O2, Run_loop, lp_record_bare_1, i1, i2, i3, j1, j2, j0, j3, live, dead, Int.lt_irrefl, k0, k1, k2, lts_i, t1, t2, t3]
  have q2 : (r.kd == 2) = false := by simp [h2]
  by_cases h3 : r.kd = 3
  · have q3 : (r.kd == 3) = true := by simp [h3]
    have e1 : ∀ j, r.numT j = .nils := fun j => by
      unfold Rc.numT; rw [if_neg (by omega)]
    have e2 : ∀ j, (⟨r.kd, 0, 0, zEn, 0, 0, []⟩ : Rc).numT j = .nils := fun j => by
      unfold Rc.numT; simp only; rw [if_neg (by omega)]
    rw [e1] at O1
    rw [e2] at O2
    refine ⟨.sl .shr (bl r.en.dt), .sl .shr [], ?_, ?_, ?_⟩
    · unfold bareR; rw [if_neg h1, if_neg h2, if_pos h3]; exact ⟨rfl, rfl⟩
    · unfold bareR; rw [if_neg h1, if_neg h2, if_pos h3]; exact ⟨rfl, rfl⟩
    · unfold bareR Rc.cells; rw [if_neg h1, if_neg h2, if_pos h3, ← h3]
      refine callT_of rfl tab_record_bare ?_
      simp (maxSteps := 4000000) only [↓set16, ↓sl16, zaa, zab, zac, zad, zz0, zz1, zz2, zz3, zz4, zae, zaf, zag, zah, zai, zaj, zak, zal, zam, zan, zao, zap, zaq, zar, zas, zat, zau, zav, zaw, zax, zay, zaz, zba, zbb, zbc, zbd, zbe, zbf, zbg, zbh, zbi, zbj, zbk, zbl, zbm, zbn, zbo, zbp, zbq, zbr, zbs, zbt, zbu, zbv, zbw, zbx, zby, zbz, zca, zcb, zcc, zcd, zce, zcf, zcg, zch, zci, zcj, zck, zcl, zcm, zcn, ne_eq, zco, zcp, zcq, zcr, zcs, List.replicate, zct, zcu, zcv, zcw, zcx, zcy, zcz, zda, zdb, zdc, zdd, zde, zdf, zdg, zdh, zdi, killT, delta, tak, ev, ad, taks, evs, nL, getH, pack, arith, callD, Nat.reduceAdd, Nat.reduceSub, Nat.reduceMul, Nat.reduceLeDiff, Nat.reduceEqDiff, Nat.reduceBEq, Nat.reduceBNe, Nat.reduceLT, Nat.reduceDiv, Int.reduceNeg, Int.reduceLT, Int.reduceLE, Int.reduceEq, Int.reduceNe, Int.reduceAdd, Int.reduceSub, Int.reduceMul, Int.reduceToNat, Int.reduceBEq, Int.reduceBNe, fillP, fillE, okE, okW, bound, elS, srcS, Fin, finish, ress, resOf, one, keeps, ↓reduceIte, Dl.ap, Dl.slots, okD, isLp, zeros, reduceCtorEq, zdj, zdk, tf_record_bare, jn_record_bare_2, q1, q2, q3, O1, O2, Run_loop, lp_record_bare_1, i1, i2, i3, j1, j2, j0, j3, live, dead, Int.lt_irrefl, k0, k1, k2, lts_i, t1, t2, t3]
  have q3 : (r.kd == 3) = false := by simp [h3]
  have h4 : r.kd = 4 := by omega
  have e1 : ∀ j, r.numT j = .sl (.own 3 true) [.agg [.ptr j 7, .int .i64 1, .int .i64 2147483648]] := fun j => by
    unfold Rc.numT Rc.nums; rw [if_pos (.inr (.inr h4)), if_neg h1, if_neg h2, if_pos h4]; rfl
  have e2 : ∀ j, (⟨r.kd, 0, 0, zEn, 0, 0, []⟩ : Rc).numT j = .sl (.own 3 true) [.agg [.ptr j 7, .int .i64 1, .int .i64 2147483648]] := fun j => by
    unfold Rc.numT Rc.nums; simp only; rw [if_pos (.inr (.inr h4)), if_neg h1, if_neg h2, if_pos h4]; rfl
  rw [e1] at O1
  rw [e2] at O2
  refine ⟨.sl .shr [], .sl .shr [], ?_, ?_, ?_⟩
  · unfold bareR; rw [if_neg h1, if_neg h2, if_neg h3]; exact ⟨rfl, rfl⟩
  · unfold bareR; rw [if_neg h1, if_neg h2, if_neg h3]; exact ⟨rfl, rfl⟩
  · unfold bareR Rc.cells; rw [if_neg h1, if_neg h2, if_neg h3, ← h4]
    simp only [zEn]
    refine callT_of rfl tab_record_bare ?_
    simp (maxSteps := 4000000) only [↓set16, ↓sl16, zaa, zab, zac, zad, zz0, zz1, zz2, zz3, zz4, zae, zaf, zag, zah, zai, zaj, zak, zal, zam, zan, zao, zap, zaq, zar, zas, zat, zau, zav, zaw, zax, zay, zaz, zba, zbb, zbc, zbd, zbe, zbf, zbg, zbh, zbi, zbj, zbk, zbl, zbm, zbn, zbo, zbp, zbq, zbr, zbs, zbt, zbu, zbv, zbw, zbx, zby, zbz, zca, zcb, zcc, zcd, zce, zcf, zcg, zch, zci, zcj, zck, zcl, zcm, zcn, ne_eq, zco, zcp, zcq, zcr, zcs, List.replicate, zct, zcu, zcv, zcw, zcx, zcy, zcz, zda, zdb, zdc, zdd, zde, zdf, zdg, zdh, zdi, killT, delta, tak, ev, ad, taks, evs, nL, getH, pack, arith, callD, Nat.reduceAdd, Nat.reduceSub, Nat.reduceMul, Nat.reduceLeDiff, Nat.reduceEqDiff, Nat.reduceBEq, Nat.reduceBNe, Nat.reduceLT, Nat.reduceDiv, Int.reduceNeg, Int.reduceLT, Int.reduceLE, Int.reduceEq, Int.reduceNe, Int.reduceAdd, Int.reduceSub, Int.reduceMul, Int.reduceToNat, Int.reduceBEq, Int.reduceBNe, fillP, fillE, okE, okW, bound, elS, srcS, Fin, finish, ress, resOf, one, keeps, ↓reduceIte, Dl.ap, Dl.slots, okD, isLp, zeros, reduceCtorEq, zdj, zdk, tf_record_bare, jn_record_bare_2, q1, q2, q3, O1, O2, Run_loop, lp_record_bare_1, i1, i2, i3, j1, j2, j0, j3, live, dead, Int.lt_irrefl, k0, k1, k2, lts_i, t1, t2, t3]
end Go.T
