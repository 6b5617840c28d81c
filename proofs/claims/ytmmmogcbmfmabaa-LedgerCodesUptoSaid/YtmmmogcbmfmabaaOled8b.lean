/- What the document's Check of a ledger answers: the same. -/
import Derived.Test.YtmmmogcbmfmabaaOled8
set_option linter.unusedVariables false
set_option linter.unusedSimpArgs false
set_option maxRecDepth 10000
set_option maxHeartbeats 1000000
namespace Go.T
attribute [local irreducible] Run Back RS Ap
variable {H : Heap}
/-- The document's walk over the holds: the sum, where all may be. -/
def rcS (nx : Int) : Int → Int → List Hd → Option Int
  | _, s, [] => some s
  | last, s, h :: t => if holdB h = true ∧ h.id < nx ∧ last < h.id then rcS nx h.id (IntKind.i64.wrap (s + h.nb)) t else none
def rcB (l : Lg) : Bool :=
  within l.q 0 1099511627776 && (within l.u 0 1099511627776 && (within l.he 0 1099511627776 && (within l.nx 1 2147483648 && (decide ((l.hs.length : Int) ≤ 8) && (match rcS l.nx 0 0 l.hs with | some s => s == l.he && decide (IntKind.i64.wrap (l.u + l.he) ≤ l.q) | none => false)))))
theorem ref19_Check0 (l : Lg) (hl : l.ok) : CT n_ref19_Check [l.tv] H = some ⟨.bool (rcB l), H, false⟩ := by
  have h1 := ref19_in (H := H) l.q 0 1099511627776
  have h2 := ref19_in (H := H) l.u 0 1099511627776
  have h3 := ref19_in (H := H) l.he 0 1099511627776
  have h4 := ref19_in (H := H) l.nx 1 2147483648
  rw [Lg.tv_eq]
  unfold rcB
  cases e1 : within l.q 0 1099511627776 <;> rw [e1] at h1 <;> simp only [Bool.false_and, Bool.true_and]
  · refine callT_of rfl tab_ref19_Check ?_
    simp (maxSteps := 4000000) only [↓set16, ↓sl16, zaa, zab, zac, zad, zz0, zz1, zz2, zz3, zz4, zae, zaf, zag, zah, zai, zaj, zak, zal, zam, zan, zao, zap, zaq, zar, zas, zat, zau, zav, zaw, zax, zay, zaz, zba, zbb, zbc, zbd, zbe, zbf, zbg, zbh, zbi, zbj, zbk, zbl, zbm, zbn, zbo, zbp, zbq, zbr, zbs, zbt, zbu, zbv, zbw, zbx, zby, zbz, zca, zcb, zcc, zcd, zce, zcf, zcg, zch, zci, zcj, zck, zcl, zcm, zcn, ne_eq, zco, zcp, zcq, zcr, zcs, List.replicate, zct, zcu, zcv, zcw, zcx, zcy, zcz, zda, zdb, zdc, zdd, zde, zdf, zdg, zdh, zdi, killT, delta, tak, ev, ad, taks, evs, nL, getH, pack, arith, callD, Nat.reduceAdd, Nat.reduceSub, Nat.reduceMul, Nat.reduceLeDiff, Nat.reduceEqDiff, Nat.reduceBEq, Nat.reduceBNe, Nat.reduceLT, Nat.reduceDiv, Int.reduceNeg, Int.reduceLT, Int.reduceLE, Int.reduceEq, Int.reduceNe, Int.reduceAdd, Int.reduceSub, Int.reduceMul, Int.reduceToNat, Int.reduceBEq, Int.reduceBNe, fillP, fillE, okE, okW, bound, elS, srcS, Fin, finish, ress, resOf, one, keeps, ↓reduceIte, Dl.ap, Dl.slots, okD, isLp, zeros, reduceCtorEq, zdj, zdk, tf_ref19_Check, h1]
  cases e2 : within l.u 0 1099511627776 <;> rw [e2] at h2 <;> simp only [Bool.false_and, Bool.true_and]
  · refine callT_of rfl tab_ref19_Check ?_
    simp (maxSteps := 4000000) only [↓set16, ↓sl16, zaa, zab, zac, zad, zz0, zz1, zz2, zz3, zz4, zae, zaf, zag, zah, zai, zaj, zak, zal, zam, zan, zao, zap, zaq, zar, zas, zat, zau, zav, zaw, zax, zay, zaz, zba, zbb, zbc, zbd, zbe, zbf, zbg, zbh, zbi, zbj, zbk, zbl, zbm, zbn, zbo, zbp, zbq, zbr, zbs, zbt, zbu, zbv, zbw, zbx, zby, zbz, zca, zcb, zcc, zcd, zce, zcf, zcg, zch, zci, zcj, zck, zcl, zcm, zcn, ne_eq, zco, zcp, zcq, zcr, zcs, List.replicate, zct, zcu, zcv, zcw, zcx, zcy, zcz, zda, zdb, zdc, zdd, zde, zdf, zdg, zdh, zdi, killT, delta, tak, ev, ad, taks, evs, nL, getH, pack, arith, callD, Nat.reduceAdd, Nat.reduceSub, Nat.reduceMul, Nat.reduceLeDiff, Nat.reduceEqDiff, Nat.reduceBEq, Nat.reduceBNe, Nat.reduceLT, Nat.reduceDiv, Int.reduceNeg, Int.reduceLT, Int.reduceLE, Int.reduceEq, Int.reduceNe, Int.reduceAdd, Int.reduceSub, Int.reduceMul, Int.reduceToNat, Int.reduceBEq, Int.reduceBNe, fillP, fillE, okE, okW, bound, elS, srcS, Fin, finish, ress, resOf, one, keeps, ↓reduceIte, Dl.ap, Dl.slots, okD, isLp, zeros, reduceCtorEq, zdj, zdk, tf_ref19_Check, h1, h2]
  cases e3 : within l.he 0 1099511627776 <;> rw [e3] at h3 <;> simp only [Bool.false_and, Bool.true_and]
  · refine callT_of rfl tab_ref19_Check ?_
    simp (maxSteps := 4000000) only [↓set16, ↓sl16, zaa, zab, zac, zad, zz0, zz1, zz2, zz3, zz4, zae, zaf, zag, zah, zai, zaj, zak, zal, zam, zan, zao, zap, zaq, zar, zas, zat, zau, zav, zaw, zax, zay, zaz, zba, zbb, zbc, zbd, zbe, zbf, zbg, zbh, zbi, zbj, zbk, zbl, zbm, zbn, zbo, zbp, zbq, zbr, zbs, zbt, zbu, zbv, zbw, zbx, zby, zbz, zca, zcb, zcc, zcd, zce, zcf, zcg, zch, zci, zcj, zck, zcl, zcm, zcn, ne_eq, zco, zcp, zcq, zcr, zcs, List.replicate, zct, zcu, zcv, zcw, zcx, zcy, zcz, zda, zdb, zdc, zdd, zde, zdf, zdg, zdh, zdi, killT, delta, tak, ev, ad, taks, evs, nL, getH, pack, arith, callD, Nat.reduceAdd, Nat.reduceSub, Nat.reduceMul, Nat.reduceLeDiff, Nat.reduceEqDiff, Nat.reduceBEq, Nat.reduceBNe, Nat.reduceLT, Nat.reduceDiv, Int.reduceNeg, Int.reduceLT, Int.reduceLE, Int.reduceEq, Int.reduceNe, Int.reduceAdd, Int.reduceSub, Int.reduceMul, Int.reduceToNat, Int.reduceBEq, Int.reduceBNe, fillP, fillE, okE, okW, bound, elS, srcS, Fin, finish, ress, resOf, one, keeps, ↓reduceIte, Dl.ap, Dl.slots, okD, isLp, zeros, reduceCtorEq, zdj, zdk, tf_ref19_Check, h1, h2, h3]
  cases e4 : within l.nx 1 2147483648 <;> rw [e4] at h4 <;> simp only [Bool.false_and, Bool.true_and]
  · refine callT_of rfl tab_ref19_Check ?_
    simp (maxSteps := 4000000) only [↓set16, ↓sl16, zaa, zab, zac, zad, zz0, zz1, zz2, zz3, zz4, zae, zaf, zag, zah, zai, zaj, zak, zal, zam, zan, zao, zap, zaq, zar, zas, zat, zau, zav, zaw, zax, zay, zaz, zba, zbb, zbc, zbd, zbe, zbf, zbg, zbh, zbi, zbj, zbk, zbl, zbm, zbn, zbo, zbp, zbq, zbr, zbs, zbt, zbu, zbv, zbw, zbx, zby, zbz, zca, zcb, zcc, zcd, zce, zcf, zcg, zch, zci, zcj, zck, zcl, zcm, zcn, ne_eq, zco, zcp, zcq, zcr, zcs, List.replicate, zct, zcu, zcv, zcw, zcx, zcy, zcz, zda, zdb, zdc, zdd, zde, zdf, zdg, zdh, zdi, killT, delta, tak, ev, ad, taks, evs, nL, getH, pack, arith, callD, Nat.reduceAdd, Nat.reduceSub, Nat.reduceMul, Nat.reduceLeDiff, Nat.reduceEqDiff, Nat.reduceBEq, Nat.reduceBNe, Nat.reduceLT, Nat.reduceDiv, Int.reduceNeg, Int.reduceLT, Int.reduceLE, Int.reduceEq, Int.reduceNe, Int.reduceAdd, Int.reduceSub, Int.reduceMul, Int.reduceToNat, Int.reduceBEq, Int.reduceBNe, fillP, fillE, okE, okW, bound, elS, srcS, Fin, finish, ress, resOf, one, keeps, ↓reduceIte, Dl.ap, Dl.slots, okD, isLp, zeros, reduceCtorEq, zdj, zdk, tf_ref19_Check, h1, h2, h3, h4]
  by_cases e5 : (l.hs.length : Int) ≤ 8
  rotate_left
  · have e5' : (8 : Int) < l.hs.length := by omega
    simp only [e5, decide_false, Bool.false_and]
    refine callT_of rfl tab_ref19_Check ?_
    simp (maxSteps := 4000000) only [↓set16, ↓sl16, zaa, zab, zac, zad, zz0, zz1, zz2, zz3, zz4, zae, zaf, zag, zah, zai, zaj, zak, zal, zam, zan, zao, zap, zaq, zar, zas, zat, zau, zav, zaw, zax, zay, zaz, zba, zbb, zbc, zbd, zbe, zbf, zbg, zbh, zbi, zbj, zbk, zbl, zbm, zbn, zbo, zbp, zbq, zbr, zbs, zbt, zbu, zbv, zbw, zbx, zby, zbz, zca, zcb, zcc, zcd, zce, zcf, zcg, zch, zci, zcj, zck, zcl, zcm, zcn, ne_eq, zco, zcp, zcq, zcr, zcs, List.replicate, zct, zcu, zcv, zcw, zcx, zcy, zcz, zda, zdb, zdc, zdd, zde, zdf, zdg, zdh, zdi, killT, delta, tak, ev, ad, taks, evs, nL, getH, pack, arith, callD, Nat.reduceAdd, Nat.reduceSub, Nat.reduceMul, Nat.reduceLeDiff, Nat.reduceEqDiff, Nat.reduceBEq, Nat.reduceBNe, Nat.reduceLT, Nat.reduceDiv, Int.reduceNeg, Int.reduceLT, Int.reduceLE, Int.reduceEq, Int.reduceNe, Int.reduceAdd, Int.reduceSub, Int.reduceMul, Int.reduceToNat, Int.reduceBEq, Int.reduceBNe, fillP, fillE, okE, okW, bound, elS, srcS, Fin, finish, ress, resOf, one, keeps, ↓reduceIte, Dl.ap, Dl.slots, okD, isLp, zeros, reduceCtorEq, zdj, zdk, tf_ref19_Check, h1, h2, h3, h4, List.length_map, e5', gt_iff_lt]
  have e5' : ¬ (8 : Int) < l.hs.length := by omega
  simp only [e5, decide_true, Bool.true_and]
  refine callT_of rfl tab_ref19_Check ?_
  simp (maxSteps := 4000000) only [↓set16, ↓sl16, zaa, zab, zac, zad, zz0, zz1, zz2, zz3, zz4, zae, zaf, zag, zah, zai, zaj, zak, zal, zam, zan, zao, zap, zaq, zar, zas, zat, zau, zav, zaw, zax, zay, zaz, zba, zbb, zbc, zbd, zbe, zbf, zbg, zbh, zbi, zbj, zbk, zbl, zbm, zbn, zbo, zbp, zbq, zbr, zbs, zbt, zbu, zbv, zbw, zbx, zby, zbz, zca, zcb, zcc, zcd, zce, zcf, zcg, zch, zci, zcj, zck, zcl, zcm, zcn, ne_eq, zco, zcp, zcq, zcr, zcs, List.replicate, zct, zcu, zcv, zcw, zcx, zcy, zcz, zda, zdb, zdc, zdd, zde, zdf, zdg, zdh, zdi, killT, delta, tak, ev, ad, taks, evs, nL, getH, pack, arith, callD, Nat.reduceAdd, Nat.reduceSub, Nat.reduceMul, Nat.reduceLeDiff, Nat.reduceEqDiff, Nat.reduceBEq, Nat.reduceBNe, Nat.reduceLT, Nat.reduceDiv, Int.reduceNeg, Int.reduceLT, Int.reduceLE, Int.reduceEq, Int.reduceNe, Int.reduceAdd, Int.reduceSub, Int.reduceMul, Int.reduceToNat, Int.reduceBEq, Int.reduceBNe, fillP, fillE, okE, okW, bound, elS, srcS, Fin, finish, ress, resOf, one, keeps, ↓reduceIte, Dl.ap, Dl.slots, okD, isLp, zeros, reduceCtorEq, zdj, zdk, tf_ref19_Check, h1, h2, h3, h4, List.length_map, e5', gt_iff_lt]
  refine loopI l.hs hl.len (fun (acc : Int × Int) suf => ⟨.bool (match rcS l.nx acc.1 acc.2 suf with | some s => s == l.he && decide (IntKind.i64.wrap (l.u + l.he) ≤ l.q) | none => false), H, false⟩) (fun k acc => ⟨(TV.junk :: .lbox [.int .i64 l.q, .int .i64 l.u, .int .i64 l.he, .int .i64 l.nx, .sl .shr (l.hs.map Hd.tv)] :: TV.junk :: .int .i64 acc.2 :: .int .i64 k :: TV.junk :: TV.junk :: TV.junk :: TV.junk :: TV.junk :: TV.junk :: TV.junk :: TV.junk :: TV.junk :: TV.junk :: TV.junk :: TV.junk :: TV.junk :: TV.junk :: TV.junk :: TV.junk :: TV.junk :: TV.junk :: TV.junk :: TV.junk :: TV.junk :: TV.junk :: TV.junk :: TV.junk :: TV.junk :: TV.junk :: TV.junk :: TV.junk :: TV.junk :: TV.junk :: TV.junk :: TV.junk :: TV.junk :: TV.junk :: TV.junk :: TV.junk :: TV.junk :: TV.junk :: TV.junk :: TV.junk :: TV.junk :: TV.junk :: TV.junk :: TV.junk :: TV.junk :: TV.junk :: TV.junk :: TV.junk :: TV.junk :: TV.junk :: TV.junk :: TV.junk :: TV.junk :: TV.junk :: TV.junk :: TV.junk :: TV.junk :: TV.junk :: TV.junk :: TV.junk :: TV.junk :: TV.junk :: TV.junk :: TV.junk :: TV.junk :: TV.junk :: TV.junk :: TV.junk :: TV.junk :: TV.junk :: TV.junk :: TV.tup [] :: TV.tup [] :: TV.tup [] :: TV.tup [] :: TV.tup [] :: TV.tup [] :: TV.tup [] :: TV.tup [] :: TV.tup [] :: TV.tup [] :: TV.tup [] :: TV.tup [] :: TV.tup [] :: TV.tup [] :: []), H, H.length, false⟩) (fun k acc => (k = 0 ∧ acc.1 = 0) ∨ ∃ j p, k = j + 1 ∧ l.hs[j]? = some p ∧ acc.1 = p.id) ?_ ?_ (0, 0) (Or.inl ⟨rfl, rfl⟩)
  · rintro ⟨last, s⟩ hi hq
    rw [Run_loop]
    simp only [rcS]
    cases e6 : s == l.he <;> simp only [Bool.false_and, Bool.true_and]
    · simp (maxSteps := 4000000) only [↓set16, ↓sl16, zaa, zab, zac, zad, zz0, zz1, zz2, zz3, zz4, zae, zaf, zag, zah, zai, zaj, zak, zal, zam, zan, zao, zap, zaq, zar, zas, zat, zau, zav, zaw, zax, zay, zaz, zba, zbb, zbc, zbd, zbe, zbf, zbg, zbh, zbi, zbj, zbk, zbl, zbm, zbn, zbo, zbp, zbq, zbr, zbs, zbt, zbu, zbv, zbw, zbx, zby, zbz, zca, zcb, zcc, zcd, zce, zcf, zcg, zch, zci, zcj, zck, zcl, zcm, zcn, ne_eq, zco, zcp, zcq, zcr, zcs, List.replicate, zct, zcu, zcv, zcw, zcx, zcy, zcz, zda, zdb, zdc, zdd, zde, zdf, zdg, zdh, zdi, killT, delta, tak, ev, ad, taks, evs, nL, getH, pack, arith, callD, Nat.reduceAdd, Nat.reduceSub, Nat.reduceMul, Nat.reduceLeDiff, Nat.reduceEqDiff, Nat.reduceBEq, Nat.reduceBNe, Nat.reduceLT, Nat.reduceDiv, Int.reduceNeg, Int.reduceLT, Int.reduceLE, Int.reduceEq, Int.reduceNe, Int.reduceAdd, Int.reduceSub, Int.reduceMul, Int.reduceToNat, Int.reduceBEq, Int.reduceBNe, fillP, fillE, okE, okW, bound, elS, srcS, Fin, finish, ress, resOf, one, keeps, ↓reduceIte, Dl.ap, Dl.slots, okD, isLp, zeros, reduceCtorEq, zdj, zdk, lp_ref19_Check_1, List.length_map, hq, e6]
    · simp (maxSteps := 4000000) only [↓set16, ↓sl16, zaa, zab, zac, zad, zz0, zz1, zz2, zz3, zz4, zae, zaf, zag, zah, zai, zaj, zak, zal, zam, zan, zao, zap, zaq, zar, zas, zat, zau, zav, zaw, zax, zay, zaz, zba, zbb, zbc, zbd, zbe, zbf, zbg, zbh, zbi, zbj, zbk, zbl, zbm, zbn, zbo, zbp, zbq, zbr, zbs, zbt, zbu, zbv, zbw, zbx, zby, zbz, zca, zcb, zcc, zcd, zce, zcf, zcg, zch, zci, zcj, zck, zcl, zcm, zcn, ne_eq, zco, zcp, zcq, zcr, zcs, List.replicate, zct, zcu, zcv, zcw, zcx, zcy, zcz, zda, zdb, zdc, zdd, zde, zdf, zdg, zdh, zdi, killT, delta, tak, ev, ad, taks, evs, nL, getH, pack, arith, callD, Nat.reduceAdd, Nat.reduceSub, Nat.reduceMul, Nat.reduceLeDiff, Nat.reduceEqDiff, Nat.reduceBEq, Nat.reduceBNe, Nat.reduceLT, Nat.reduceDiv, Int.reduceNeg, Int.reduceLT, Int.reduceLE, Int.reduceEq, Int.reduceNe, Int.reduceAdd, Int.reduceSub, Int.reduceMul, Int.reduceToNat, Int.reduceBEq, Int.reduceBNe, fillP, fillE, okE, okW, bound, elS, srcS, Fin, finish, ress, resOf, one, keeps, ↓reduceIte, Dl.ap, Dl.slots, okD, isLp, zeros, reduceCtorEq, zdj, zdk, lp_ref19_Check_1, List.length_map, hq, e6]
  · rintro k x ⟨last, s⟩ rest hi hx hk hk0 hw ih
    have hg := map_get (f := Hd.tv) hx
    have hM := ref19_one (H := H) x
    rw [Hd.tv_eq] at hg hM
    rw [Run_loop]
    simp only [rcS]
    cases hb : holdB x
    · rw [hb] at hM
      simp only [Bool.false_eq_true, false_and, if_false]
      simp (maxSteps := 4000000) only [↓set16, ↓sl16, zaa, zab, zac, zad, zz0, zz1, zz2, zz3, zz4, zae, zaf, zag, zah, zai, zaj, zak, zal, zam, zan, zao, zap, zaq, zar, zas, zat, zau, zav, zaw, zax, zay, zaz, zba, zbb, zbc, zbd, zbe, zbf, zbg, zbh, zbi, zbj, zbk, zbl, zbm, zbn, zbo, zbp, zbq, zbr, zbs, zbt, zbu, zbv, zbw, zbx, zby, zbz, zca, zcb, zcc, zcd, zce, zcf, zcg, zch, zci, zcj, zck, zcl, zcm, zcn, ne_eq, zco, zcp, zcq, zcr, zcs, List.replicate, zct, zcu, zcv, zcw, zcx, zcy, zcz, zda, zdb, zdc, zdd, zde, zdf, zdg, zdh, zdi, killT, delta, tak, ev, ad, taks, evs, nL, getH, pack, arith, callD, Nat.reduceAdd, Nat.reduceSub, Nat.reduceMul, Nat.reduceLeDiff, Nat.reduceEqDiff, Nat.reduceBEq, Nat.reduceBNe, Nat.reduceLT, Nat.reduceDiv, Int.reduceNeg, Int.reduceLT, Int.reduceLE, Int.reduceEq, Int.reduceNe, Int.reduceAdd, Int.reduceSub, Int.reduceMul, Int.reduceToNat, Int.reduceBEq, Int.reduceBNe, fillP, fillE, okE, okW, bound, elS, srcS, Fin, finish, ress, resOf, one, keeps, ↓reduceIte, Dl.ap, Dl.slots, okD, isLp, zeros, reduceCtorEq, zdj, zdk, lp_ref19_Check_1, List.length_map, hk, hk0, hg, Int.toNat_natCast, hM]
    · rw [hb] at hM
      simp only [true_and]
      by_cases h7 : x.id < l.nx
      rotate_left
      · have h7' : l.nx ≤ x.id := by omega
        simp only [h7, false_and, if_false]
        simp (maxSteps := 4000000) only [↓set16, ↓sl16, zaa, zab, zac, zad, zz0, zz1, zz2, zz3, zz4, zae, zaf, zag, zah, zai, zaj, zak, zal, zam, zan, zao, zap, zaq, zar, zas, zat, zau, zav, zaw, zax, zay, zaz, zba, zbb, zbc, zbd, zbe, zbf, zbg, zbh, zbi, zbj, zbk, zbl, zbm, zbn, zbo, zbp, zbq, zbr, zbs, zbt, zbu, zbv, zbw, zbx, zby, zbz, zca, zcb, zcc, zcd, zce, zcf, zcg, zch, zci, zcj, zck, zcl, zcm, zcn, ne_eq, zco, zcp, zcq, zcr, zcs, List.replicate, zct, zcu, zcv, zcw, zcx, zcy, zcz, zda, zdb, zdc, zdd, zde, zdf, zdg, zdh, zdi, killT, delta, tak, ev, ad, taks, evs, nL, getH, pack, arith, callD, Nat.reduceAdd, Nat.reduceSub, Nat.reduceMul, Nat.reduceLeDiff, Nat.reduceEqDiff, Nat.reduceBEq, Nat.reduceBNe, Nat.reduceLT, Nat.reduceDiv, Int.reduceNeg, Int.reduceLT, Int.reduceLE, Int.reduceEq, Int.reduceNe, Int.reduceAdd, Int.reduceSub, Int.reduceMul, Int.reduceToNat, Int.reduceBEq, Int.reduceBNe, fillP, fillE, okE, okW, bound, elS, srcS, Fin, finish, ress, resOf, one, keeps, ↓reduceIte, Dl.ap, Dl.slots, okD, isLp, zeros, reduceCtorEq, zdj, zdk, lp_ref19_Check_1, List.length_map, hk, hk0, hg, Int.toNat_natCast, hM, ge_iff_le, h7']
      have h7' : ¬ l.nx ≤ x.id := by omega
      have h1 : 1 ≤ x.id := by
        simp only [holdB, Bool.and_eq_true, within_iff] at hb
        exact hb.1.1
      simp only [h7, true_and]
      rcases hi with ⟨rfl, hl0⟩ | ⟨j, p, rfl, hj, hlp⟩
      · have nz : ((0 : Nat) : Int) = 0 := rfl
        simp only at hl0
        subst hl0
        have h8 : (0 : Int) < x.id := by omega
        simp only [h8, if_true]
        have hgo := ih (x.id, IntKind.i64.wrap (s + x.nb)) (Or.inr ⟨0, x, rfl, hx, rfl⟩)
        simp only at hgo
        rw [nz] at hk hw
        simp (maxSteps := 4000000) only [↓set16, ↓sl16, zaa, zab, zac, zad, zz0, zz1, zz2, zz3, zz4, zae, zaf, zag, zah, zai, zaj, zak, zal, zam, zan, zao, zap, zaq, zar, zas, zat, zau, zav, zaw, zax, zay, zaz, zba, zbb, zbc, zbd, zbe, zbf, zbg, zbh, zbi, zbj, zbk, zbl, zbm, zbn, zbo, zbp, zbq, zbr, zbs, zbt, zbu, zbv, zbw, zbx, zby, zbz, zca, zcb, zcc, zcd, zce, zcf, zcg, zch, zci, zcj, zck, zcl, zcm, zcn, ne_eq, zco, zcp, zcq, zcr, zcs, List.replicate, zct, zcu, zcv, zcw, zcx, zcy, zcz, zda, zdb, zdc, zdd, zde, zdf, zdg, zdh, zdi, killT, delta, tak, ev, ad, taks, evs, nL, getH, pack, arith, callD, Nat.reduceAdd, Nat.reduceSub, Nat.reduceMul, Nat.reduceLeDiff, Nat.reduceEqDiff, Nat.reduceBEq, Nat.reduceBNe, Nat.reduceLT, Nat.reduceDiv, Int.reduceNeg, Int.reduceLT, Int.reduceLE, Int.reduceEq, Int.reduceNe, Int.reduceAdd, Int.reduceSub, Int.reduceMul, Int.reduceToNat, Int.reduceBEq, Int.reduceBNe, fillP, fillE, okE, okW, bound, elS, srcS, Fin, finish, ress, resOf, one, keeps, ↓reduceIte, Dl.ap, Dl.slots, okD, isLp, zeros, reduceCtorEq, zdj, zdk, lp_ref19_Check_1, List.length_map, nz, hk, hg, hM, ge_iff_le, gt_iff_lt, h7', hw, Int.lt_irrefl, Int.le_refl]
        exact hgo
      · simp only at hlp
        subst hlp
        have hgj := map_get (f := Hd.tv) hj
        rw [Hd.tv_eq] at hgj
        have hw3 : IntKind.i64.wrap (((j + 1 : Nat) : Int) - 1) = (j : Int) := by rw [show ((j + 1 : Nat) : Int) - 1 = j by omega]; exact IntWalk.i64_in _ (by have := hl.len; omega)
        have hk1 : (0 : Int) < ((j + 1 : Nat) : Int) := by omega
        have hj0 : (0 : Int) ≤ j := by omega
        by_cases h9 : p.id < x.id
        · have h9' : ¬ x.id ≤ p.id := by omega
          simp only [h9, if_true]
          have hgo := ih (x.id, IntKind.i64.wrap (s + x.nb)) (Or.inr ⟨j + 1, x, rfl, hx, rfl⟩)
          simp only at hgo
          simp (maxSteps := 4000000) only [↓set16, ↓sl16, zaa, zab, zac, zad, zz0, zz1, zz2, zz3, zz4, zae, zaf, zag, zah, zai, zaj, zak, zal, zam, zan, zao, zap, zaq, zar, zas, zat, zau, zav, zaw, zax, zay, zaz, zba, zbb, zbc, zbd, zbe, zbf, zbg, zbh, zbi, zbj, zbk, zbl, zbm, zbn, zbo, zbp, zbq, zbr, zbs, zbt, zbu, zbv, zbw, zbx, zby, zbz, zca, zcb, zcc, zcd, zce, zcf, zcg, zch, zci, zcj, zck, zcl, zcm, zcn, ne_eq, zco, zcp, zcq, zcr, zcs, List.replicate, zct, zcu, zcv, zcw, zcx, zcy, zcz, zda, zdb, zdc, zdd, zde, zdf, zdg, zdh, zdi, killT, delta, tak, ev, ad, taks, evs, nL, getH, pack, arith, callD, Nat.reduceAdd, Nat.reduceSub, Nat.reduceMul, Nat.reduceLeDiff, Nat.reduceEqDiff, Nat.reduceBEq, Nat.reduceBNe, Nat.reduceLT, Nat.reduceDiv, Int.reduceNeg, Int.reduceLT, Int.reduceLE, Int.reduceEq, Int.reduceNe, Int.reduceAdd, Int.reduceSub, Int.reduceMul, Int.reduceToNat, Int.reduceBEq, Int.reduceBNe, fillP, fillE, okE, okW, bound, elS, srcS, Fin, finish, ress, resOf, one, keeps, ↓reduceIte, Dl.ap, Dl.slots, okD, isLp, zeros, reduceCtorEq, zdj, zdk, lp_ref19_Check_1, List.length_map, hk, hk0, hg, Int.toNat_natCast, hM, ge_iff_le, gt_iff_lt, h7', hw, hk1, hw3, hj0, hgj, h9']
          exact hgo
        · have h9' : x.id ≤ p.id := by omega
          simp only [h9, if_false]
          simp (maxSteps := 4000000) only [↓set16, ↓sl16, zaa, zab, zac, zad, zz0, zz1, zz2, zz3, zz4, zae, zaf, zag, zah, zai, zaj, zak, zal, zam, zan, zao, zap, zaq, zar, zas, zat, zau, zav, zaw, zax, zay, zaz, zba, zbb, zbc, zbd, zbe, zbf, zbg, zbh, zbi, zbj, zbk, zbl, zbm, zbn, zbo, zbp, zbq, zbr, zbs, zbt, zbu, zbv, zbw, zbx, zby, zbz, zca, zcb, zcc, zcd, zce, zcf, zcg, zch, zci, zcj, zck, zcl, zcm, zcn, ne_eq, zco, zcp, zcq, zcr, zcs, List.replicate, zct, zcu, zcv, zcw, zcx, zcy, zcz, zda, zdb, zdc, zdd, zde, zdf, zdg, zdh, zdi, killT, delta, tak, ev, ad, taks, evs, nL, getH, pack, arith, callD, Nat.reduceAdd, Nat.reduceSub, Nat.reduceMul, Nat.reduceLeDiff, Nat.reduceEqDiff, Nat.reduceBEq, Nat.reduceBNe, Nat.reduceLT, Nat.reduceDiv, Int.reduceNeg, Int.reduceLT, Int.reduceLE, Int.reduceEq, Int.reduceNe, Int.reduceAdd, Int.reduceSub, Int.reduceMul, Int.reduceToNat, Int.reduceBEq, Int.reduceBNe, fillP, fillE, okE, okW, bound, elS, srcS, Fin, finish, ress, resOf, one, keeps, ↓reduceIte, Dl.ap, Dl.slots, okD, isLp, zeros, reduceCtorEq, zdj, zdk, lp_ref19_Check_1, List.length_map, hk, hk0, hg, Int.toNat_natCast, hM, ge_iff_le, gt_iff_lt, h7', hw, hk1, hw3, hj0, hgj, h9']
theorem holdB_nb {h : Hd} (hb : holdB h = true) : 0 ≤ h.nb ∧ h.nb ≤ 1099511627776 := by
  simp only [holdB, Bool.and_eq_true, within_iff] at hb
  exact hb.2.2.1
theorem sumN_le {l : List Hd} (h : l.all holdB = true) : 0 ≤ sumN l ∧ sumN l ≤ l.length * 1099511627776 := by
  induction l with
  | nil => simp [sumN]
  | cons x l ih =>
    rw [List.all_cons, Bool.and_eq_true] at h
    have h1 := holdB_nb h.1
    have h2 := ih h.2
    simp only [sumN, List.map_cons, List.sum_cons, List.length_cons] at h2 ⊢
    omega
theorem totB_ok {l : List Hd} (h : l.all holdB = true) (hm : l.length ≤ 8) : ∀ acc : Int, 0 ≤ acc → acc + l.length * 1099511627776 ≤ 9223372036854775807 → totB acc l = true := by
  induction l with
  | nil => intro acc _ _; rfl
  | cons x l ih =>
    intro acc h0 h1
    rw [List.all_cons, Bool.and_eq_true] at h
    have h2 := holdB_nb h.1
    rw [List.length_cons] at h1 hm
    rw [totB, if_pos (by unfold I64; omega)]
    exact ih h.2 (by omega) _ (by omega) (by omega)
theorem rcS_eq (nx : Int) (l : List Hd) : ∀ last s : Int, 0 ≤ s → s + l.length * 1099511627776 ≤ 9223372036854775807 → rcS nx last s l = if ordB nx last l = true ∧ l.all holdB = true then some (s + sumN l) else none := by
  induction l with
  | nil => intro last s _ _; simp [rcS, ordB, sumN]
  | cons x l ih =>
    intro last s h0 h1
    rw [List.length_cons] at h1
    by_cases hb : holdB x = true
    · have h2 := holdB_nb hb
      have hw : IntKind.i64.wrap (s + x.nb) = s + x.nb := IntWalk.i64_in _ (by omega)
      rw [rcS, hw, ih _ _ (by omega) (by omega)]
      by_cases h3 : x.id < nx ∧ last < x.id
      · have h4 : ¬ x.id ≤ last := by omega
        have h5 : ¬ nx ≤ x.id := by omega
        simp only [hb, h3, and_self, if_true, ordB, h4, h5, decide_false, Bool.or_self, Bool.not_false, Bool.true_and, List.all_cons, sumN, List.map_cons, List.sum_cons, Int.add_assoc]
      · have h6 : ordB nx last (x :: l) = false := by
          have : x.id ≤ last ∨ nx ≤ x.id := by omega
          rw [ordB, Bool.and_eq_false_iff]
          left
          rcases this with h | h <;> simp [h]
        rw [if_neg (by rintro ⟨_, h⟩; exact h3 h), if_neg (by rw [h6]; simp)]
    · rw [rcS, if_neg (by rintro ⟨h, _⟩; exact hb h), if_neg]
      rw [List.all_cons]
      simp [hb]
theorem fit2 {q u he : Int} (hu : 0 ≤ u ∧ u ≤ 1099511627776) (hh : 0 ≤ he ∧ he ≤ 1099511627776) : fitB q 0 [u, he] = decide (u + he ≤ q) := by
  have i1 : I64 (0 + u) := by unfold I64; omega
  have i2 : I64 (0 + u + he) := by unfold I64; omega
  rw [Bool.eq_iff_iff, decide_eq_true_eq]
  by_cases h1 : 0 + u > q
  · have : fitB q 0 [u, he] = false := if_pos (Or.inr (Or.inr h1))
    rw [this]
    constructor
    · intro h; cases h
    · intro h; omega
  · have e1 : fitB q 0 [u, he] = fitB q (0 + u) [he] := if_neg (by rintro (h | h | h); omega; exact h i1; exact h1 h)
    rw [e1]
    by_cases h2 : 0 + u + he > q
    · have : fitB q (0 + u) [he] = false := if_pos (Or.inr (Or.inr h2))
      rw [this]
      constructor
      · intro h; cases h
      · intro h; omega
    · have : fitB q (0 + u) [he] = true := if_neg (by rintro (h | h | h); omega; exact h i2; exact h2 h)
      rw [this]
      constructor
      · intro _; omega
      · intro _; rfl
theorem rcB_eq (l : Lg) : rcB l = checkB l := by
  unfold rcB checkB
  cases e1 : within l.q 0 1099511627776 <;> simp only [Bool.false_and, Bool.true_and]
  cases e2 : within l.u 0 1099511627776 <;> simp only [Bool.false_and, Bool.true_and]
  cases e3 : within l.he 0 1099511627776 <;> simp only [Bool.false_and, Bool.true_and]
  cases e4 : within l.nx 1 2147483648 <;> simp only [Bool.false_and, Bool.true_and]
  by_cases e5 : (l.hs.length : Int) ≤ 8 <;> simp only [e5, decide_false, decide_true, Bool.false_and, Bool.true_and]
  have h5 : l.hs.length ≤ 8 := by omega
  rw [within_iff] at e2 e3
  have hw : IntKind.i64.wrap (l.u + l.he) = l.u + l.he := IntWalk.i64_in _ (by omega)
  rw [rcS_eq _ _ _ _ (by omega) (by omega), hw, fit2 e2 e3]
  cases e6 : ordB l.nx 0 l.hs <;> simp only [Bool.false_and, Bool.true_and, Bool.false_eq_true, false_and, true_and, if_false]
  cases e7 : l.hs.all holdB <;> simp only [Bool.false_and, Bool.true_and, Bool.false_eq_true, if_false, if_true]
  rw [totB_ok e7 h5 0 (by omega) (by omega), Int.zero_add, Bool.true_and]
theorem ref19_Check (l : Lg) (hl : l.ok) : CT n_ref19_Check [l.tv] H = some ⟨.bool (checkB l), H, false⟩ := by
  rw [← rcB_eq]; exact ref19_Check0 l hl
end Go.T
