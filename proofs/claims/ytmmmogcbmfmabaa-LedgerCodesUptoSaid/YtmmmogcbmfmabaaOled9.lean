/- What the document's ledger functions answer: on holds. -/
import Derived.Test.YtmmmogcbmfmabaaOled8b
import Derived.Test.YtmmmogcbmfmabaaOled7
set_option linter.unusedVariables false
set_option linter.unusedSimpArgs false
set_option maxRecDepth 10000
set_option maxHeartbeats 1000000
namespace Go.T
attribute [local irreducible] Run Back RS Ap
variable {H : Heap}
/-- A value that reads as these holds. -/
structure RdL (V : TV) (hs : List Hd) : Prop where
  s : V.shr0 = .sl .shr (hs.map Hd.tv)
  c : V.isCell = true
theorem RdL.own (hs : List Hd) : RdL (ownV hs) hs := ⟨ownV_shr0 hs, ownV_cell hs⟩
theorem RdL.sln (hs : List Hd) : RdL (sln hs) hs := ⟨rfl, rfl⟩
theorem RdL.shr (hs : List Hd) : RdL (.sl .shr (hs.map Hd.tv)) hs := ⟨rfl, rfl⟩
theorem ref19_with (a b c d : Int) (L M : List TV) (g : Tag) : CT n_ref19_with [.agg [.int .i64 a, .int .i64 b, .int .i64 c, .int .i64 d, .sl .shr L], .sl g M] H = some ⟨.agg [.int .i64 a, .int .i64 b, .int .i64 c, .int .i64 d, .sl g M], H, false⟩ := by
  refine callT_of rfl tab_ref19_with ?_
  simp (maxSteps := 4000000) only [↓set16, ↓sl16, zaa, zab, zac, zad, zz0, zz1, zz2, zz3, zz4, zae, zaf, zag, zah, zai, zaj, zak, zal, zam, zan, zao, zap, zaq, zar, zas, zat, zau, zav, zaw, zax, zay, zaz, zba, zbb, zbc, zbd, zbe, zbf, zbg, zbh, zbi, zbj, zbk, zbl, zbm, zbn, zbo, zbp, zbq, zbr, zbs, zbt, zbu, zbv, zbw, zbx, zby, zbz, zca, zcb, zcc, zcd, zce, zcf, zcg, zch, zci, zcj, zck, zcl, zcm, zcn, ne_eq, zco, zcp, zcq, zcr, zcs, List.replicate, zct, zcu, zcv, zcw, zcx, zcy, zcz, zda, zdb, zdc, zdd, zde, zdf, zdg, zdh, zdi, killT, delta, tak, ev, ad, taks, evs, nL, getH, pack, arith, callD, Nat.reduceAdd, Nat.reduceSub, Nat.reduceMul, Nat.reduceLeDiff, Nat.reduceEqDiff, Nat.reduceBEq, Nat.reduceBNe, Nat.reduceLT, Nat.reduceDiv, Int.reduceNeg, Int.reduceLT, Int.reduceLE, Int.reduceEq, Int.reduceNe, Int.reduceAdd, Int.reduceSub, Int.reduceMul, Int.reduceToNat, Int.reduceBEq, Int.reduceBNe, fillP, fillE, okE, okW, bound, elS, srcS, Fin, finish, ress, resOf, one, keeps, ↓reduceIte, Dl.ap, Dl.slots, okD, isLp, zeros, reduceCtorEq, zdj, zdk, tf_ref19_with]
theorem ref19_copied (l : Lg) (hm : l.hs.length ≤ 1000000) : CT n_ref19_copied [l.tv] H = some ⟨l.tvw (sln l.hs), H, false⟩ := by
  have hW := ref19_with (H := H) l.q l.u l.he l.nx (l.hs.map Hd.tv) (l.hs.map Hd.tv) (.own 6 false)
  have okw := okW_tv' l.hs
  have r2 : l.hs.length * 56 ≤ roomB := by unfold roomB; omega
  have r3 : l.hs.length ≤ roomB := by unfold roomB; omega
  rw [Lg.tv_eq]
  unfold Lg.tvw sln
  refine callT_of rfl tab_ref19_copied ?_
  simp (maxSteps := 4000000) only [↓set16, ↓sl16, zaa, zab, zac, zad, zz0, zz1, zz2, zz3, zz4, zae, zaf, zag, zah, zai, zaj, zak, zal, zam, zan, zao, zap, zaq, zar, zas, zat, zau, zav, zaw, zax, zay, zaz, zba, zbb, zbc, zbd, zbe, zbf, zbg, zbh, zbi, zbj, zbk, zbl, zbm, zbn, zbo, zbp, zbq, zbr, zbs, zbt, zbu, zbv, zbw, zbx, zby, zbz, zca, zcb, zcc, zcd, zce, zcf, zcg, zch, zci, zcj, zck, zcl, zcm, zcn, ne_eq, zco, zcp, zcq, zcr, zcs, List.replicate, zct, zcu, zcv, zcw, zcx, zcy, zcz, zda, zdb, zdc, zdd, zde, zdf, zdg, zdh, zdi, killT, delta, tak, ev, ad, taks, evs, nL, getH, pack, arith, callD, Nat.reduceAdd, Nat.reduceSub, Nat.reduceMul, Nat.reduceLeDiff, Nat.reduceEqDiff, Nat.reduceBEq, Nat.reduceBNe, Nat.reduceLT, Nat.reduceDiv, Int.reduceNeg, Int.reduceLT, Int.reduceLE, Int.reduceEq, Int.reduceNe, Int.reduceAdd, Int.reduceSub, Int.reduceMul, Int.reduceToNat, Int.reduceBEq, Int.reduceBNe, fillP, fillE, okE, okW, bound, elS, srcS, Fin, finish, ress, resOf, one, keeps, ↓reduceIte, Dl.ap, Dl.slots, okD, isLp, zeros, reduceCtorEq, zdj, zdk, tf_ref19_copied, okw, List.length_map, r2, r3, hW]
/-- The first hold of an id. -/
def findH (id : Int) : List Hd → Option Hd
  | [] => none
  | h :: t => if h.id = id then some h else findH id t
def findR (id : Int) (l : List Hd) : TV := match findH id l with
  | some h => .tup [h.tv, .bool true]
  | none => .tup [.agg zc, .bool false]
theorem ref19_Find (l : Lg) (hm : l.hs.length ≤ 1000000) (id : Int) : CT n_ref19_Find [l.tv, .int .i64 id] H = some ⟨findR id l.hs, H, false⟩ := by
  rw [Lg.tv_eq]
  refine callT_of rfl tab_ref19_Find ?_
  simp (maxSteps := 4000000) only [↓set16, ↓sl16, zaa, zab, zac, zad, zz0, zz1, zz2, zz3, zz4, zae, zaf, zag, zah, zai, zaj, zak, zal, zam, zan, zao, zap, zaq, zar, zas, zat, zau, zav, zaw, zax, zay, zaz, zba, zbb, zbc, zbd, zbe, zbf, zbg, zbh, zbi, zbj, zbk, zbl, zbm, zbn, zbo, zbp, zbq, zbr, zbs, zbt, zbu, zbv, zbw, zbx, zby, zbz, zca, zcb, zcc, zcd, zce, zcf, zcg, zch, zci, zcj, zck, zcl, zcm, zcn, ne_eq, zco, zcp, zcq, zcr, zcs, List.replicate, zct, zcu, zcv, zcw, zcx, zcy, zcz, zda, zdb, zdc, zdd, zde, zdf, zdg, zdh, zdi, killT, delta, tak, ev, ad, taks, evs, nL, getH, pack, arith, callD, Nat.reduceAdd, Nat.reduceSub, Nat.reduceMul, Nat.reduceLeDiff, Nat.reduceEqDiff, Nat.reduceBEq, Nat.reduceBNe, Nat.reduceLT, Nat.reduceDiv, Int.reduceNeg, Int.reduceLT, Int.reduceLE, Int.reduceEq, Int.reduceNe, Int.reduceAdd, Int.reduceSub, Int.reduceMul, Int.reduceToNat, Int.reduceBEq, Int.reduceBNe, fillP, fillE, okE, okW, bound, elS, srcS, Fin, finish, ress, resOf, one, keeps, ↓reduceIte, Dl.ap, Dl.slots, okD, isLp, zeros, reduceCtorEq, zdj, zdk, tf_ref19_Find, List.length_map]
  refine loopL l.hs (by omega) (fun (_ : Unit) suf => ⟨findR id suf, H, false⟩) (fun k _ => ⟨(TV.junk :: .int .i64 id :: .lbox [.int .i64 l.q, .int .i64 l.u, .int .i64 l.he, .int .i64 l.nx, .sl .shr (l.hs.map Hd.tv)] :: TV.tup [] :: .lbox [.int .i64 0, .int .i64 0, .int .i64 0, .int .i64 0, .int .i64 0, .str ⟨#[]⟩] :: TV.junk :: .int .i64 k :: TV.junk :: TV.junk :: TV.junk :: TV.junk :: TV.junk :: TV.junk :: TV.junk :: TV.junk :: TV.junk :: TV.junk :: TV.junk :: TV.junk :: TV.junk :: TV.junk :: TV.junk :: TV.junk :: TV.junk :: TV.junk :: TV.junk :: TV.junk :: TV.tup [] :: []), H, H.length, false⟩) ?_ ?_ ()
  · intro acc hq
    rw [Run_loop]
    simp (maxSteps := 4000000) only [↓set16, ↓sl16, zaa, zab, zac, zad, zz0, zz1, zz2, zz3, zz4, zae, zaf, zag, zah, zai, zaj, zak, zal, zam, zan, zao, zap, zaq, zar, zas, zat, zau, zav, zaw, zax, zay, zaz, zba, zbb, zbc, zbd, zbe, zbf, zbg, zbh, zbi, zbj, zbk, zbl, zbm, zbn, zbo, zbp, zbq, zbr, zbs, zbt, zbu, zbv, zbw, zbx, zby, zbz, zca, zcb, zcc, zcd, zce, zcf, zcg, zch, zci, zcj, zck, zcl, zcm, zcn, ne_eq, zco, zcp, zcq, zcr, zcs, List.replicate, zct, zcu, zcv, zcw, zcx, zcy, zcz, zda, zdb, zdc, zdd, zde, zdf, zdg, zdh, zdi, killT, delta, tak, ev, ad, taks, evs, nL, getH, pack, arith, callD, Nat.reduceAdd, Nat.reduceSub, Nat.reduceMul, Nat.reduceLeDiff, Nat.reduceEqDiff, Nat.reduceBEq, Nat.reduceBNe, Nat.reduceLT, Nat.reduceDiv, Int.reduceNeg, Int.reduceLT, Int.reduceLE, Int.reduceEq, Int.reduceNe, Int.reduceAdd, Int.reduceSub, Int.reduceMul, Int.reduceToNat, Int.reduceBEq, Int.reduceBNe, fillP, fillE, okE, okW, bound, elS, srcS, Fin, finish, ress, resOf, one, keeps, ↓reduceIte, Dl.ap, Dl.slots, okD, isLp, zeros, reduceCtorEq, zdj, zdk, lp_ref19_Find_1, List.length_map, hq, findR, findH, zc]
  · intro k x acc rest hx hk hk0 hw ih
    have hg := map_get (f := Hd.tv) hx
    rw [Hd.tv_eq] at hg
    rw [Run_loop]
    by_cases h1 : x.id = id
    · have hb : (x.id == id) = true := by simp [h1]
      have e : findR id (x :: rest) = .tup [.agg [.int .i64 x.id, .int .i64 x.cl, .int .i64 x.nb, .int .i64 x.un, .int .i64 x.ti, .str x.sp], .bool true] := by unfold findR; rw [findH, if_pos h1]; rfl
      rw [e]
      simp (maxSteps := 4000000) only [↓set16, ↓sl16, zaa, zab, zac, zad, zz0, zz1, zz2, zz3, zz4, zae, zaf, zag, zah, zai, zaj, zak, zal, zam, zan, zao, zap, zaq, zar, zas, zat, zau, zav, zaw, zax, zay, zaz, zba, zbb, zbc, zbd, zbe, zbf, zbg, zbh, zbi, zbj, zbk, zbl, zbm, zbn, zbo, zbp, zbq, zbr, zbs, zbt, zbu, zbv, zbw, zbx, zby, zbz, zca, zcb, zcc, zcd, zce, zcf, zcg, zch, zci, zcj, zck, zcl, zcm, zcn, ne_eq, zco, zcp, zcq, zcr, zcs, List.replicate, zct, zcu, zcv, zcw, zcx, zcy, zcz, zda, zdb, zdc, zdd, zde, zdf, zdg, zdh, zdi, killT, delta, tak, ev, ad, taks, evs, nL, getH, pack, arith, callD, Nat.reduceAdd, Nat.reduceSub, Nat.reduceMul, Nat.reduceLeDiff, Nat.reduceEqDiff, Nat.reduceBEq, Nat.reduceBNe, Nat.reduceLT, Nat.reduceDiv, Int.reduceNeg, Int.reduceLT, Int.reduceLE, Int.reduceEq, Int.reduceNe, Int.reduceAdd, Int.reduceSub, Int.reduceMul, Int.reduceToNat, Int.reduceBEq, Int.reduceBNe, fillP, fillE, okE, okW, bound, elS, srcS, Fin, finish, ress, resOf, one, keeps, ↓reduceIte, Dl.ap, Dl.slots, okD, isLp, zeros, reduceCtorEq, zdj, zdk, lp_ref19_Find_1, List.length_map, hk, hk0, hg, Int.toNat_natCast, hb]
    · have hb : (x.id == id) = false := by simp [h1]
      have e : findR id (x :: rest) = findR id rest := by unfold findR; rw [findH, if_neg h1]
      rw [e]
      simp (maxSteps := 4000000) only [↓set16, ↓sl16, zaa, zab, zac, zad, zz0, zz1, zz2, zz3, zz4, zae, zaf, zag, zah, zai, zaj, zak, zal, zam, zan, zao, zap, zaq, zar, zas, zat, zau, zav, zaw, zax, zay, zaz, zba, zbb, zbc, zbd, zbe, zbf, zbg, zbh, zbi, zbj, zbk, zbl, zbm, zbn, zbo, zbp, zbq, zbr, zbs, zbt, zbu, zbv, zbw, zbx, zby, zbz, zca, zcb, zcc, zcd, zce, zcf, zcg, zch, zci, zcj, zck, zcl, zcm, zcn, ne_eq, zco, zcp, zcq, zcr, zcs, List.replicate, zct, zcu, zcv, zcw, zcx, zcy, zcz, zda, zdb, zdc, zdd, zde, zdf, zdg, zdh, zdi, killT, delta, tak, ev, ad, taks, evs, nL, getH, pack, arith, callD, Nat.reduceAdd, Nat.reduceSub, Nat.reduceMul, Nat.reduceLeDiff, Nat.reduceEqDiff, Nat.reduceBEq, Nat.reduceBNe, Nat.reduceLT, Nat.reduceDiv, Int.reduceNeg, Int.reduceLT, Int.reduceLE, Int.reduceEq, Int.reduceNe, Int.reduceAdd, Int.reduceSub, Int.reduceMul, Int.reduceToNat, Int.reduceBEq, Int.reduceBNe, fillP, fillE, okE, okW, bound, elS, srcS, Fin, finish, ress, resOf, one, keeps, ↓reduceIte, Dl.ap, Dl.slots, okD, isLp, zeros, reduceCtorEq, zdj, zdk, lp_ref19_Find_1, List.length_map, hk, hk0, hg, Int.toNat_natCast, hb, hw]
      exact ih ()
theorem eq_zip (a b : List Hd) (hl : a.length = b.length) : decide (a = b) = (a.zip b).all fun p => decide (p.1 = p.2) := by
  rw [Bool.eq_iff_iff]
  simp only [decide_eq_true_eq, List.all_eq_true]
  constructor
  · rintro rfl p hp
    obtain ⟨i, hi⟩ := List.getElem?_of_mem hp
    rw [List.getElem?_zip_eq_some] at hi
    exact Option.some.inj (hi.1.symm.trans hi.2)
  · intro h
    apply List.ext_getElem hl
    intro i h1 h2
    have := h (a[i], b[i]) (by
      apply List.mem_of_getElem? (i := i)
      rw [List.getElem?_zip_eq_some]
      exact ⟨List.getElem?_eq_getElem h1, List.getElem?_eq_getElem h2⟩)
    exact this
theorem ref19_Same (a b : Lg) (ha : a.hs.length ≤ 1000000) : CT n_ref19_Same [a.tv, b.tv] H = some ⟨.bool (sameB a b), H, false⟩ := by
  rw [Lg.tv_eq, Lg.tv_eq]
  unfold sameB
  have m1 : (a.q != b.q) = !(a.q == b.q) := rfl
  have m2 : (a.u != b.u) = !(a.u == b.u) := rfl
  have m3 : (a.he != b.he) = !(a.he == b.he) := rfl
  have m4 : (a.nx != b.nx) = !(a.nx == b.nx) := rfl
  cases e1 : a.q == b.q <;> rw [e1] at m1 <;> simp only [Bool.false_and, Bool.true_and]
  · refine callT_of rfl tab_ref19_Same ?_
    simp (maxSteps := 4000000) only [↓set16, ↓sl16, zaa, zab, zac, zad, zz0, zz1, zz2, zz3, zz4, zae, zaf, zag, zah, zai, zaj, zak, zal, zam, zan, zao, zap, zaq, zar, zas, zat, zau, zav, zaw, zax, zay, zaz, zba, zbb, zbc, zbd, zbe, zbf, zbg, zbh, zbi, zbj, zbk, zbl, zbm, zbn, zbo, zbp, zbq, zbr, zbs, zbt, zbu, zbv, zbw, zbx, zby, zbz, zca, zcb, zcc, zcd, zce, zcf, zcg, zch, zci, zcj, zck, zcl, zcm, zcn, ne_eq, zco, zcp, zcq, zcr, zcs, List.replicate, zct, zcu, zcv, zcw, zcx, zcy, zcz, zda, zdb, zdc, zdd, zde, zdf, zdg, zdh, zdi, killT, delta, tak, ev, ad, taks, evs, nL, getH, pack, arith, callD, Nat.reduceAdd, Nat.reduceSub, Nat.reduceMul, Nat.reduceLeDiff, Nat.reduceEqDiff, Nat.reduceBEq, Nat.reduceBNe, Nat.reduceLT, Nat.reduceDiv, Int.reduceNeg, Int.reduceLT, Int.reduceLE, Int.reduceEq, Int.reduceNe, Int.reduceAdd, Int.reduceSub, Int.reduceMul, Int.reduceToNat, Int.reduceBEq, Int.reduceBNe, fillP, fillE, okE, okW, bound, elS, srcS, Fin, finish, ress, resOf, one, keeps, ↓reduceIte, Dl.ap, Dl.slots, okD, isLp, zeros, reduceCtorEq, zdj, zdk, tf_ref19_Same, m1]
  cases e2 : a.u == b.u <;> rw [e2] at m2 <;> simp only [Bool.false_and, Bool.true_and]
  · refine callT_of rfl tab_ref19_Same ?_
    simp (maxSteps := 4000000) only [↓set16, ↓sl16, zaa, zab, zac, zad, zz0, zz1, zz2, zz3, zz4, zae, zaf, zag, zah, zai, zaj, zak, zal, zam, zan, zao, zap, zaq, zar, zas, zat, zau, zav, zaw, zax, zay, zaz, zba, zbb, zbc, zbd, zbe, zbf, zbg, zbh, zbi, zbj, zbk, zbl, zbm, zbn, zbo, zbp, zbq, zbr, zbs, zbt, zbu, zbv, zbw, zbx, zby, zbz, zca, zcb, zcc, zcd, zce, zcf, zcg, zch, zci, zcj, zck, zcl, zcm, zcn, ne_eq, zco, zcp, zcq, zcr, zcs, List.replicate, zct, zcu, zcv, zcw, zcx, zcy, zcz, zda, zdb, zdc, zdd, zde, zdf, zdg, zdh, zdi, killT, delta, tak, ev, ad, taks, evs, nL, getH, pack, arith, callD, Nat.reduceAdd, Nat.reduceSub, Nat.reduceMul, Nat.reduceLeDiff, Nat.reduceEqDiff, Nat.reduceBEq, Nat.reduceBNe, Nat.reduceLT, Nat.reduceDiv, Int.reduceNeg, Int.reduceLT, Int.reduceLE, Int.reduceEq, Int.reduceNe, Int.reduceAdd, Int.reduceSub, Int.reduceMul, Int.reduceToNat, Int.reduceBEq, Int.reduceBNe, fillP, fillE, okE, okW, bound, elS, srcS, Fin, finish, ress, resOf, one, keeps, ↓reduceIte, Dl.ap, Dl.slots, okD, isLp, zeros, reduceCtorEq, zdj, zdk, tf_ref19_Same, m1, m2]
  cases e3 : a.he == b.he <;> rw [e3] at m3 <;> simp only [Bool.false_and, Bool.true_and]
  · refine callT_of rfl tab_ref19_Same ?_
    simp (maxSteps := 4000000) only [↓set16, ↓sl16, zaa, zab, zac, zad, zz0, zz1, zz2, zz3, zz4, zae, zaf, zag, zah, zai, zaj, zak, zal, zam, zan, zao, zap, zaq, zar, zas, zat, zau, zav, zaw, zax, zay, zaz, zba, zbb, zbc, zbd, zbe, zbf, zbg, zbh, zbi, zbj, zbk, zbl, zbm, zbn, zbo, zbp, zbq, zbr, zbs, zbt, zbu, zbv, zbw, zbx, zby, zbz, zca, zcb, zcc, zcd, zce, zcf, zcg, zch, zci, zcj, zck, zcl, zcm, zcn, ne_eq, zco, zcp, zcq, zcr, zcs, List.replicate, zct, zcu, zcv, zcw, zcx, zcy, zcz, zda, zdb, zdc, zdd, zde, zdf, zdg, zdh, zdi, killT, delta, tak, ev, ad, taks, evs, nL, getH, pack, arith, callD, Nat.reduceAdd, Nat.reduceSub, Nat.reduceMul, Nat.reduceLeDiff, Nat.reduceEqDiff, Nat.reduceBEq, Nat.reduceBNe, Nat.reduceLT, Nat.reduceDiv, Int.reduceNeg, Int.reduceLT, Int.reduceLE, Int.reduceEq, Int.reduceNe, Int.reduceAdd, Int.reduceSub, Int.reduceMul, Int.reduceToNat, Int.reduceBEq, Int.reduceBNe, fillP, fillE, okE, okW, bound, elS, srcS, Fin, finish, ress, resOf, one, keeps, ↓reduceIte, Dl.ap, Dl.slots, okD, isLp, zeros, reduceCtorEq, zdj, zdk, tf_ref19_Same, m1, m2, m3]
  cases e4 : a.nx == b.nx <;> rw [e4] at m4 <;> simp only [Bool.false_and, Bool.true_and]
  · refine callT_of rfl tab_ref19_Same ?_
    simp (maxSteps := 4000000) only [↓set16, ↓sl16, zaa, zab, zac, zad, zz0, zz1, zz2, zz3, zz4, zae, zaf, zag, zah, zai, zaj, zak, zal, zam, zan, zao, zap, zaq, zar, zas, zat, zau, zav, zaw, zax, zay, zaz, zba, zbb, zbc, zbd, zbe, zbf, zbg, zbh, zbi, zbj, zbk, zbl, zbm, zbn, zbo, zbp, zbq, zbr, zbs, zbt, zbu, zbv, zbw, zbx, zby, zbz, zca, zcb, zcc, zcd, zce, zcf, zcg, zch, zci, zcj, zck, zcl, zcm, zcn, ne_eq, zco, zcp, zcq, zcr, zcs, List.replicate, zct, zcu, zcv, zcw, zcx, zcy, zcz, zda, zdb, zdc, zdd, zde, zdf, zdg, zdh, zdi, killT, delta, tak, ev, ad, taks, evs, nL, getH, pack, arith, callD, Nat.reduceAdd, Nat.reduceSub, Nat.reduceMul, Nat.reduceLeDiff, Nat.reduceEqDiff, Nat.reduceBEq, Nat.reduceBNe, Nat.reduceLT, Nat.reduceDiv, Int.reduceNeg, Int.reduceLT, Int.reduceLE, Int.reduceEq, Int.reduceNe, Int.reduceAdd, Int.reduceSub, Int.reduceMul, Int.reduceToNat, Int.reduceBEq, Int.reduceBNe, fillP, fillE, okE, okW, bound, elS, srcS, Fin, finish, ress, resOf, one, keeps, ↓reduceIte, Dl.ap, Dl.slots, okD, isLp, zeros, reduceCtorEq, zdj, zdk, tf_ref19_Same, m1, m2, m3, m4]
  by_cases hl : a.hs.length = b.hs.length
  rotate_left
  · have hq : ((a.hs.length : Int) != b.hs.length) = true := by rw [bne_iff_ne]; omega
    have hab : ¬ a.hs = b.hs := by intro h; rw [h] at hl; exact hl rfl
    refine callT_of rfl tab_ref19_Same ?_
    simp (maxSteps := 4000000) only [↓set16, ↓sl16, zaa, zab, zac, zad, zz0, zz1, zz2, zz3, zz4, zae, zaf, zag, zah, zai, zaj, zak, zal, zam, zan, zao, zap, zaq, zar, zas, zat, zau, zav, zaw, zax, zay, zaz, zba, zbb, zbc, zbd, zbe, zbf, zbg, zbh, zbi, zbj, zbk, zbl, zbm, zbn, zbo, zbp, zbq, zbr, zbs, zbt, zbu, zbv, zbw, zbx, zby, zbz, zca, zcb, zcc, zcd, zce, zcf, zcg, zch, zci, zcj, zck, zcl, zcm, zcn, ne_eq, zco, zcp, zcq, zcr, zcs, List.replicate, zct, zcu, zcv, zcw, zcx, zcy, zcz, zda, zdb, zdc, zdd, zde, zdf, zdg, zdh, zdi, killT, delta, tak, ev, ad, taks, evs, nL, getH, pack, arith, callD, Nat.reduceAdd, Nat.reduceSub, Nat.reduceMul, Nat.reduceLeDiff, Nat.reduceEqDiff, Nat.reduceBEq, Nat.reduceBNe, Nat.reduceLT, Nat.reduceDiv, Int.reduceNeg, Int.reduceLT, Int.reduceLE, Int.reduceEq, Int.reduceNe, Int.reduceAdd, Int.reduceSub, Int.reduceMul, Int.reduceToNat, Int.reduceBEq, Int.reduceBNe, fillP, fillE, okE, okW, bound, elS, srcS, Fin, finish, ress, resOf, one, keeps, ↓reduceIte, Dl.ap, Dl.slots, okD, isLp, zeros, reduceCtorEq, zdj, zdk, tf_ref19_Same, m1, m2, m3, m4, List.length_map, hq, hab]
  have hq : ((a.hs.length : Int) != b.hs.length) = false := by simp [hl]
  have hz : (a.hs.zip b.hs).length = a.hs.length := by rw [List.length_zip, ← hl, Nat.min_self]
  rw [eq_zip _ _ hl]
  refine callT_of rfl tab_ref19_Same ?_
  simp (maxSteps := 4000000) only [↓set16, ↓sl16, zaa, zab, zac, zad, zz0, zz1, zz2, zz3, zz4, zae, zaf, zag, zah, zai, zaj, zak, zal, zam, zan, zao, zap, zaq, zar, zas, zat, zau, zav, zaw, zax, zay, zaz, zba, zbb, zbc, zbd, zbe, zbf, zbg, zbh, zbi, zbj, zbk, zbl, zbm, zbn, zbo, zbp, zbq, zbr, zbs, zbt, zbu, zbv, zbw, zbx, zby, zbz, zca, zcb, zcc, zcd, zce, zcf, zcg, zch, zci, zcj, zck, zcl, zcm, zcn, ne_eq, zco, zcp, zcq, zcr, zcs, List.replicate, zct, zcu, zcv, zcw, zcx, zcy, zcz, zda, zdb, zdc, zdd, zde, zdf, zdg, zdh, zdi, killT, delta, tak, ev, ad, taks, evs, nL, getH, pack, arith, callD, Nat.reduceAdd, Nat.reduceSub, Nat.reduceMul, Nat.reduceLeDiff, Nat.reduceEqDiff, Nat.reduceBEq, Nat.reduceBNe, Nat.reduceLT, Nat.reduceDiv, Int.reduceNeg, Int.reduceLT, Int.reduceLE, Int.reduceEq, Int.reduceNe, Int.reduceAdd, Int.reduceSub, Int.reduceMul, Int.reduceToNat, Int.reduceBEq, Int.reduceBNe, fillP, fillE, okE, okW, bound, elS, srcS, Fin, finish, ress, resOf, one, keeps, ↓reduceIte, Dl.ap, Dl.slots, okD, isLp, zeros, reduceCtorEq, zdj, zdk, tf_ref19_Same, m1, m2, m3, m4, List.length_map, hq]
  refine loopL (a.hs.zip b.hs) (by omega) (fun (_ : Unit) suf => ⟨.bool (suf.all fun p => decide (p.1 = p.2)), H, false⟩) (fun k _ => ⟨(TV.junk :: TV.junk :: .lbox [.int .i64 a.q, .int .i64 a.u, .int .i64 a.he, .int .i64 a.nx, .sl .shr (a.hs.map Hd.tv)] :: .lbox [.int .i64 b.q, .int .i64 b.u, .int .i64 b.he, .int .i64 b.nx, .sl .shr (b.hs.map Hd.tv)] :: TV.junk :: .int .i64 k :: TV.junk :: TV.junk :: TV.junk :: TV.junk :: TV.junk :: TV.junk :: TV.junk :: TV.junk :: TV.junk :: TV.junk :: TV.junk :: TV.junk :: TV.junk :: TV.junk :: TV.junk :: TV.junk :: TV.junk :: TV.junk :: TV.junk :: TV.junk :: TV.junk :: TV.junk :: TV.junk :: TV.junk :: TV.junk :: TV.junk :: TV.junk :: TV.junk :: TV.junk :: TV.junk :: TV.junk :: TV.junk :: TV.junk :: TV.junk :: TV.junk :: TV.junk :: TV.junk :: TV.junk :: TV.junk :: TV.junk :: TV.junk :: TV.junk :: TV.junk :: TV.junk :: TV.junk :: TV.junk :: TV.junk :: TV.junk :: TV.junk :: TV.junk :: TV.junk :: TV.junk :: TV.junk :: []), H, H.length, false⟩) ?_ ?_ ()
  · intro acc hq
    rw [hz] at hq ⊢
    rw [Run_loop]
    simp (maxSteps := 4000000) only [↓set16, ↓sl16, zaa, zab, zac, zad, zz0, zz1, zz2, zz3, zz4, zae, zaf, zag, zah, zai, zaj, zak, zal, zam, zan, zao, zap, zaq, zar, zas, zat, zau, zav, zaw, zax, zay, zaz, zba, zbb, zbc, zbd, zbe, zbf, zbg, zbh, zbi, zbj, zbk, zbl, zbm, zbn, zbo, zbp, zbq, zbr, zbs, zbt, zbu, zbv, zbw, zbx, zby, zbz, zca, zcb, zcc, zcd, zce, zcf, zcg, zch, zci, zcj, zck, zcl, zcm, zcn, ne_eq, zco, zcp, zcq, zcr, zcs, List.replicate, zct, zcu, zcv, zcw, zcx, zcy, zcz, zda, zdb, zdc, zdd, zde, zdf, zdg, zdh, zdi, killT, delta, tak, ev, ad, taks, evs, nL, getH, pack, arith, callD, Nat.reduceAdd, Nat.reduceSub, Nat.reduceMul, Nat.reduceLeDiff, Nat.reduceEqDiff, Nat.reduceBEq, Nat.reduceBNe, Nat.reduceLT, Nat.reduceDiv, Int.reduceNeg, Int.reduceLT, Int.reduceLE, Int.reduceEq, Int.reduceNe, Int.reduceAdd, Int.reduceSub, Int.reduceMul, Int.reduceToNat, Int.reduceBEq, Int.reduceBNe, fillP, fillE, okE, okW, bound, elS, srcS, Fin, finish, ress, resOf, one, keeps, ↓reduceIte, Dl.ap, Dl.slots, okD, isLp, zeros, reduceCtorEq, zdj, zdk, lp_ref19_Same_1, List.length_map, hq]
  · intro k x acc rest hx hk hk0 hw ih
    rw [hz] at hk
    rw [List.getElem?_zip_eq_some] at hx
    have hga := map_get (f := Hd.tv) hx.1
    have hgb := map_get (f := Hd.tv) hx.2
    have hE := eq_hold x.1 x.2
    rw [Hd.tv_eq] at hga hgb
    rw [Run_loop]
    by_cases h1 : x.1 = x.2
    · simp only [h1, decide_true] at hE
      have ha' : (x :: rest).all (fun p => decide (p.1 = p.2)) = rest.all (fun p => decide (p.1 = p.2)) := by rw [List.all_cons]; simp [h1]
      rw [ha']
      rw [h1] at hga
      simp (maxSteps := 4000000) only [↓set16, ↓sl16, zaa, zab, zac, zad, zz0, zz1, zz2, zz3, zz4, zae, zaf, zag, zah, zai, zaj, zak, zal, zam, zan, zao, zap, zaq, zar, zas, zat, zau, zav, zaw, zax, zay, zaz, zba, zbb, zbc, zbd, zbe, zbf, zbg, zbh, zbi, zbj, zbk, zbl, zbm, zbn, zbo, zbp, zbq, zbr, zbs, zbt, zbu, zbv, zbw, zbx, zby, zbz, zca, zcb, zcc, zcd, zce, zcf, zcg, zch, zci, zcj, zck, zcl, zcm, zcn, ne_eq, zco, zcp, zcq, zcr, zcs, List.replicate, zct, zcu, zcv, zcw, zcx, zcy, zcz, zda, zdb, zdc, zdd, zde, zdf, zdg, zdh, zdi, killT, delta, tak, ev, ad, taks, evs, nL, getH, pack, arith, callD, Nat.reduceAdd, Nat.reduceSub, Nat.reduceMul, Nat.reduceLeDiff, Nat.reduceEqDiff, Nat.reduceBEq, Nat.reduceBNe, Nat.reduceLT, Nat.reduceDiv, Int.reduceNeg, Int.reduceLT, Int.reduceLE, Int.reduceEq, Int.reduceNe, Int.reduceAdd, Int.reduceSub, Int.reduceMul, Int.reduceToNat, Int.reduceBEq, Int.reduceBNe, fillP, fillE, okE, okW, bound, elS, srcS, Fin, finish, ress, resOf, one, keeps, ↓reduceIte, Dl.ap, Dl.slots, okD, isLp, zeros, reduceCtorEq, zdj, zdk, lp_ref19_Same_1, List.length_map, hk, hk0, hga, hgb, Int.toNat_natCast, hE, hw]
      exact ih ()
    · simp only [h1, decide_false] at hE
      have ha' : (x :: rest).all (fun p => decide (p.1 = p.2)) = false := by rw [List.all_cons]; simp [h1]
      rw [ha']
      simp (maxSteps := 4000000) only [↓set16, ↓sl16, zaa, zab, zac, zad, zz0, zz1, zz2, zz3, zz4, zae, zaf, zag, zah, zai, zaj, zak, zal, zam, zan, zao, zap, zaq, zar, zas, zat, zau, zav, zaw, zax, zay, zaz, zba, zbb, zbc, zbd, zbe, zbf, zbg, zbh, zbi, zbj, zbk, zbl, zbm, zbn, zbo, zbp, zbq, zbr, zbs, zbt, zbu, zbv, zbw, zbx, zby, zbz, zca, zcb, zcc, zcd, zce, zcf, zcg, zch, zci, zcj, zck, zcl, zcm, zcn, ne_eq, zco, zcp, zcq, zcr, zcs, List.replicate, zct, zcu, zcv, zcw, zcx, zcy, zcz, zda, zdb, zdc, zdd, zde, zdf, zdg, zdh, zdi, killT, delta, tak, ev, ad, taks, evs, nL, getH, pack, arith, callD, Nat.reduceAdd, Nat.reduceSub, Nat.reduceMul, Nat.reduceLeDiff, Nat.reduceEqDiff, Nat.reduceBEq, Nat.reduceBNe, Nat.reduceLT, Nat.reduceDiv, Int.reduceNeg, Int.reduceLT, Int.reduceLE, Int.reduceEq, Int.reduceNe, Int.reduceAdd, Int.reduceSub, Int.reduceMul, Int.reduceToNat, Int.reduceBEq, Int.reduceBNe, fillP, fillE, okE, okW, bound, elS, srcS, Fin, finish, ress, resOf, one, keeps, ↓reduceIte, Dl.ap, Dl.slots, okD, isLp, zeros, reduceCtorEq, zdj, zdk, lp_ref19_Same_1, List.length_map, hk, hk0, hga, hgb, Int.toNat_natCast, hE, hw]
theorem ownV_cases (R : List Hd) : (R = [] ∧ ownV R = .nils) ∨ ownV R = .sl (.own 6 false) (R.map Hd.tv) := by
  unfold ownV
  cases R with
  | nil => exact .inl ⟨rfl, rfl⟩
  | cons x R => exact .inr (if_neg (by simp))
/-- Without the first hold of an id. -/
def relL (id : Int) : Bool → List Hd → List Hd
  | _, [] => []
  | false, h :: t => if h.id = id then relL id true t else h :: relL id false t
  | true, h :: t => h :: relL id true t
theorem ref19_Release_none (l : Lg) (hm : l.hs.length ≤ 1000000) (id : Int) (hn : findH id l.hs = none) : CT n_ref19_Release [l.tv, .int .i64 id] H = some ⟨.tup [l.tvw (sln l.hs), .int .i64 6], H, false⟩ := by
  have hC := ref19_copied (H := H) l hm
  have hF := ref19_Find (H := H) l hm id
  unfold findR at hF
  rw [hn] at hF
  rw [Lg.tv_eq] at hC hF ⊢
  unfold Lg.tvw sln at hC ⊢
  unfold zc at hF
  refine callT_of rfl tab_ref19_Release ?_
  simp (maxSteps := 4000000) only [↓set16, ↓sl16, zaa, zab, zac, zad, zz0, zz1, zz2, zz3, zz4, zae, zaf, zag, zah, zai, zaj, zak, zal, zam, zan, zao, zap, zaq, zar, zas, zat, zau, zav, zaw, zax, zay, zaz, zba, zbb, zbc, zbd, zbe, zbf, zbg, zbh, zbi, zbj, zbk, zbl, zbm, zbn, zbo, zbp, zbq, zbr, zbs, zbt, zbu, zbv, zbw, zbx, zby, zbz, zca, zcb, zcc, zcd, zce, zcf, zcg, zch, zci, zcj, zck, zcl, zcm, zcn, ne_eq, zco, zcp, zcq, zcr, zcs, List.replicate, zct, zcu, zcv, zcw, zcx, zcy, zcz, zda, zdb, zdc, zdd, zde, zdf, zdg, zdh, zdi, killT, delta, tak, ev, ad, taks, evs, nL, getH, pack, arith, callD, Nat.reduceAdd, Nat.reduceSub, Nat.reduceMul, Nat.reduceLeDiff, Nat.reduceEqDiff, Nat.reduceBEq, Nat.reduceBNe, Nat.reduceLT, Nat.reduceDiv, Int.reduceNeg, Int.reduceLT, Int.reduceLE, Int.reduceEq, Int.reduceNe, Int.reduceAdd, Int.reduceSub, Int.reduceMul, Int.reduceToNat, Int.reduceBEq, Int.reduceBNe, fillP, fillE, okE, okW, bound, elS, srcS, Fin, finish, ress, resOf, one, keeps, ↓reduceIte, Dl.ap, Dl.slots, okD, isLp, zeros, reduceCtorEq, zdj, zdk, tf_ref19_Release, hC, hF]
theorem ref19_Release (l : Lg) (hm : l.hs.length ≤ 1000000) (id : Int) (h : Hd) (hn : findH id l.hs = some h) : CT n_ref19_Release [l.tv, .int .i64 id] H = some ⟨.tup [.agg [.int .i64 l.q, .int .i64 l.u, .int .i64 (IntKind.i64.wrap (l.he - h.nb)), .int .i64 l.nx, .sl .shr ((relL id false l.hs).map Hd.tv)], .int .i64 0], H, false⟩ := by
  have hC := ref19_copied (H := H) l hm
  have hF := ref19_Find (H := H) l hm id
  unfold findR at hF
  rw [hn] at hF
  simp only [Hd.tv_eq] at hF
  rw [Lg.tv_eq] at hC hF ⊢
  unfold Lg.tvw sln at hC
  refine callT_of rfl tab_ref19_Release ?_
  simp (maxSteps := 4000000) only [↓set16, ↓sl16, zaa, zab, zac, zad, zz0, zz1, zz2, zz3, zz4, zae, zaf, zag, zah, zai, zaj, zak, zal, zam, zan, zao, zap, zaq, zar, zas, zat, zau, zav, zaw, zax, zay, zaz, zba, zbb, zbc, zbd, zbe, zbf, zbg, zbh, zbi, zbj, zbk, zbl, zbm, zbn, zbo, zbp, zbq, zbr, zbs, zbt, zbu, zbv, zbw, zbx, zby, zbz, zca, zcb, zcc, zcd, zce, zcf, zcg, zch, zci, zcj, zck, zcl, zcm, zcn, ne_eq, zco, zcp, zcq, zcr, zcs, List.replicate, zct, zcu, zcv, zcw, zcx, zcy, zcz, zda, zdb, zdc, zdd, zde, zdf, zdg, zdh, zdi, killT, delta, tak, ev, ad, taks, evs, nL, getH, pack, arith, callD, Nat.reduceAdd, Nat.reduceSub, Nat.reduceMul, Nat.reduceLeDiff, Nat.reduceEqDiff, Nat.reduceBEq, Nat.reduceBNe, Nat.reduceLT, Nat.reduceDiv, Int.reduceNeg, Int.reduceLT, Int.reduceLE, Int.reduceEq, Int.reduceNe, Int.reduceAdd, Int.reduceSub, Int.reduceMul, Int.reduceToNat, Int.reduceBEq, Int.reduceBNe, fillP, fillE, okE, okW, bound, elS, srcS, Fin, finish, ress, resOf, one, keeps, ↓reduceIte, Dl.ap, Dl.slots, okD, isLp, zeros, reduceCtorEq, zdj, zdk, tf_ref19_Release, hC, hF]
  refine loopI l.hs (by omega) (fun (acc : List Hd × Bool) suf => ⟨.tup [.agg [.int .i64 l.q, .int .i64 l.u, .int .i64 (IntKind.i64.wrap (l.he - h.nb)), .int .i64 l.nx, .sl .shr ((acc.1 ++ relL id acc.2 suf).map Hd.tv)], .int .i64 0], H, false⟩) (fun k acc => ⟨(TV.junk :: .int .i64 id :: .lbox [.int .i64 l.q, .int .i64 l.u, .int .i64 (IntKind.i64.wrap (l.he - h.nb)), .int .i64 l.nx, .sl (.own 6 false) (l.hs.map Hd.tv)] :: TV.tup [] :: .lbox [.int .i64 0, .int .i64 0, .int .i64 0, .int .i64 0, .nils] :: TV.junk :: TV.junk :: TV.junk :: ownV acc.1 :: .bool acc.2 :: .int .i64 k :: TV.junk :: TV.junk :: TV.junk :: TV.junk :: TV.junk :: TV.junk :: TV.junk :: TV.junk :: TV.junk :: TV.junk :: TV.tup [] :: TV.junk :: TV.junk :: TV.junk :: TV.junk :: TV.junk :: TV.junk :: TV.junk :: TV.junk :: TV.junk :: TV.junk :: TV.junk :: TV.junk :: TV.junk :: TV.junk :: TV.junk :: TV.junk :: TV.junk :: TV.junk :: TV.junk :: TV.junk :: TV.junk :: TV.junk :: TV.junk :: TV.junk :: TV.junk :: TV.junk :: TV.junk :: TV.junk :: TV.junk :: TV.junk :: TV.junk :: TV.junk :: TV.junk :: TV.tup [] :: TV.tup [] :: TV.tup [] :: []), H, H.length, false⟩) (fun k acc => acc.1.length ≤ k) ?_ ?_ ([], false) (Nat.le_refl _)
  · rintro ⟨R, g⟩ hi hq
    have hW := ref19_with (H := H) l.q l.u (IntKind.i64.wrap (l.he - h.nb)) l.nx (l.hs.map Hd.tv) (R.map Hd.tv) .shr
    rw [Run_loop]
    have e : R ++ relL id g [] = R := by cases g <;> simp [relL]
    simp only [e]
    rcases ownV_cases R with ⟨rfl, e2⟩ | e2
    · rw [List.map_nil] at hW
      simp (maxSteps := 4000000) only [↓set16, ↓sl16, zaa, zab, zac, zad, zz0, zz1, zz2, zz3, zz4, zae, zaf, zag, zah, zai, zaj, zak, zal, zam, zan, zao, zap, zaq, zar, zas, zat, zau, zav, zaw, zax, zay, zaz, zba, zbb, zbc, zbd, zbe, zbf, zbg, zbh, zbi, zbj, zbk, zbl, zbm, zbn, zbo, zbp, zbq, zbr, zbs, zbt, zbu, zbv, zbw, zbx, zby, zbz, zca, zcb, zcc, zcd, zce, zcf, zcg, zch, zci, zcj, zck, zcl, zcm, zcn, ne_eq, zco, zcp, zcq, zcr, zcs, List.replicate, zct, zcu, zcv, zcw, zcx, zcy, zcz, zda, zdb, zdc, zdd, zde, zdf, zdg, zdh, zdi, killT, delta, tak, ev, ad, taks, evs, nL, getH, pack, arith, callD, Nat.reduceAdd, Nat.reduceSub, Nat.reduceMul, Nat.reduceLeDiff, Nat.reduceEqDiff, Nat.reduceBEq, Nat.reduceBNe, Nat.reduceLT, Nat.reduceDiv, Int.reduceNeg, Int.reduceLT, Int.reduceLE, Int.reduceEq, Int.reduceNe, Int.reduceAdd, Int.reduceSub, Int.reduceMul, Int.reduceToNat, Int.reduceBEq, Int.reduceBNe, fillP, fillE, okE, okW, bound, elS, srcS, Fin, finish, ress, resOf, one, keeps, ↓reduceIte, Dl.ap, Dl.slots, okD, isLp, zeros, reduceCtorEq, zdj, zdk, lp_ref19_Release_1, List.length_map, hq, e2, hW]
    · simp (maxSteps := 4000000) only [↓set16, ↓sl16, zaa, zab, zac, zad, zz0, zz1, zz2, zz3, zz4, zae, zaf, zag, zah, zai, zaj, zak, zal, zam, zan, zao, zap, zaq, zar, zas, zat, zau, zav, zaw, zax, zay, zaz, zba, zbb, zbc, zbd, zbe, zbf, zbg, zbh, zbi, zbj, zbk, zbl, zbm, zbn, zbo, zbp, zbq, zbr, zbs, zbt, zbu, zbv, zbw, zbx, zby, zbz, zca, zcb, zcc, zcd, zce, zcf, zcg, zch, zci, zcj, zck, zcl, zcm, zcn, ne_eq, zco, zcp, zcq, zcr, zcs, List.replicate, zct, zcu, zcv, zcw, zcx, zcy, zcz, zda, zdb, zdc, zdd, zde, zdf, zdg, zdh, zdi, killT, delta, tak, ev, ad, taks, evs, nL, getH, pack, arith, callD, Nat.reduceAdd, Nat.reduceSub, Nat.reduceMul, Nat.reduceLeDiff, Nat.reduceEqDiff, Nat.reduceBEq, Nat.reduceBNe, Nat.reduceLT, Nat.reduceDiv, Int.reduceNeg, Int.reduceLT, Int.reduceLE, Int.reduceEq, Int.reduceNe, Int.reduceAdd, Int.reduceSub, Int.reduceMul, Int.reduceToNat, Int.reduceBEq, Int.reduceBNe, fillP, fillE, okE, okW, bound, elS, srcS, Fin, finish, ress, resOf, one, keeps, ↓reduceIte, Dl.ap, Dl.slots, okD, isLp, zeros, reduceCtorEq, zdj, zdk, lp_ref19_Release_1, List.length_map, hq, e2, hW]
  · rintro k x ⟨R, g⟩ rest hi hx hk hk0 hw ih
    simp only at hi
    have hg := map_get (f := Hd.tv) hx
    rw [Hd.tv_eq] at hg
    have r0 : (1 : Nat) * 56 ≤ roomB := by unfold roomB; omega
    have r1 : (1 : Nat) ≤ roomB := by unfold roomB; omega
    have r2 : (R.length + 1) * 56 ≤ roomB := by unfold roomB; omega
    have r3 : R.length + 1 ≤ roomB := by unfold roomB; omega
    have okw := okW_tv' R
    have hV1 : ownV (R ++ [x]) = .sl (.own 6 false) (R.map Hd.tv ++ [.agg [.int .i64 x.id, .int .i64 x.cl, .int .i64 x.nb, .int .i64 x.un, .int .i64 x.ti, .str x.sp]]) := by
      unfold ownV; rw [if_neg (by simp), List.map_append]; rfl
    rw [Run_loop]
    cases g with
    | true =>
      have e : R ++ relL id true (x :: rest) = (R ++ [x]) ++ relL id true rest := by simp [relL]
      simp only [e]
      have hgo := ih (R ++ [x], true) (by simp; omega)
      simp only [hV1] at hgo
      cases hb : x.id == id
      · rcases ownV_cases R with ⟨rfl, e2⟩ | e2
        · simp only [List.map_nil, List.nil_append] at hgo ⊢
          simp (maxSteps := 4000000) only [↓set16, ↓sl16, zaa, zab, zac, zad, zz0, zz1, zz2, zz3, zz4, zae, zaf, zag, zah, zai, zaj, zak, zal, zam, zan, zao, zap, zaq, zar, zas, zat, zau, zav, zaw, zax, zay, zaz, zba, zbb, zbc, zbd, zbe, zbf, zbg, zbh, zbi, zbj, zbk, zbl, zbm, zbn, zbo, zbp, zbq, zbr, zbs, zbt, zbu, zbv, zbw, zbx, zby, zbz, zca, zcb, zcc, zcd, zce, zcf, zcg, zch, zci, zcj, zck, zcl, zcm, zcn, ne_eq, zco, zcp, zcq, zcr, zcs, List.replicate, zct, zcu, zcv, zcw, zcx, zcy, zcz, zda, zdb, zdc, zdd, zde, zdf, zdg, zdh, zdi, killT, delta, tak, ev, ad, taks, evs, nL, getH, pack, arith, callD, Nat.reduceAdd, Nat.reduceSub, Nat.reduceMul, Nat.reduceLeDiff, Nat.reduceEqDiff, Nat.reduceBEq, Nat.reduceBNe, Nat.reduceLT, Nat.reduceDiv, Int.reduceNeg, Int.reduceLT, Int.reduceLE, Int.reduceEq, Int.reduceNe, Int.reduceAdd, Int.reduceSub, Int.reduceMul, Int.reduceToNat, Int.reduceBEq, Int.reduceBNe, fillP, fillE, okE, okW, bound, elS, srcS, Fin, finish, ress, resOf, one, keeps, ↓reduceIte, Dl.ap, Dl.slots, okD, isLp, zeros, reduceCtorEq, zdj, zdk, lp_ref19_Release_1, List.length_map, hk, hk0, hg, Int.toNat_natCast, hb, hw, e2, r0, r1]
          exact hgo
        · simp (maxSteps := 4000000) only [↓set16, ↓sl16, zaa, zab, zac, zad, zz0, zz1, zz2, zz3, zz4, zae, zaf, zag, zah, zai, zaj, zak, zal, zam, zan, zao, zap, zaq, zar, zas, zat, zau, zav, zaw, zax, zay, zaz, zba, zbb, zbc, zbd, zbe, zbf, zbg, zbh, zbi, zbj, zbk, zbl, zbm, zbn, zbo, zbp, zbq, zbr, zbs, zbt, zbu, zbv, zbw, zbx, zby, zbz, zca, zcb, zcc, zcd, zce, zcf, zcg, zch, zci, zcj, zck, zcl, zcm, zcn, ne_eq, zco, zcp, zcq, zcr, zcs, List.replicate, zct, zcu, zcv, zcw, zcx, zcy, zcz, zda, zdb, zdc, zdd, zde, zdf, zdg, zdh, zdi, killT, delta, tak, ev, ad, taks, evs, nL, getH, pack, arith, callD, Nat.reduceAdd, Nat.reduceSub, Nat.reduceMul, Nat.reduceLeDiff, Nat.reduceEqDiff, Nat.reduceBEq, Nat.reduceBNe, Nat.reduceLT, Nat.reduceDiv, Int.reduceNeg, Int.reduceLT, Int.reduceLE, Int.reduceEq, Int.reduceNe, Int.reduceAdd, Int.reduceSub, Int.reduceMul, Int.reduceToNat, Int.reduceBEq, Int.reduceBNe, fillP, fillE, okE, okW, bound, elS, srcS, Fin, finish, ress, resOf, one, keeps, ↓reduceIte, Dl.ap, Dl.slots, okD, isLp, zeros, reduceCtorEq, zdj, zdk, lp_ref19_Release_1, List.length_map, hk, hk0, hg, Int.toNat_natCast, hb, hw, e2, r2, r3, okw]
          simp only [List.append_assoc, List.cons_append, List.nil_append] at hgo
          exact hgo
      · rcases ownV_cases R with ⟨rfl, e2⟩ | e2
        · simp only [List.map_nil, List.nil_append] at hgo ⊢
          simp (maxSteps := 4000000) only [↓set16, ↓sl16, zaa, zab, zac, zad, zz0, zz1, zz2, zz3, zz4, zae, zaf, zag, zah, zai, zaj, zak, zal, zam, zan, zao, zap, zaq, zar, zas, zat, zau, zav, zaw, zax, zay, zaz, zba, zbb, zbc, zbd, zbe, zbf, zbg, zbh, zbi, zbj, zbk, zbl, zbm, zbn, zbo, zbp, zbq, zbr, zbs, zbt, zbu, zbv, zbw, zbx, zby, zbz, zca, zcb, zcc, zcd, zce, zcf, zcg, zch, zci, zcj, zck, zcl, zcm, zcn, ne_eq, zco, zcp, zcq, zcr, zcs, List.replicate, zct, zcu, zcv, zcw, zcx, zcy, zcz, zda, zdb, zdc, zdd, zde, zdf, zdg, zdh, zdi, killT, delta, tak, ev, ad, taks, evs, nL, getH, pack, arith, callD, Nat.reduceAdd, Nat.reduceSub, Nat.reduceMul, Nat.reduceLeDiff, Nat.reduceEqDiff, Nat.reduceBEq, Nat.reduceBNe, Nat.reduceLT, Nat.reduceDiv, Int.reduceNeg, Int.reduceLT, Int.reduceLE, Int.reduceEq, Int.reduceNe, Int.reduceAdd, Int.reduceSub, Int.reduceMul, Int.reduceToNat, Int.reduceBEq, Int.reduceBNe, fillP, fillE, okE, okW, bound, elS, srcS, Fin, finish, ress, resOf, one, keeps, ↓reduceIte, Dl.ap, Dl.slots, okD, isLp, zeros, reduceCtorEq, zdj, zdk, lp_ref19_Release_1, List.length_map, hk, hk0, hg, Int.toNat_natCast, hb, hw, e2, r0, r1]
          exact hgo
        · simp (maxSteps := 4000000) only [↓set16, ↓sl16, zaa, zab, zac, zad, zz0, zz1, zz2, zz3, zz4, zae, zaf, zag, zah, zai, zaj, zak, zal, zam, zan, zao, zap, zaq, zar, zas, zat, zau, zav, zaw, zax, zay, zaz, zba, zbb, zbc, zbd, zbe, zbf, zbg, zbh, zbi, zbj, zbk, zbl, zbm, zbn, zbo, zbp, zbq, zbr, zbs, zbt, zbu, zbv, zbw, zbx, zby, zbz, zca, zcb, zcc, zcd, zce, zcf, zcg, zch, zci, zcj, zck, zcl, zcm, zcn, ne_eq, zco, zcp, zcq, zcr, zcs, List.replicate, zct, zcu, zcv, zcw, zcx, zcy, zcz, zda, zdb, zdc, zdd, zde, zdf, zdg, zdh, zdi, killT, delta, tak, ev, ad, taks, evs, nL, getH, pack, arith, callD, Nat.reduceAdd, Nat.reduceSub, Nat.reduceMul, Nat.reduceLeDiff, Nat.reduceEqDiff, Nat.reduceBEq, Nat.reduceBNe, Nat.reduceLT, Nat.reduceDiv, Int.reduceNeg, Int.reduceLT, Int.reduceLE, Int.reduceEq, Int.reduceNe, Int.reduceAdd, Int.reduceSub, Int.reduceMul, Int.reduceToNat, Int.reduceBEq, Int.reduceBNe, fillP, fillE, okE, okW, bound, elS, srcS, Fin, finish, ress, resOf, one, keeps, ↓reduceIte, Dl.ap, Dl.slots, okD, isLp, zeros, reduceCtorEq, zdj, zdk, lp_ref19_Release_1, List.length_map, hk, hk0, hg, Int.toNat_natCast, hb, hw, e2, r2, r3, okw]
          simp only [List.append_assoc, List.cons_append, List.nil_append] at hgo
          exact hgo
    | false =>
      by_cases h1 : x.id = id
      · have hb : (x.id == id) = true := by simp [h1]
        have e : relL id false (x :: rest) = relL id true rest := by simp [relL, h1]
        simp only [e]
        have hgo := ih (R, true) (by simp; omega)
        simp (maxSteps := 4000000) only [↓set16, ↓sl16, zaa, zab, zac, zad, zz0, zz1, zz2, zz3, zz4, zae, zaf, zag, zah, zai, zaj, zak, zal, zam, zan, zao, zap, zaq, zar, zas, zat, zau, zav, zaw, zax, zay, zaz, zba, zbb, zbc, zbd, zbe, zbf, zbg, zbh, zbi, zbj, zbk, zbl, zbm, zbn, zbo, zbp, zbq, zbr, zbs, zbt, zbu, zbv, zbw, zbx, zby, zbz, zca, zcb, zcc, zcd, zce, zcf, zcg, zch, zci, zcj, zck, zcl, zcm, zcn, ne_eq, zco, zcp, zcq, zcr, zcs, List.replicate, zct, zcu, zcv, zcw, zcx, zcy, zcz, zda, zdb, zdc, zdd, zde, zdf, zdg, zdh, zdi, killT, delta, tak, ev, ad, taks, evs, nL, getH, pack, arith, callD, Nat.reduceAdd, Nat.reduceSub, Nat.reduceMul, Nat.reduceLeDiff, Nat.reduceEqDiff, Nat.reduceBEq, Nat.reduceBNe, Nat.reduceLT, Nat.reduceDiv, Int.reduceNeg, Int.reduceLT, Int.reduceLE, Int.reduceEq, Int.reduceNe, Int.reduceAdd, Int.reduceSub, Int.reduceMul, Int.reduceToNat, Int.reduceBEq, Int.reduceBNe, fillP, fillE, okE, okW, bound, elS, srcS, Fin, finish, ress, resOf, one, keeps, ↓reduceIte, Dl.ap, Dl.slots, okD, isLp, zeros, reduceCtorEq, zdj, zdk, lp_ref19_Release_1, List.length_map, hk, hk0, hg, Int.toNat_natCast, hb, hw]
        exact hgo
      · have hb : (x.id == id) = false := by simp [h1]
        have e : R ++ relL id false (x :: rest) = (R ++ [x]) ++ relL id false rest := by simp [relL, h1]
        simp only [e]
        have hgo := ih (R ++ [x], false) (by simp; omega)
        simp only [hV1] at hgo
        rcases ownV_cases R with ⟨rfl, e2⟩ | e2
        · simp only [List.map_nil, List.nil_append] at hgo ⊢
          simp (maxSteps := 4000000) only [↓set16, ↓sl16, zaa, zab, zac, zad, zz0, zz1, zz2, zz3, zz4, zae, zaf, zag, zah, zai, zaj, zak, zal, zam, zan, zao, zap, zaq, zar, zas, zat, zau, zav, zaw, zax, zay, zaz, zba, zbb, zbc, zbd, zbe, zbf, zbg, zbh, zbi, zbj, zbk, zbl, zbm, zbn, zbo, zbp, zbq, zbr, zbs, zbt, zbu, zbv, zbw, zbx, zby, zbz, zca, zcb, zcc, zcd, zce, zcf, zcg, zch, zci, zcj, zck, zcl, zcm, zcn, ne_eq, zco, zcp, zcq, zcr, zcs, List.replicate, zct, zcu, zcv, zcw, zcx, zcy, zcz, zda, zdb, zdc, zdd, zde, zdf, zdg, zdh, zdi, killT, delta, tak, ev, ad, taks, evs, nL, getH, pack, arith, callD, Nat.reduceAdd, Nat.reduceSub, Nat.reduceMul, Nat.reduceLeDiff, Nat.reduceEqDiff, Nat.reduceBEq, Nat.reduceBNe, Nat.reduceLT, Nat.reduceDiv, Int.reduceNeg, Int.reduceLT, Int.reduceLE, Int.reduceEq, Int.reduceNe, Int.reduceAdd, Int.reduceSub, Int.reduceMul, Int.reduceToNat, Int.reduceBEq, Int.reduceBNe, fillP, fillE, okE, okW, bound, elS, srcS, Fin, finish, ress, resOf, one, keeps, ↓reduceIte, Dl.ap, Dl.slots, okD, isLp, zeros, reduceCtorEq, zdj, zdk, lp_ref19_Release_1, List.length_map, hk, hk0, hg, Int.toNat_natCast, hb, hw, e2, r0, r1]
          exact hgo
        · simp (maxSteps := 4000000) only [↓set16, ↓sl16, zaa, zab, zac, zad, zz0, zz1, zz2, zz3, zz4, zae, zaf, zag, zah, zai, zaj, zak, zal, zam, zan, zao, zap, zaq, zar, zas, zat, zau, zav, zaw, zax, zay, zaz, zba, zbb, zbc, zbd, zbe, zbf, zbg, zbh, zbi, zbj, zbk, zbl, zbm, zbn, zbo, zbp, zbq, zbr, zbs, zbt, zbu, zbv, zbw, zbx, zby, zbz, zca, zcb, zcc, zcd, zce, zcf, zcg, zch, zci, zcj, zck, zcl, zcm, zcn, ne_eq, zco, zcp, zcq, zcr, zcs, List.replicate, zct, zcu, zcv, zcw, zcx, zcy, zcz, zda, zdb, zdc, zdd, zde, zdf, zdg, zdh, zdi, killT, delta, tak, ev, ad, taks, evs, nL, getH, pack, arith, callD, Nat.reduceAdd, Nat.reduceSub, Nat.reduceMul, Nat.reduceLeDiff, Nat.reduceEqDiff, Nat.reduceBEq, Nat.reduceBNe, Nat.reduceLT, Nat.reduceDiv, Int.reduceNeg, Int.reduceLT, Int.reduceLE, Int.reduceEq, Int.reduceNe, Int.reduceAdd, Int.reduceSub, Int.reduceMul, Int.reduceToNat, Int.reduceBEq, Int.reduceBNe, fillP, fillE, okE, okW, bound, elS, srcS, Fin, finish, ress, resOf, one, keeps, ↓reduceIte, Dl.ap, Dl.slots, okD, isLp, zeros, reduceCtorEq, zdj, zdk, lp_ref19_Release_1, List.length_map, hk, hk0, hg, Int.toNat_natCast, hb, hw, e2, r2, r3, okw]
          simp only [List.append_assoc, List.cons_append, List.nil_append] at hgo
          exact hgo
end Go.T
