/- What the record's functions answer: numbers, entries. -/
import Derived.Test.YtijmmpeadikkbaaOfrl
set_option linter.unusedVariables false
set_option linter.unusedSimpArgs false
set_option maxRecDepth 10000
set_option pp.deepTerms true
set_option pp.maxSteps 1000000
set_option maxHeartbeats 1000000
namespace Go.T
attribute [local irreducible] Run Back RS Ap
variable {H : Heap} {j : Nat}
/-- An entry. -/
structure En where
  ix : Int
  tm : Int
  kd : Int
  dt : List Int
  deriving DecidableEq
def En.tvw (e : En) (v : TV) : TV := .agg [.int .i64 e.ix, .int .i64 e.tm, .int .i64 e.kd, v]
def En.tv (e : En) : TV := e.tvw (.sl .shr (bl e.dt))
theorem En.tv_eq (e : En) : e.tv = .agg [.int .i64 e.ix, .int .i64 e.tm, .int .i64 e.kd, .sl .shr (bl e.dt)] := rfl
structure En.ok (e : En) : Prop where
  ix : I64 e.ix
  tm : I64 e.tm
  kd : I64 e.kd
  dt : ∀ x ∈ e.dt, 0 ≤ x ∧ x ≤ 255
  len : e.dt.length ≤ 9223372036854775807
/-- A number of a record's, in a box: at which cell, from where to where. -/
structure Nm where
  o : Nat
  lo : Int
  hi : Int
  n : Int
def Nm.tv (j : Nat) (x : Nm) : TV := .agg [.ptr j x.o, .int .i64 x.lo, .int .i64 x.hi]
theorem Nm.tv_eq (j : Nat) (x : Nm) : x.tv j = .agg [.ptr j x.o, .int .i64 x.lo, .int .i64 x.hi] := rfl
/-- The numbers stand in a box. -/
def NmAt (H : Heap) (j : Nat) (l : List Nm) : Prop := ∃ cs, live H j = some cs ∧ ∀ x ∈ l, cut cs x.o 1 = some [.int .i64 x.n]
theorem record_number_in {cs : List TV} (hl : live H j = some cs) (x : Nm) (hc : cut cs x.o 1 = some [.int .i64 x.n]) : CT n_record_number_in [x.tv j] H = some ⟨.bool (within x.n x.lo x.hi), H, false⟩ := by
  rw [Nm.tv_eq]
  by_cases h1 : x.lo ≤ x.n
  · have e : within x.n x.lo x.hi = decide (x.n ≤ x.hi) := by simp [within, h1]
    rw [e]
    refine callT_of rfl tab_record_number_in ?_
    simp (maxSteps := 4000000) only [↓set16, ↓sl16, zaa, zab, zac, zad, zz0, zz1, zz2, zz3, zz4, zae, zaf, zag, zah, zai, zaj, zak, zal, zam, zan, zao, zap, zaq, zar, zas, zat, zau, zav, zaw, zax, zay, zaz, zba, zbb, zbc, zbd, zbe, zbf, zbg, zbh, zbi, zbj, zbk, zbl, zbm, zbn, zbo, zbp, zbq, zbr, zbs, zbt, zbu, zbv, zbw, zbx, zby, zbz, zca, zcb, zcc, zcd, zce, zcf, zcg, zch, zci, zcj, zck, zcl, zcm, zcn, ne_eq, zco, zcp, zcq, zcr, zcs, List.replicate, zct, zcu, zcv, zcw, zcx, zcy, zcz, zda, zdb, zdc, zdd, zde, zdf, zdg, zdh, zdi, killT, delta, tak, ev, ad, taks, evs, nL, getH, pack, arith, callD, Nat.reduceAdd, Nat.reduceSub, Nat.reduceMul, Nat.reduceLeDiff, Nat.reduceEqDiff, Nat.reduceBEq, Nat.reduceBNe, Nat.reduceLT, Nat.reduceDiv, Int.reduceNeg, Int.reduceLT, Int.reduceLE, Int.reduceEq, Int.reduceNe, Int.reduceAdd, Int.reduceSub, Int.reduceMul, Int.reduceToNat, Int.reduceBEq, Int.reduceBNe, fillP, fillE, okE, okW, bound, elS, srcS, Fin, finish, ress, resOf, one, keeps, ↓reduceIte, Dl.ap, Dl.slots, okD, isLp, zeros, reduceCtorEq, zdj, zdk, tf_record_number_in, hl, hc, h1]
  · have e : within x.n x.lo x.hi = false := by simp [within, h1]
    rw [e]
    refine callT_of rfl tab_record_number_in ?_
    simp (maxSteps := 4000000) only [↓set16, ↓sl16, zaa, zab, zac, zad, zz0, zz1, zz2, zz3, zz4, zae, zaf, zag, zah, zai, zaj, zak, zal, zam, zan, zao, zap, zaq, zar, zas, zat, zau, zav, zaw, zax, zay, zaz, zba, zbb, zbc, zbd, zbe, zbf, zbg, zbh, zbi, zbj, zbk, zbl, zbm, zbn, zbo, zbp, zbq, zbr, zbs, zbt, zbu, zbv, zbw, zbx, zby, zbz, zca, zcb, zcc, zcd, zce, zcf, zcg, zch, zci, zcj, zck, zcl, zcm, zcn, ne_eq, zco, zcp, zcq, zcr, zcs, List.replicate, zct, zcu, zcv, zcw, zcx, zcy, zcz, zda, zdb, zdc, zdd, zde, zdf, zdg, zdh, zdi, killT, delta, tak, ev, ad, taks, evs, nL, getH, pack, arith, callD, Nat.reduceAdd, Nat.reduceSub, Nat.reduceMul, Nat.reduceLeDiff, Nat.reduceEqDiff, Nat.reduceBEq, Nat.reduceBNe, Nat.reduceLT, Nat.reduceDiv, Int.reduceNeg, Int.reduceLT, Int.reduceLE, Int.reduceEq, Int.reduceNe, Int.reduceAdd, Int.reduceSub, Int.reduceMul, Int.reduceToNat, Int.reduceBEq, Int.reduceBNe, fillP, fillE, okE, okW, bound, elS, srcS, Fin, finish, ress, resOf, one, keeps, ↓reduceIte, Dl.ap, Dl.slots, okD, isLp, zeros, reduceCtorEq, zdj, zdk, tf_record_number_in, hl, hc, h1]
theorem record_allIn_1 {cs : List TV} (hl : live H j = some cs) (x : Nm) (hc : cut cs x.o 1 = some [.int .i64 x.n]) : CT n_record_allIn_1 [x.tv j] H = some ⟨.bool (!within x.n x.lo x.hi), H, false⟩ := by
  have hN := record_number_in hl x hc
  rw [Nm.tv_eq] at hN ⊢
  refine callT_of rfl tab_record_allIn_1 ?_
  simp (maxSteps := 4000000) only [↓set16, ↓sl16, zaa, zab, zac, zad, zz0, zz1, zz2, zz3, zz4, zae, zaf, zag, zah, zai, zaj, zak, zal, zam, zan, zao, zap, zaq, zar, zas, zat, zau, zav, zaw, zax, zay, zaz, zba, zbb, zbc, zbd, zbe, zbf, zbg, zbh, zbi, zbj, zbk, zbl, zbm, zbn, zbo, zbp, zbq, zbr, zbs, zbt, zbu, zbv, zbw, zbx, zby, zbz, zca, zcb, zcc, zcd, zce, zcf, zcg, zch, zci, zcj, zck, zcl, zcm, zcn, ne_eq, zco, zcp, zcq, zcr, zcs, List.replicate, zct, zcu, zcv, zcw, zcx, zcy, zcz, zda, zdb, zdc, zdd, zde, zdf, zdg, zdh, zdi, killT, delta, tak, ev, ad, taks, evs, nL, getH, pack, arith, callD, Nat.reduceAdd, Nat.reduceSub, Nat.reduceMul, Nat.reduceLeDiff, Nat.reduceEqDiff, Nat.reduceBEq, Nat.reduceBNe, Nat.reduceLT, Nat.reduceDiv, Int.reduceNeg, Int.reduceLT, Int.reduceLE, Int.reduceEq, Int.reduceNe, Int.reduceAdd, Int.reduceSub, Int.reduceMul, Int.reduceToNat, Int.reduceBEq, Int.reduceBNe, fillP, fillE, okE, okW, bound, elS, srcS, Fin, finish, ress, resOf, one, keeps, ↓reduceIte, Dl.ap, Dl.slots, okD, isLp, zeros, reduceCtorEq, zdj, zdk, tf_record_allIn_1, hN]
def idxN : Nat → List Nm → Int
  | _, [] => -1
  | k, x :: t => if within x.n x.lo x.hi = true then idxN (k + 1) t else k
theorem idxN_all (l : List Nm) : ∀ k, decide (0 ≤ idxN k l) = !(l.all fun x => within x.n x.lo x.hi) := by
  induction l with
  | nil => intro k; rfl
  | cons x l ih =>
    intro k
    rw [idxN, List.all_cons]
    cases h : within x.n x.lo x.hi
    · simp
    · simp [ih (k + 1)]
theorem record_IndexFunc (l : List Nm) (hm : l.length ≤ 1000) (ha : NmAt H j l) : CT n_slices_IndexFunc_record_number_record_number [.sl .shr (l.map (Nm.tv j)), .fn n_record_allIn_1 []] H = some ⟨.int .i64 (idxN 0 l), H, false⟩ := by
  obtain ⟨cs, hl, hc⟩ := ha
  refine callT_of rfl tab_slices_IndexFunc_record_number_record_number ?_
  simp (maxSteps := 4000000) only [↓set16, ↓sl16, zaa, zab, zac, zad, zz0, zz1, zz2, zz3, zz4, zae, zaf, zag, zah, zai, zaj, zak, zal, zam, zan, zao, zap, zaq, zar, zas, zat, zau, zav, zaw, zax, zay, zaz, zba, zbb, zbc, zbd, zbe, zbf, zbg, zbh, zbi, zbj, zbk, zbl, zbm, zbn, zbo, zbp, zbq, zbr, zbs, zbt, zbu, zbv, zbw, zbx, zby, zbz, zca, zcb, zcc, zcd, zce, zcf, zcg, zch, zci, zcj, zck, zcl, zcm, zcn, ne_eq, zco, zcp, zcq, zcr, zcs, List.replicate, zct, zcu, zcv, zcw, zcx, zcy, zcz, zda, zdb, zdc, zdd, zde, zdf, zdg, zdh, zdi, killT, delta, tak, ev, ad, taks, evs, nL, getH, pack, arith, callD, Nat.reduceAdd, Nat.reduceSub, Nat.reduceMul, Nat.reduceLeDiff, Nat.reduceEqDiff, Nat.reduceBEq, Nat.reduceBNe, Nat.reduceLT, Nat.reduceDiv, Int.reduceNeg, Int.reduceLT, Int.reduceLE, Int.reduceEq, Int.reduceNe, Int.reduceAdd, Int.reduceSub, Int.reduceMul, Int.reduceToNat, Int.reduceBEq, Int.reduceBNe, fillP, fillE, okE, okW, bound, elS, srcS, Fin, finish, ress, resOf, one, keeps, ↓reduceIte, Dl.ap, Dl.slots, okD, isLp, zeros, reduceCtorEq, zdj, zdk, tf_slices_IndexFunc_record_number_record_number, List.length_map]
  refine loopI l (by omega) (fun acc suf => ⟨.int .i64 (idxN acc suf), H, false⟩) (fun k _ => ⟨(.sl .shr (l.map (Nm.tv j)) :: .fn n_record_allIn_1 [] :: TV.tup [] :: TV.tup [] :: TV.junk :: TV.junk :: TV.junk :: .int .i64 l.length :: .int .i64 k :: TV.junk :: TV.junk :: TV.junk :: TV.junk :: TV.junk :: TV.junk :: TV.junk :: TV.junk :: TV.junk :: TV.junk :: []), H, H.length, false⟩) (fun k acc => acc = k) ?_ ?_ 0 rfl
  · intro acc hi hq
    rw [Run_loop]
    simp (maxSteps := 4000000) only [↓set16, ↓sl16, zaa, zab, zac, zad, zz0, zz1, zz2, zz3, zz4, zae, zaf, zag, zah, zai, zaj, zak, zal, zam, zan, zao, zap, zaq, zar, zas, zat, zau, zav, zaw, zax, zay, zaz, zba, zbb, zbc, zbd, zbe, zbf, zbg, zbh, zbi, zbj, zbk, zbl, zbm, zbn, zbo, zbp, zbq, zbr, zbs, zbt, zbu, zbv, zbw, zbx, zby, zbz, zca, zcb, zcc, zcd, zce, zcf, zcg, zch, zci, zcj, zck, zcl, zcm, zcn, ne_eq, zco, zcp, zcq, zcr, zcs, List.replicate, zct, zcu, zcv, zcw, zcx, zcy, zcz, zda, zdb, zdc, zdd, zde, zdf, zdg, zdh, zdi, killT, delta, tak, ev, ad, taks, evs, nL, getH, pack, arith, callD, Nat.reduceAdd, Nat.reduceSub, Nat.reduceMul, Nat.reduceLeDiff, Nat.reduceEqDiff, Nat.reduceBEq, Nat.reduceBNe, Nat.reduceLT, Nat.reduceDiv, Int.reduceNeg, Int.reduceLT, Int.reduceLE, Int.reduceEq, Int.reduceNe, Int.reduceAdd, Int.reduceSub, Int.reduceMul, Int.reduceToNat, Int.reduceBEq, Int.reduceBNe, fillP, fillE, okE, okW, bound, elS, srcS, Fin, finish, ress, resOf, one, keeps, ↓reduceIte, Dl.ap, Dl.slots, okD, isLp, zeros, reduceCtorEq, zdj, zdk, lp_slices_IndexFunc_record_number_record_number_1, hq, idxN]
  · intro k x acc rest hi hx hk hk0 hw ih
    subst hi
    have hg := map_get (f := Nm.tv j) hx
    have hA := record_allIn_1 hl x (hc x (List.mem_of_getElem? hx))
    rw [Nm.tv_eq] at hg hA
    rw [Run_loop, idxN]
    cases h1 : within x.n x.lo x.hi
    · rw [h1] at hA
      simp only [Bool.false_eq_true, if_false]
      simp (maxSteps := 4000000) only [↓set16, ↓sl16, zaa, zab, zac, zad, zz0, zz1, zz2, zz3, zz4, zae, zaf, zag, zah, zai, zaj, zak, zal, zam, zan, zao, zap, zaq, zar, zas, zat, zau, zav, zaw, zax, zay, zaz, zba, zbb, zbc, zbd, zbe, zbf, zbg, zbh, zbi, zbj, zbk, zbl, zbm, zbn, zbo, zbp, zbq, zbr, zbs, zbt, zbu, zbv, zbw, zbx, zby, zbz, zca, zcb, zcc, zcd, zce, zcf, zcg, zch, zci, zcj, zck, zcl, zcm, zcn, ne_eq, zco, zcp, zcq, zcr, zcs, List.replicate, zct, zcu, zcv, zcw, zcx, zcy, zcz, zda, zdb, zdc, zdd, zde, zdf, zdg, zdh, zdi, killT, delta, tak, ev, ad, taks, evs, nL, getH, pack, arith, callD, Nat.reduceAdd, Nat.reduceSub, Nat.reduceMul, Nat.reduceLeDiff, Nat.reduceEqDiff, Nat.reduceBEq, Nat.reduceBNe, Nat.reduceLT, Nat.reduceDiv, Int.reduceNeg, Int.reduceLT, Int.reduceLE, Int.reduceEq, Int.reduceNe, Int.reduceAdd, Int.reduceSub, Int.reduceMul, Int.reduceToNat, Int.reduceBEq, Int.reduceBNe, fillP, fillE, okE, okW, bound, elS, srcS, Fin, finish, ress, resOf, one, keeps, ↓reduceIte, Dl.ap, Dl.slots, okD, isLp, zeros, reduceCtorEq, zdj, zdk, lp_slices_IndexFunc_record_number_record_number_1, hk, hk0, hg, Int.toNat_natCast, hA]
    · rw [h1] at hA
      simp only [if_true]
      simp (maxSteps := 4000000) only [↓set16, ↓sl16, zaa, zab, zac, zad, zz0, zz1, zz2, zz3, zz4, zae, zaf, zag, zah, zai, zaj, zak, zal, zam, zan, zao, zap, zaq, zar, zas, zat, zau, zav, zaw, zax, zay, zaz, zba, zbb, zbc, zbd, zbe, zbf, zbg, zbh, zbi, zbj, zbk, zbl, zbm, zbn, zbo, zbp, zbq, zbr, zbs, zbt, zbu, zbv, zbw, zbx, zby, zbz, zca, zcb, zcc, zcd, zce, zcf, zcg, zch, zci, zcj, zck, zcl, zcm, zcn, ne_eq, zco, zcp, zcq, zcr, zcs, List.replicate, zct, zcu, zcv, zcw, zcx, zcy, zcz, zda, zdb, zdc, zdd, zde, zdf, zdg, zdh, zdi, killT, delta, tak, ev, ad, taks, evs, nL, getH, pack, arith, callD, Nat.reduceAdd, Nat.reduceSub, Nat.reduceMul, Nat.reduceLeDiff, Nat.reduceEqDiff, Nat.reduceBEq, Nat.reduceBNe, Nat.reduceLT, Nat.reduceDiv, Int.reduceNeg, Int.reduceLT, Int.reduceLE, Int.reduceEq, Int.reduceNe, Int.reduceAdd, Int.reduceSub, Int.reduceMul, Int.reduceToNat, Int.reduceBEq, Int.reduceBNe, fillP, fillE, okE, okW, bound, elS, srcS, Fin, finish, ress, resOf, one, keeps, ↓reduceIte, Dl.ap, Dl.slots, okD, isLp, zeros, reduceCtorEq, zdj, zdk, lp_slices_IndexFunc_record_number_record_number_1, hk, hk0, hg, Int.toNat_natCast, hA, hw]
      exact ih _ rfl
theorem record_ContainsFunc (l : List Nm) (hm : l.length ≤ 1000) (ha : NmAt H j l) : CT n_slices_ContainsFunc_record_number_record_number [.sl .shr (l.map (Nm.tv j)), .fn n_record_allIn_1 []] H = some ⟨.bool !(l.all fun x => within x.n x.lo x.hi), H, false⟩ := by
  have hI := record_IndexFunc l hm ha
  rw [← idxN_all l 0]
  refine callT_of rfl tab_slices_ContainsFunc_record_number_record_number ?_
  simp (maxSteps := 4000000) only [↓set16, ↓sl16, zaa, zab, zac, zad, zz0, zz1, zz2, zz3, zz4, zae, zaf, zag, zah, zai, zaj, zak, zal, zam, zan, zao, zap, zaq, zar, zas, zat, zau, zav, zaw, zax, zay, zaz, zba, zbb, zbc, zbd, zbe, zbf, zbg, zbh, zbi, zbj, zbk, zbl, zbm, zbn, zbo, zbp, zbq, zbr, zbs, zbt, zbu, zbv, zbw, zbx, zby, zbz, zca, zcb, zcc, zcd, zce, zcf, zcg, zch, zci, zcj, zck, zcl, zcm, zcn, ne_eq, zco, zcp, zcq, zcr, zcs, List.replicate, zct, zcu, zcv, zcw, zcx, zcy, zcz, zda, zdb, zdc, zdd, zde, zdf, zdg, zdh, zdi, killT, delta, tak, ev, ad, taks, evs, nL, getH, pack, arith, callD, Nat.reduceAdd, Nat.reduceSub, Nat.reduceMul, Nat.reduceLeDiff, Nat.reduceEqDiff, Nat.reduceBEq, Nat.reduceBNe, Nat.reduceLT, Nat.reduceDiv, Int.reduceNeg, Int.reduceLT, Int.reduceLE, Int.reduceEq, Int.reduceNe, Int.reduceAdd, Int.reduceSub, Int.reduceMul, Int.reduceToNat, Int.reduceBEq, Int.reduceBNe, fillP, fillE, okE, okW, bound, elS, srcS, Fin, finish, ress, resOf, one, keeps, ↓reduceIte, Dl.ap, Dl.slots, okD, isLp, zeros, reduceCtorEq, zdj, zdk, tf_slices_ContainsFunc_record_number_record_number, hI, ge_iff_le]
theorem record_allIn (l : List Nm) (hm : l.length ≤ 1000) (ha : NmAt H j l) : CT n_record_allIn [.sl .shr (l.map (Nm.tv j))] H = some ⟨.bool (l.all fun x => within x.n x.lo x.hi), H, false⟩ := by
  have hC := record_ContainsFunc l hm ha
  refine callT_of rfl tab_record_allIn ?_
  simp (maxSteps := 4000000) only [↓set16, ↓sl16, zaa, zab, zac, zad, zz0, zz1, zz2, zz3, zz4, zae, zaf, zag, zah, zai, zaj, zak, zal, zam, zan, zao, zap, zaq, zar, zas, zat, zau, zav, zaw, zax, zay, zaz, zba, zbb, zbc, zbd, zbe, zbf, zbg, zbh, zbi, zbj, zbk, zbl, zbm, zbn, zbo, zbp, zbq, zbr, zbs, zbt, zbu, zbv, zbw, zbx, zby, zbz, zca, zcb, zcc, zcd, zce, zcf, zcg, zch, zci, zcj, zck, zcl, zcm, zcn, ne_eq, zco, zcp, zcq, zcr, zcs, List.replicate, zct, zcu, zcv, zcw, zcx, zcy, zcz, zda, zdb, zdc, zdd, zde, zdf, zdg, zdh, zdi, killT, delta, tak, ev, ad, taks, evs, nL, getH, pack, arith, callD, Nat.reduceAdd, Nat.reduceSub, Nat.reduceMul, Nat.reduceLeDiff, Nat.reduceEqDiff, Nat.reduceBEq, Nat.reduceBNe, Nat.reduceLT, Nat.reduceDiv, Int.reduceNeg, Int.reduceLT, Int.reduceLE, Int.reduceEq, Int.reduceNe, Int.reduceAdd, Int.reduceSub, Int.reduceMul, Int.reduceToNat, Int.reduceBEq, Int.reduceBNe, fillP, fillE, okE, okW, bound, elS, srcS, Fin, finish, ress, resOf, one, keeps, ↓reduceIte, Dl.ap, Dl.slots, okD, isLp, zeros, reduceCtorEq, zdj, zdk, tf_record_allIn, hC, Bool.not_not]
/-- An entry's numbers. -/
def En.nums (e : En) : List Nm := [⟨0, 1, 2147483648, e.ix⟩, ⟨1, 0, 2147483648, e.tm⟩, ⟨2, 0, 2, e.kd⟩]
theorem record_ofEntry (e : En) : CT n_record_ofEntry [.ptr j 0] H = some ⟨.sl (.own 3 true) (e.nums.map (Nm.tv j)), H, false⟩ := by
  have hs : e.nums.map (Nm.tv j) = [.agg [.ptr j 0, .int .i64 1, .int .i64 2147483648], .agg [.ptr j 1, .int .i64 0, .int .i64 2147483648], .agg [.ptr j 2, .int .i64 0, .int .i64 2]] := rfl
  rw [hs]
  refine callT_of rfl tab_record_ofEntry ?_
  simp (maxSteps := 4000000) only [↓set16, ↓sl16, zaa, zab, zac, zad, zz0, zz1, zz2, zz3, zz4, zae, zaf, zag, zah, zai, zaj, zak, zal, zam, zan, zao, zap, zaq, zar, zas, zat, zau, zav, zaw, zax, zay, zaz, zba, zbb, zbc, zbd, zbe, zbf, zbg, zbh, zbi, zbj, zbk, zbl, zbm, zbn, zbo, zbp, zbq, zbr, zbs, zbt, zbu, zbv, zbw, zbx, zby, zbz, zca, zcb, zcc, zcd, zce, zcf, zcg, zch, zci, zcj, zck, zcl, zcm, zcn, ne_eq, zco, zcp, zcq, zcr, zcs, List.replicate, zct, zcu, zcv, zcw, zcx, zcy, zcz, zda, zdb, zdc, zdd, zde, zdf, zdg, zdh, zdi, killT, delta, tak, ev, ad, taks, evs, nL, getH, pack, arith, callD, Nat.reduceAdd, Nat.reduceSub, Nat.reduceMul, Nat.reduceLeDiff, Nat.reduceEqDiff, Nat.reduceBEq, Nat.reduceBNe, Nat.reduceLT, Nat.reduceDiv, Int.reduceNeg, Int.reduceLT, Int.reduceLE, Int.reduceEq, Int.reduceNe, Int.reduceAdd, Int.reduceSub, Int.reduceMul, Int.reduceToNat, Int.reduceBEq, Int.reduceBNe, fillP, fillE, okE, okW, bound, elS, srcS, Fin, finish, ress, resOf, one, keeps, ↓reduceIte, Dl.ap, Dl.slots, okD, isLp, zeros, reduceCtorEq, zdj, zdk, tf_record_ofEntry]
def entB (e : En) : Bool := within e.ix 1 2147483648 && (within e.tm 0 2147483648 && (within e.kd 0 2 && decide ((e.dt.length : Int) ≤ 4096)))
theorem En.at (e : En) {v : TV} (hl : live H j = some [.int .i64 e.ix, .int .i64 e.tm, .int .i64 e.kd, v]) : NmAt H j e.nums := by
  refine ⟨_, hl, ?_⟩
  intro x hx
  simp only [En.nums, List.mem_cons, List.not_mem_nil, or_false] at hx
  rcases hx with rfl | rfl | rfl <;> rfl
theorem record_Entry (e : En) : CT n_record_Entry [e.tv] H = some ⟨.bool (entB e), H, false⟩ := by
  have hl : live (H ++ [[.int .i64 e.ix, .int .i64 e.tm, .int .i64 e.kd, .sl .shr (bl e.dt)]]) H.length = some [.int .i64 e.ix, .int .i64 e.tm, .int .i64 e.kd, .sl .shr (bl e.dt)] := live_app_eq rfl
  have hO := record_ofEntry (H := H ++ [[.int .i64 e.ix, .int .i64 e.tm, .int .i64 e.kd, .sl .shr (bl e.dt)]]) (j := H.length) e
  have hA := record_allIn e.nums (by simp [En.nums]) (e.at hl)
  have hall : (e.nums.all fun x => within x.n x.lo x.hi) = (within e.ix 1 2147483648 && (within e.tm 0 2147483648 && within e.kd 0 2)) := by
    simp [En.nums, List.all_cons]
  rw [hall] at hA
  have eb : entB e = ((within e.ix 1 2147483648 && (within e.tm 0 2147483648 && within e.kd 0 2)) && decide ((e.dt.length : Int) ≤ 4096)) := by
    unfold entB; simp only [Bool.and_assoc]
  rw [eb]
  generalize e.nums.map (Nm.tv H.length) = L at *
  rw [En.tv_eq]
  cases hb : (within e.ix 1 2147483648 && (within e.tm 0 2147483648 && within e.kd 0 2)) <;> rw [hb] at hA <;> simp only [Bool.false_and, Bool.true_and]
  · have ht := trim_in (fz := true) (v := .bool false) (h := H) (x := [[.int .i64 e.ix, .int .i64 e.tm, .int .i64 e.kd, .sl .shr (bl e.dt)]]) rfl rfl
    refine callT_of rfl tab_record_Entry ?_
    simp (maxSteps := 4000000) only [↓set16, ↓sl16, zaa, zab, zac, zad, zz0, zz1, zz2, zz3, zz4, zae, zaf, zag, zah, zai, zaj, zak, zal, zam, zan, zao, zap, zaq, zar, zas, zat, zau, zav, zaw, zax, zay, zaz, zba, zbb, zbc, zbd, zbe, zbf, zbg, zbh, zbi, zbj, zbk, zbl, zbm, zbn, zbo, zbp, zbq, zbr, zbs, zbt, zbu, zbv, zbw, zbx, zby, zbz, zca, zcb, zcc, zcd, zce, zcf, zcg, zch, zci, zcj, zck, zcl, zcm, zcn, ne_eq, zco, zcp, zcq, zcr, zcs, List.replicate, zct, zcu, zcv, zcw, zcx, zcy, zcz, zda, zdb, zdc, zdd, zde, zdf, zdg, zdh, zdi, killT, delta, tak, ev, ad, taks, evs, nL, getH, pack, arith, callD, Nat.reduceAdd, Nat.reduceSub, Nat.reduceMul, Nat.reduceLeDiff, Nat.reduceEqDiff, Nat.reduceBEq, Nat.reduceBNe, Nat.reduceLT, Nat.reduceDiv, Int.reduceNeg, Int.reduceLT, Int.reduceLE, Int.reduceEq, Int.reduceNe, Int.reduceAdd, Int.reduceSub, Int.reduceMul, Int.reduceToNat, Int.reduceBEq, Int.reduceBNe, fillP, fillE, okE, okW, bound, elS, srcS, Fin, finish, ress, resOf, one, keeps, ↓reduceIte, Dl.ap, Dl.slots, okD, isLp, zeros, reduceCtorEq, zdj, zdk, tf_record_Entry, hO, hA, ht]
  · have ht := trim_in (fz := true) (v := .bool (decide ((e.dt.length : Int) ≤ 4096))) (h := H) (x := [[.int .i64 e.ix, .int .i64 e.tm, .int .i64 e.kd, .sl .shr (bl e.dt)]]) rfl rfl
    refine callT_of rfl tab_record_Entry ?_
    simp (maxSteps := 4000000) only [↓set16, ↓sl16, zaa, zab, zac, zad, zz0, zz1, zz2, zz3, zz4, zae, zaf, zag, zah, zai, zaj, zak, zal, zam, zan, zao, zap, zaq, zar, zas, zat, zau, zav, zaw, zax, zay, zaz, zba, zbb, zbc, zbd, zbe, zbf, zbg, zbh, zbi, zbj, zbk, zbl, zbm, zbn, zbo, zbp, zbq, zbr, zbs, zbt, zbu, zbv, zbw, zbx, zby, zbz, zca, zcb, zcc, zcd, zce, zcf, zcg, zch, zci, zcj, zck, zcl, zcm, zcn, ne_eq, zco, zcp, zcq, zcr, zcs, List.replicate, zct, zcu, zcv, zcw, zcx, zcy, zcz, zda, zdb, zdc, zdd, zde, zdf, zdg, zdh, zdi, killT, delta, tak, ev, ad, taks, evs, nL, getH, pack, arith, callD, Nat.reduceAdd, Nat.reduceSub, Nat.reduceMul, Nat.reduceLeDiff, Nat.reduceEqDiff, Nat.reduceBEq, Nat.reduceBNe, Nat.reduceLT, Nat.reduceDiv, Int.reduceNeg, Int.reduceLT, Int.reduceLE, Int.reduceEq, Int.reduceNe, Int.reduceAdd, Int.reduceSub, Int.reduceMul, Int.reduceToNat, Int.reduceBEq, Int.reduceBNe, fillP, fillE, okE, okW, bound, elS, srcS, Fin, finish, ress, resOf, one, keeps, ↓reduceIte, Dl.ap, Dl.slots, okD, isLp, zeros, reduceCtorEq, zdj, zdk, tf_record_Entry, hO, hA, hl, bl_len, ht]
end Go.T
