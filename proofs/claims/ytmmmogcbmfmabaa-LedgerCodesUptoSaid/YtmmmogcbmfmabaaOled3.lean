/- What the ledger's functions answer, on: own, at, drop. -/
import Derived.Test.YtmmmogcbmfmabaaOled2
set_option linter.unusedVariables false
set_option linter.unusedSimpArgs false
set_option maxRecDepth 10000
set_option maxHeartbeats 400000
namespace Go.T
attribute [local irreducible] Run Back RS Ap
def row (l : List Hd) : List TV := l.flatMap Hd.cells
theorem row_nil : row [] = [] := rfl
theorem row_cons (h : Hd) (l : List Hd) : row (h :: l) = h.cells ++ row l := rfl
theorem row_app (a b : List Hd) : row (a ++ b) = row a ++ row b := List.flatMap_append
theorem Hd.w6 (h : Hd) : h.cells.length = 6 := rfl
theorem row_len (l : List Hd) : (row l).length = l.length * 6 := row_length Hd.w6 l
theorem flat_tv (l : List Hd) : flat (l.map Hd.tv) = row l := by
  induction l with
  | nil => rfl
  | cons h l ih => simp only [List.map_cons, flat, List.flatMap_cons] at ih ⊢; rw [ih]; rfl
theorem row_shr0 (l : List Hd) : (row l).map TV.shr0 = row l := by
  induction l with
  | nil => rfl
  | cons h l ih => rw [row_cons, List.map_append, ih]; rfl
theorem row_elt (l : List Hd) : (row l).all TV.isElt = true := by
  induction l with
  | nil => rfl
  | cons h l ih => rw [row_cons, List.all_append, ih]; rfl
theorem regroup_row (l : List Hd) (z : List TV) : regroup true 6 l.length (row l ++ z) = l.map Hd.tv := by
  induction l with
  | nil => rfl
  | cons h l ih =>
    rw [row_cons, List.length_cons, List.map_cons, regroup, List.append_assoc, List.take_left' (Hd.w6 h), List.drop_left' (Hd.w6 h), ih]; rfl
theorem okW_tv (l : List Hd) : okW 6 (l.map Hd.tv) = true := by simp [okW, Hd.tv, TV.cells, Hd.cells]
theorem okW_tv' (l : List Hd) : ((l.map Hd.tv).all fun e => e.cells.length == 6) = true := okW_tv l
theorem lts_tv (n : Nat) (l : List Hd) : TV.lts n (l.map Hd.tv) = true := by
  induction l with
  | nil => rfl
  | cons h l ih => simp [TV.lts, Hd.tv, Hd.cells, TV.lt, ih]
theorem row_dead (h : Hd) (l : List Hd) (z : List TV) : dead (row (h :: l) ++ z) = false := rfl
/-- A box with a row in it, and cells behind it. -/
structure RowAt (H : Heap) (i : Nat) (l : List Hd) (z : List TV) : Prop where
  box : live H i = some (row l ++ z)
theorem row_cut {l : List Hd} {z : List TV} {k : Nat} {h : Hd} (hk : l[k]? = some h) : cut (row l ++ z) (k * 6) 6 = some h.cells := by
  have h1 : cut (row l) (k * 6) 6 = some h.cells := cut_row (o := 0) Hd.w6 hk rfl
  unfold cut at h1 ⊢
  split at h1
  · rename_i hle
    rw [if_pos (by rw [List.length_append]; omega), List.drop_append_of_le_length (by omega), List.take_append_of_le_length (by rw [List.length_drop]; omega)]
    exact h1
  · cases h1
theorem hold_Clone {H : Heap} (l : List Hd) (hl : l.length ≤ 1000000) : CT n_slices_Clone_api_Hold_api_Hold [.sl .shr (l.map Hd.tv)] H = some (if l.length = 0 then ⟨.nils, H, false⟩ else ⟨.asl true 6 H.length 0 l.length, H ++ [row l], false⟩) := by
  refine callT_ext (c := cloneC true 6 56) rfl ?_
  have h1 : l.length ≤ roomB := by unfold roomB; omega
  have h2 : l.length * 56 ≤ roomB := by unfold roomB; omega
  simp only [cloneC, elS, okW_tv, List.length_map, h1, h2, z_ao_sl, flat_tv, true_and, and_true, if_true, and_self]
  split <;> rfl
theorem frzC_int (H : Heap) (b : Nat) (k : IntKind) (n : Int) : frzC H b (.int k n) = .int k n := rfl
theorem trim_f {v : TV} {h : Heap} {b : Nat} {k : Bool} (hl : TV.lt b v = false) : trim false b ⟨v, h, k⟩ = ⟨v, h, k⟩ := by simp [trim, hl]
/-- What own answers: a row of its own. -/
theorem ledger_own {H : Heap} (l : Lg) (hl : l.hs.length ≤ 1000000) : CT n_ledger_own [l.tv] H = some (if l.hs.length = 0 then ⟨l.tvw .nils, H, false⟩ else ⟨l.tvw (.asl true 6 H.length 0 l.hs.length), H ++ [row l.hs], false⟩) := by
  have hC := hold_Clone (H := H) l.hs hl
  rw [Lg.tv_eq]
  unfold Lg.tvw
  by_cases h0 : l.hs.length = 0
  · simp only [if_pos h0] at hC ⊢
    refine callT_of rfl tab_ledger_own ?_
    simp (maxSteps := 4000000) only [↓set16, ↓sl16, zaa, zab, zac, zad, zz0, zz1, zz2, zz3, zz4, zae, zaf, zag, zah, zai, zaj, zak, zal, zam, zan, zao, zap, zaq, zar, zas, zat, zau, zav, zaw, zax, zay, zaz, zba, zbb, zbc, zbd, zbe, zbf, zbg, zbh, zbi, zbj, zbk, zbl, zbm, zbn, zbo, zbp, zbq, zbr, zbs, zbt, zbu, zbv, zbw, zbx, zby, zbz, zca, zcb, zcc, zcd, zce, zcf, zcg, zch, zci, zcj, zck, zcl, zcm, zcn, ne_eq, zco, zcp, zcq, zcr, zcs, List.replicate, zct, zcu, zcv, zcw, zcx, zcy, zcz, zda, zdb, zdc, zdd, zde, zdf, zdg, zdh, zdi, killT, delta, tak, ev, ad, taks, evs, nL, getH, pack, arith, callD, Nat.reduceAdd, Nat.reduceSub, Nat.reduceMul, Nat.reduceLeDiff, Nat.reduceEqDiff, Nat.reduceBEq, Nat.reduceBNe, Nat.reduceLT, Nat.reduceDiv, Int.reduceNeg, Int.reduceLT, Int.reduceLE, Int.reduceEq, Int.reduceNe, Int.reduceAdd, Int.reduceSub, Int.reduceMul, Int.reduceToNat, Int.reduceBEq, Int.reduceBNe, fillP, fillE, okE, okW, bound, elS, srcS, Fin, finish, ress, resOf, one, keeps, ↓reduceIte, Dl.ap, Dl.slots, okD, isLp, zeros, reduceCtorEq, zdj, zdk, tf_ledger_own, hC]
  · simp only [if_neg h0] at hC ⊢
    have ht := trim_f (h := H ++ [row l.hs]) (b := H.length) (k := false) (v := .agg [.int .i64 l.q, .int .i64 l.u, .int .i64 l.he, .int .i64 l.nx, .asl true 6 H.length 0 l.hs.length]) (by simp [TV.lt, TV.lts])
    refine callT_of rfl tab_ledger_own ?_
    simp (maxSteps := 4000000) only [↓set16, ↓sl16, zaa, zab, zac, zad, zz0, zz1, zz2, zz3, zz4, zae, zaf, zag, zah, zai, zaj, zak, zal, zam, zan, zao, zap, zaq, zar, zas, zat, zau, zav, zaw, zax, zay, zaz, zba, zbb, zbc, zbd, zbe, zbf, zbg, zbh, zbi, zbj, zbk, zbl, zbm, zbn, zbo, zbp, zbq, zbr, zbs, zbt, zbu, zbv, zbw, zbx, zby, zbz, zca, zcb, zcc, zcd, zce, zcf, zcg, zch, zci, zcj, zck, zcl, zcm, zcn, ne_eq, zco, zcp, zcq, zcr, zcs, List.replicate, zct, zcu, zcv, zcw, zcx, zcy, zcz, zda, zdb, zdc, zdd, zde, zdf, zdg, zdh, zdi, killT, delta, tak, ev, ad, taks, evs, nL, getH, pack, arith, callD, Nat.reduceAdd, Nat.reduceSub, Nat.reduceMul, Nat.reduceLeDiff, Nat.reduceEqDiff, Nat.reduceBEq, Nat.reduceBNe, Nat.reduceLT, Nat.reduceDiv, Int.reduceNeg, Int.reduceLT, Int.reduceLE, Int.reduceEq, Int.reduceNe, Int.reduceAdd, Int.reduceSub, Int.reduceMul, Int.reduceToNat, Int.reduceBEq, Int.reduceBNe, fillP, fillE, okE, okW, bound, elS, srcS, Fin, finish, ress, resOf, one, keeps, ↓reduceIte, Dl.ap, Dl.slots, okD, isLp, zeros, reduceCtorEq, zdj, zdk, tf_ledger_own, hC, ht]
/-- The box behind own, frozen. -/
theorem frz_row {H : Heap} {j : Nat} (hj : H.length ≤ j) {H' : Heap} (l : List Hd) (z : List TV) (hz : z.map TV.shr0 = z) (hb : live H' j = some (row l ++ z)) : frzC H' H.length (.asl true 6 j 0 l.length) = .sl (.own 6 false) (l.map Hd.tv) := by
  have h1 : (row l ++ z).take (l.length * 6) = row l := List.take_left' (row_len l)
  have h2 : (row l ++ z).map TV.shr0 = row l ++ z := by rw [List.map_append, row_shr0, hz]
  have h3 : l.length * 6 ≤ (row l ++ z).length := by rw [List.length_append, row_len]; omega
  simp only [frzC, hb, h1, row_shr0, row_elt, hj, h2, h3, regroup_row, and_true, true_and, if_true, Nat.lt_irrefl, true_or, show (0 : Nat) < 6 by decide]
theorem own_trim {H : Heap} (l : Lg) (h0 : ¬ l.hs.length = 0) : trim true H.length ⟨l.tvw (.asl true 6 H.length 0 l.hs.length), H ++ [row l.hs], false⟩ = ⟨l.tvw (.sl (.own 6 false) (l.hs.map Hd.tv)), H, false⟩ := by
  have hb : live (H ++ [row l.hs]) H.length = some (row l.hs ++ []) := by
    rw [List.append_nil]
    refine live_app_eq ?_
    match hl : l.hs, h0 with
    | h :: t, _ => rfl
  have hf := frz_row (Nat.le_refl H.length) l.hs [] rfl hb
  have hlen : (H ++ [row l.hs]).length ≠ H.length := by simp
  unfold trim
  simp only [hlen, if_false, Bool.false_eq_true, Lg.tvw, rowT, rowA, rowC, frzT, frzA, hf, frzC_int, List.flatMap_cons, List.flatMap_nil, List.append_nil, List.nil_append, Nat.le_refl, if_true, List.length_cons, List.length_nil, Bool.true_and, decide_true, List.map_cons, List.map_nil, TV.lt, TV.lts, lts_tv, Bool.and_self, List.take_left]
/-- One with an id: where it stands. -/
def idxF (id : Int) : Nat → List Hd → Int
  | _, [] => -1
  | k, h :: t => if h.id = id then k else idxF id (k + 1) t
theorem ledger_at_1 {H : Heap} (h : Hd) (id : Int) (j : Nat) (hj : live H j = some [.int .i64 id]) : CT n_ledger_at_1 [h.tv, .ptr j 0] H = some ⟨.bool (h.id == id), H, false⟩ := by
  rw [Hd.tv_eq]
  refine callT_of rfl tab_ledger_at_1 ?_
  simp (maxSteps := 4000000) only [↓set16, ↓sl16, zaa, zab, zac, zad, zz0, zz1, zz2, zz3, zz4, zae, zaf, zag, zah, zai, zaj, zak, zal, zam, zan, zao, zap, zaq, zar, zas, zat, zau, zav, zaw, zax, zay, zaz, zba, zbb, zbc, zbd, zbe, zbf, zbg, zbh, zbi, zbj, zbk, zbl, zbm, zbn, zbo, zbp, zbq, zbr, zbs, zbt, zbu, zbv, zbw, zbx, zby, zbz, zca, zcb, zcc, zcd, zce, zcf, zcg, zch, zci, zcj, zck, zcl, zcm, zcn, ne_eq, zco, zcp, zcq, zcr, zcs, List.replicate, zct, zcu, zcv, zcw, zcx, zcy, zcz, zda, zdb, zdc, zdd, zde, zdf, zdg, zdh, zdi, killT, delta, tak, ev, ad, taks, evs, nL, getH, pack, arith, callD, Nat.reduceAdd, Nat.reduceSub, Nat.reduceMul, Nat.reduceLeDiff, Nat.reduceEqDiff, Nat.reduceBEq, Nat.reduceBNe, Nat.reduceLT, Nat.reduceDiv, Int.reduceNeg, Int.reduceLT, Int.reduceLE, Int.reduceEq, Int.reduceNe, Int.reduceAdd, Int.reduceSub, Int.reduceMul, Int.reduceToNat, Int.reduceBEq, Int.reduceBNe, fillP, fillE, okE, okW, bound, elS, srcS, Fin, finish, ress, resOf, one, keeps, ↓reduceIte, Dl.ap, Dl.slots, okD, isLp, zeros, reduceCtorEq, zdj, zdk, tf_ledger_at_1, hj]
theorem hold_IndexFunc_sl {H : Heap} (l : List Hd) (hm : l.length ≤ 1000000) (id : Int) (j : Nat) (hj : live H j = some [.int .i64 id]) : CT n_slices_IndexFunc_api_Hold_api_Hold [.sl .shr (l.map Hd.tv), .fn n_ledger_at_1 [.ptr j 0]] H = some ⟨.int .i64 (idxF id 0 l), H, false⟩ := by
  refine callT_of rfl tab_slices_IndexFunc_api_Hold_api_Hold ?_
  simp (maxSteps := 4000000) only [↓set16, ↓sl16, zaa, zab, zac, zad, zz0, zz1, zz2, zz3, zz4, zae, zaf, zag, zah, zai, zaj, zak, zal, zam, zan, zao, zap, zaq, zar, zas, zat, zau, zav, zaw, zax, zay, zaz, zba, zbb, zbc, zbd, zbe, zbf, zbg, zbh, zbi, zbj, zbk, zbl, zbm, zbn, zbo, zbp, zbq, zbr, zbs, zbt, zbu, zbv, zbw, zbx, zby, zbz, zca, zcb, zcc, zcd, zce, zcf, zcg, zch, zci, zcj, zck, zcl, zcm, zcn, ne_eq, zco, zcp, zcq, zcr, zcs, List.replicate, zct, zcu, zcv, zcw, zcx, zcy, zcz, zda, zdb, zdc, zdd, zde, zdf, zdg, zdh, zdi, killT, delta, tak, ev, ad, taks, evs, nL, getH, pack, arith, callD, Nat.reduceAdd, Nat.reduceSub, Nat.reduceMul, Nat.reduceLeDiff, Nat.reduceEqDiff, Nat.reduceBEq, Nat.reduceBNe, Nat.reduceLT, Nat.reduceDiv, Int.reduceNeg, Int.reduceLT, Int.reduceLE, Int.reduceEq, Int.reduceNe, Int.reduceAdd, Int.reduceSub, Int.reduceMul, Int.reduceToNat, Int.reduceBEq, Int.reduceBNe, fillP, fillE, okE, okW, bound, elS, srcS, Fin, finish, ress, resOf, one, keeps, ↓reduceIte, Dl.ap, Dl.slots, okD, isLp, zeros, reduceCtorEq, zdj, zdk, tf_slices_IndexFunc_api_Hold_api_Hold, List.length_map]
  refine loopI l (by omega) (fun acc suf => ⟨.int .i64 (idxF id acc suf), H, false⟩) (fun k _ => ⟨(.sl .shr (l.map Hd.tv) :: .fn n_ledger_at_1 [.ptr j 0] :: TV.tup [] :: TV.tup [] :: TV.junk :: TV.junk :: TV.junk :: .int .i64 l.length :: .int .i64 k :: TV.junk :: TV.junk :: TV.junk :: TV.junk :: TV.junk :: TV.junk :: TV.junk :: TV.junk :: TV.junk :: TV.junk :: []), H, H.length, false⟩) (fun k acc => acc = k) ?_ ?_ 0 rfl
  · intro acc hi hq
    rw [Run_loop]
    simp (maxSteps := 4000000) only [↓set16, ↓sl16, zaa, zab, zac, zad, zz0, zz1, zz2, zz3, zz4, zae, zaf, zag, zah, zai, zaj, zak, zal, zam, zan, zao, zap, zaq, zar, zas, zat, zau, zav, zaw, zax, zay, zaz, zba, zbb, zbc, zbd, zbe, zbf, zbg, zbh, zbi, zbj, zbk, zbl, zbm, zbn, zbo, zbp, zbq, zbr, zbs, zbt, zbu, zbv, zbw, zbx, zby, zbz, zca, zcb, zcc, zcd, zce, zcf, zcg, zch, zci, zcj, zck, zcl, zcm, zcn, ne_eq, zco, zcp, zcq, zcr, zcs, List.replicate, zct, zcu, zcv, zcw, zcx, zcy, zcz, zda, zdb, zdc, zdd, zde, zdf, zdg, zdh, zdi, killT, delta, tak, ev, ad, taks, evs, nL, getH, pack, arith, callD, Nat.reduceAdd, Nat.reduceSub, Nat.reduceMul, Nat.reduceLeDiff, Nat.reduceEqDiff, Nat.reduceBEq, Nat.reduceBNe, Nat.reduceLT, Nat.reduceDiv, Int.reduceNeg, Int.reduceLT, Int.reduceLE, Int.reduceEq, Int.reduceNe, Int.reduceAdd, Int.reduceSub, Int.reduceMul, Int.reduceToNat, Int.reduceBEq, Int.reduceBNe, fillP, fillE, okE, okW, bound, elS, srcS, Fin, finish, ress, resOf, one, keeps, ↓reduceIte, Dl.ap, Dl.slots, okD, isLp, zeros, reduceCtorEq, zdj, zdk, lp_slices_IndexFunc_api_Hold_api_Hold_1, hq, idxF]
  · intro k x acc rest hi hx hk hk0 hw ih
    subst hi
    have hg := map_get (f := Hd.tv) hx
    have hA := ledger_at_1 (H := H) x id j hj
    rw [Hd.tv_eq] at hg hA
    rw [Run_loop]
    by_cases h1 : x.id = id
    · have e : idxF id acc (x :: rest) = acc := if_pos h1
      have hb : (x.id == id) = true := by simp [h1]
      rw [hb] at hA
      rw [e]
      simp (maxSteps := 4000000) only [↓set16, ↓sl16, zaa, zab, zac, zad, zz0, zz1, zz2, zz3, zz4, zae, zaf, zag, zah, zai, zaj, zak, zal, zam, zan, zao, zap, zaq, zar, zas, zat, zau, zav, zaw, zax, zay, zaz, zba, zbb, zbc, zbd, zbe, zbf, zbg, zbh, zbi, zbj, zbk, zbl, zbm, zbn, zbo, zbp, zbq, zbr, zbs, zbt, zbu, zbv, zbw, zbx, zby, zbz, zca, zcb, zcc, zcd, zce, zcf, zcg, zch, zci, zcj, zck, zcl, zcm, zcn, ne_eq, zco, zcp, zcq, zcr, zcs, List.replicate, zct, zcu, zcv, zcw, zcx, zcy, zcz, zda, zdb, zdc, zdd, zde, zdf, zdg, zdh, zdi, killT, delta, tak, ev, ad, taks, evs, nL, getH, pack, arith, callD, Nat.reduceAdd, Nat.reduceSub, Nat.reduceMul, Nat.reduceLeDiff, Nat.reduceEqDiff, Nat.reduceBEq, Nat.reduceBNe, Nat.reduceLT, Nat.reduceDiv, Int.reduceNeg, Int.reduceLT, Int.reduceLE, Int.reduceEq, Int.reduceNe, Int.reduceAdd, Int.reduceSub, Int.reduceMul, Int.reduceToNat, Int.reduceBEq, Int.reduceBNe, fillP, fillE, okE, okW, bound, elS, srcS, Fin, finish, ress, resOf, one, keeps, ↓reduceIte, Dl.ap, Dl.slots, okD, isLp, zeros, reduceCtorEq, zdj, zdk, lp_slices_IndexFunc_api_Hold_api_Hold_1, hk, hk0, hg, Int.toNat_natCast, hA]
    · have e : idxF id acc (x :: rest) = idxF id (acc + 1) rest := if_neg h1
      have hb : (x.id == id) = false := by simp [h1]
      rw [hb] at hA
      rw [e]
      simp (maxSteps := 4000000) only [↓set16, ↓sl16, zaa, zab, zac, zad, zz0, zz1, zz2, zz3, zz4, zae, zaf, zag, zah, zai, zaj, zak, zal, zam, zan, zao, zap, zaq, zar, zas, zat, zau, zav, zaw, zax, zay, zaz, zba, zbb, zbc, zbd, zbe, zbf, zbg, zbh, zbi, zbj, zbk, zbl, zbm, zbn, zbo, zbp, zbq, zbr, zbs, zbt, zbu, zbv, zbw, zbx, zby, zbz, zca, zcb, zcc, zcd, zce, zcf, zcg, zch, zci, zcj, zck, zcl, zcm, zcn, ne_eq, zco, zcp, zcq, zcr, zcs, List.replicate, zct, zcu, zcv, zcw, zcx, zcy, zcz, zda, zdb, zdc, zdd, zde, zdf, zdg, zdh, zdi, killT, delta, tak, ev, ad, taks, evs, nL, getH, pack, arith, callD, Nat.reduceAdd, Nat.reduceSub, Nat.reduceMul, Nat.reduceLeDiff, Nat.reduceEqDiff, Nat.reduceBEq, Nat.reduceBNe, Nat.reduceLT, Nat.reduceDiv, Int.reduceNeg, Int.reduceLT, Int.reduceLE, Int.reduceEq, Int.reduceNe, Int.reduceAdd, Int.reduceSub, Int.reduceMul, Int.reduceToNat, Int.reduceBEq, Int.reduceBNe, fillP, fillE, okE, okW, bound, elS, srcS, Fin, finish, ress, resOf, one, keeps, ↓reduceIte, Dl.ap, Dl.slots, okD, isLp, zeros, reduceCtorEq, zdj, zdk, lp_slices_IndexFunc_api_Hold_api_Hold_1, hk, hk0, hg, Int.toNat_natCast, hA, hw]
      exact ih _ rfl
theorem hold_IndexFunc_asl {H : Heap} {i : Nat} (l : List Hd) (z : List TV) (hb : live H i = some (row l ++ z)) (hm : l.length ≤ 1000000) (id : Int) (j : Nat) (hj : live H j = some [.int .i64 id]) : CT n_slices_IndexFunc_api_Hold_api_Hold [.asl true 6 i 0 l.length, .fn n_ledger_at_1 [.ptr j 0]] H = some ⟨.int .i64 (idxF id 0 l), H, false⟩ := by
  refine callT_of rfl tab_slices_IndexFunc_api_Hold_api_Hold ?_
  simp (maxSteps := 4000000) only [↓set16, ↓sl16, zaa, zab, zac, zad, zz0, zz1, zz2, zz3, zz4, zae, zaf, zag, zah, zai, zaj, zak, zal, zam, zan, zao, zap, zaq, zar, zas, zat, zau, zav, zaw, zax, zay, zaz, zba, zbb, zbc, zbd, zbe, zbf, zbg, zbh, zbi, zbj, zbk, zbl, zbm, zbn, zbo, zbp, zbq, zbr, zbs, zbt, zbu, zbv, zbw, zbx, zby, zbz, zca, zcb, zcc, zcd, zce, zcf, zcg, zch, zci, zcj, zck, zcl, zcm, zcn, ne_eq, zco, zcp, zcq, zcr, zcs, List.replicate, zct, zcu, zcv, zcw, zcx, zcy, zcz, zda, zdb, zdc, zdd, zde, zdf, zdg, zdh, zdi, killT, delta, tak, ev, ad, taks, evs, nL, getH, pack, arith, callD, Nat.reduceAdd, Nat.reduceSub, Nat.reduceMul, Nat.reduceLeDiff, Nat.reduceEqDiff, Nat.reduceBEq, Nat.reduceBNe, Nat.reduceLT, Nat.reduceDiv, Int.reduceNeg, Int.reduceLT, Int.reduceLE, Int.reduceEq, Int.reduceNe, Int.reduceAdd, Int.reduceSub, Int.reduceMul, Int.reduceToNat, Int.reduceBEq, Int.reduceBNe, fillP, fillE, okE, okW, bound, elS, srcS, Fin, finish, ress, resOf, one, keeps, ↓reduceIte, Dl.ap, Dl.slots, okD, isLp, zeros, reduceCtorEq, zdj, zdk, tf_slices_IndexFunc_api_Hold_api_Hold, List.length_map]
  refine loopI l (by omega) (fun acc suf => ⟨.int .i64 (idxF id acc suf), H, false⟩) (fun k _ => ⟨(.asl true 6 i 0 l.length :: .fn n_ledger_at_1 [.ptr j 0] :: TV.tup [] :: TV.tup [] :: TV.junk :: TV.junk :: TV.junk :: .int .i64 l.length :: .int .i64 k :: TV.junk :: TV.junk :: TV.junk :: TV.junk :: TV.junk :: TV.junk :: TV.junk :: TV.junk :: TV.junk :: TV.junk :: []), H, H.length, false⟩) (fun k acc => acc = k) ?_ ?_ 0 rfl
  · intro acc hi hq
    rw [Run_loop]
    simp (maxSteps := 4000000) only [↓set16, ↓sl16, zaa, zab, zac, zad, zz0, zz1, zz2, zz3, zz4, zae, zaf, zag, zah, zai, zaj, zak, zal, zam, zan, zao, zap, zaq, zar, zas, zat, zau, zav, zaw, zax, zay, zaz, zba, zbb, zbc, zbd, zbe, zbf, zbg, zbh, zbi, zbj, zbk, zbl, zbm, zbn, zbo, zbp, zbq, zbr, zbs, zbt, zbu, zbv, zbw, zbx, zby, zbz, zca, zcb, zcc, zcd, zce, zcf, zcg, zch, zci, zcj, zck, zcl, zcm, zcn, ne_eq, zco, zcp, zcq, zcr, zcs, List.replicate, zct, zcu, zcv, zcw, zcx, zcy, zcz, zda, zdb, zdc, zdd, zde, zdf, zdg, zdh, zdi, killT, delta, tak, ev, ad, taks, evs, nL, getH, pack, arith, callD, Nat.reduceAdd, Nat.reduceSub, Nat.reduceMul, Nat.reduceLeDiff, Nat.reduceEqDiff, Nat.reduceBEq, Nat.reduceBNe, Nat.reduceLT, Nat.reduceDiv, Int.reduceNeg, Int.reduceLT, Int.reduceLE, Int.reduceEq, Int.reduceNe, Int.reduceAdd, Int.reduceSub, Int.reduceMul, Int.reduceToNat, Int.reduceBEq, Int.reduceBNe, fillP, fillE, okE, okW, bound, elS, srcS, Fin, finish, ress, resOf, one, keeps, ↓reduceIte, Dl.ap, Dl.slots, okD, isLp, zeros, reduceCtorEq, zdj, zdk, lp_slices_IndexFunc_api_Hold_api_Hold_1, hq, idxF]
  · intro k x acc rest hi hx hk hk0 hw ih
    subst hi
    have hg := row_cut (z := z) hx
    unfold Hd.cells at hg
    have hA := ledger_at_1 (H := H) x id j hj
    rw [Hd.tv_eq] at hA
    rw [Run_loop]
    by_cases h1 : x.id = id
    · have e : idxF id acc (x :: rest) = acc := if_pos h1
      have hb' : (x.id == id) = true := by simp [h1]
      rw [hb'] at hA
      rw [e]
      simp (maxSteps := 4000000) only [↓set16, ↓sl16, zaa, zab, zac, zad, zz0, zz1, zz2, zz3, zz4, zae, zaf, zag, zah, zai, zaj, zak, zal, zam, zan, zao, zap, zaq, zar, zas, zat, zau, zav, zaw, zax, zay, zaz, zba, zbb, zbc, zbd, zbe, zbf, zbg, zbh, zbi, zbj, zbk, zbl, zbm, zbn, zbo, zbp, zbq, zbr, zbs, zbt, zbu, zbv, zbw, zbx, zby, zbz, zca, zcb, zcc, zcd, zce, zcf, zcg, zch, zci, zcj, zck, zcl, zcm, zcn, ne_eq, zco, zcp, zcq, zcr, zcs, List.replicate, zct, zcu, zcv, zcw, zcx, zcy, zcz, zda, zdb, zdc, zdd, zde, zdf, zdg, zdh, zdi, killT, delta, tak, ev, ad, taks, evs, nL, getH, pack, arith, callD, Nat.reduceAdd, Nat.reduceSub, Nat.reduceMul, Nat.reduceLeDiff, Nat.reduceEqDiff, Nat.reduceBEq, Nat.reduceBNe, Nat.reduceLT, Nat.reduceDiv, Int.reduceNeg, Int.reduceLT, Int.reduceLE, Int.reduceEq, Int.reduceNe, Int.reduceAdd, Int.reduceSub, Int.reduceMul, Int.reduceToNat, Int.reduceBEq, Int.reduceBNe, fillP, fillE, okE, okW, bound, elS, srcS, Fin, finish, ress, resOf, one, keeps, ↓reduceIte, Dl.ap, Dl.slots, okD, isLp, zeros, reduceCtorEq, zdj, zdk, lp_slices_IndexFunc_api_Hold_api_Hold_1, hk, hk0, hg, hb, Int.toNat_natCast, hA]
    · have e : idxF id acc (x :: rest) = idxF id (acc + 1) rest := if_neg h1
      have hb' : (x.id == id) = false := by simp [h1]
      rw [hb'] at hA
      rw [e]
      simp (maxSteps := 4000000) only [↓set16, ↓sl16, zaa, zab, zac, zad, zz0, zz1, zz2, zz3, zz4, zae, zaf, zag, zah, zai, zaj, zak, zal, zam, zan, zao, zap, zaq, zar, zas, zat, zau, zav, zaw, zax, zay, zaz, zba, zbb, zbc, zbd, zbe, zbf, zbg, zbh, zbi, zbj, zbk, zbl, zbm, zbn, zbo, zbp, zbq, zbr, zbs, zbt, zbu, zbv, zbw, zbx, zby, zbz, zca, zcb, zcc, zcd, zce, zcf, zcg, zch, zci, zcj, zck, zcl, zcm, zcn, ne_eq, zco, zcp, zcq, zcr, zcs, List.replicate, zct, zcu, zcv, zcw, zcx, zcy, zcz, zda, zdb, zdc, zdd, zde, zdf, zdg, zdh, zdi, killT, delta, tak, ev, ad, taks, evs, nL, getH, pack, arith, callD, Nat.reduceAdd, Nat.reduceSub, Nat.reduceMul, Nat.reduceLeDiff, Nat.reduceEqDiff, Nat.reduceBEq, Nat.reduceBNe, Nat.reduceLT, Nat.reduceDiv, Int.reduceNeg, Int.reduceLT, Int.reduceLE, Int.reduceEq, Int.reduceNe, Int.reduceAdd, Int.reduceSub, Int.reduceMul, Int.reduceToNat, Int.reduceBEq, Int.reduceBNe, fillP, fillE, okE, okW, bound, elS, srcS, Fin, finish, ress, resOf, one, keeps, ↓reduceIte, Dl.ap, Dl.slots, okD, isLp, zeros, reduceCtorEq, zdj, zdk, lp_slices_IndexFunc_api_Hold_api_Hold_1, hk, hk0, hg, hb, Int.toNat_natCast, hA, hw]
      exact ih _ rfl
theorem ledger_at_sl {H : Heap} (l : Lg) (hm : l.hs.length ≤ 1000000) (id : Int) : CT n_ledger_at [l.tv, .int .i64 id] H = some ⟨.int .i64 (idxF id 0 l.hs), H, false⟩ := by
  have hF := hold_IndexFunc_sl (H := H ++ [[.int .i64 id]]) l.hs hm id H.length (live_app_eq rfl)
  have ht := trim_in (fz := true) (v := .int .i64 (idxF id 0 l.hs)) (h := H) (x := [[.int .i64 id]]) rfl rfl
  rw [Lg.tv_eq]
  refine callT_of rfl tab_ledger_at ?_
  simp (maxSteps := 4000000) only [↓set16, ↓sl16, zaa, zab, zac, zad, zz0, zz1, zz2, zz3, zz4, zae, zaf, zag, zah, zai, zaj, zak, zal, zam, zan, zao, zap, zaq, zar, zas, zat, zau, zav, zaw, zax, zay, zaz, zba, zbb, zbc, zbd, zbe, zbf, zbg, zbh, zbi, zbj, zbk, zbl, zbm, zbn, zbo, zbp, zbq, zbr, zbs, zbt, zbu, zbv, zbw, zbx, zby, zbz, zca, zcb, zcc, zcd, zce, zcf, zcg, zch, zci, zcj, zck, zcl, zcm, zcn, ne_eq, zco, zcp, zcq, zcr, zcs, List.replicate, zct, zcu, zcv, zcw, zcx, zcy, zcz, zda, zdb, zdc, zdd, zde, zdf, zdg, zdh, zdi, killT, delta, tak, ev, ad, taks, evs, nL, getH, pack, arith, callD, Nat.reduceAdd, Nat.reduceSub, Nat.reduceMul, Nat.reduceLeDiff, Nat.reduceEqDiff, Nat.reduceBEq, Nat.reduceBNe, Nat.reduceLT, Nat.reduceDiv, Int.reduceNeg, Int.reduceLT, Int.reduceLE, Int.reduceEq, Int.reduceNe, Int.reduceAdd, Int.reduceSub, Int.reduceMul, Int.reduceToNat, Int.reduceBEq, Int.reduceBNe, fillP, fillE, okE, okW, bound, elS, srcS, Fin, finish, ress, resOf, one, keeps, ↓reduceIte, Dl.ap, Dl.slots, okD, isLp, zeros, reduceCtorEq, zdj, zdk, tf_ledger_at, hF, ht, TV.noOwn]
theorem ledger_at_asl {H : Heap} {i : Nat} (l : Lg) (z : List TV) (hb : live H i = some (row l.hs ++ z)) (hm : l.hs.length ≤ 1000000) (id : Int) : CT n_ledger_at [l.tvw (.asl true 6 i 0 l.hs.length), .int .i64 id] H = some ⟨.int .i64 (idxF id 0 l.hs), H, false⟩ := by
  have hb' : live (H ++ [[.int .i64 id]]) i = some (row l.hs ++ z) := by rw [live_app_lt (live_lt hb)]; exact hb
  have hF := hold_IndexFunc_asl (H := H ++ [[.int .i64 id]]) l.hs z hb' hm id H.length (live_app_eq rfl)
  have ht := trim_in (fz := true) (v := .int .i64 (idxF id 0 l.hs)) (h := H) (x := [[.int .i64 id]]) rfl rfl
  unfold Lg.tvw
  refine callT_of rfl tab_ledger_at ?_
  simp (maxSteps := 4000000) only [↓set16, ↓sl16, zaa, zab, zac, zad, zz0, zz1, zz2, zz3, zz4, zae, zaf, zag, zah, zai, zaj, zak, zal, zam, zan, zao, zap, zaq, zar, zas, zat, zau, zav, zaw, zax, zay, zaz, zba, zbb, zbc, zbd, zbe, zbf, zbg, zbh, zbi, zbj, zbk, zbl, zbm, zbn, zbo, zbp, zbq, zbr, zbs, zbt, zbu, zbv, zbw, zbx, zby, zbz, zca, zcb, zcc, zcd, zce, zcf, zcg, zch, zci, zcj, zck, zcl, zcm, zcn, ne_eq, zco, zcp, zcq, zcr, zcs, List.replicate, zct, zcu, zcv, zcw, zcx, zcy, zcz, zda, zdb, zdc, zdd, zde, zdf, zdg, zdh, zdi, killT, delta, tak, ev, ad, taks, evs, nL, getH, pack, arith, callD, Nat.reduceAdd, Nat.reduceSub, Nat.reduceMul, Nat.reduceLeDiff, Nat.reduceEqDiff, Nat.reduceBEq, Nat.reduceBNe, Nat.reduceLT, Nat.reduceDiv, Int.reduceNeg, Int.reduceLT, Int.reduceLE, Int.reduceEq, Int.reduceNe, Int.reduceAdd, Int.reduceSub, Int.reduceMul, Int.reduceToNat, Int.reduceBEq, Int.reduceBNe, fillP, fillE, okE, okW, bound, elS, srcS, Fin, finish, ress, resOf, one, keeps, ↓reduceIte, Dl.ap, Dl.slots, okD, isLp, zeros, reduceCtorEq, zdj, zdk, tf_ledger_at, hF, ht, TV.noOwn]
end Go.T
